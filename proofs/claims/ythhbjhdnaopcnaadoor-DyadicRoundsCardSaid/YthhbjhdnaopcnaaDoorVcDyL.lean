/- Verification conditions of some of the program's functions, printed by a program of this session. No condition. -/
import Derived.Test.YthhbjhdnaopcnaaDoorProg
import Derived.Test.YthhbjhdnaopcnaaDoorEng
namespace Go.Proofs.YthhbjhdnaopcnaaDoor
open Go Go.RowKit Eng
set_option linter.unusedVariables false

set_option maxRecDepth 100000 in
/-- surd/surdlaw08.num: function 13. -/
theorem surdlaw08_num_vc (a0_e : Int) (w : World) (R : Ending → World → Prop)
    
    (h : R (.returned (Value.int .i64 a0_e)) w) :
    Calls Tryd.prog 13 #[Value.int .i64 a0_e] w R := by
  refine calls_of_vc (fun _ => none) (by kernel_rfl) Tryd.func13 rfl ?_ ?_
  · refine kcast h ?_; kernel_rfl
  · exact (obl_seq rfl (obl_reg (obl_seq rfl (obl_reg (obl_ret trivial)))))

set_option maxRecDepth 100000 in
/-- surd/surdlaw08.awake: function 14. -/
theorem surdlaw08_awake_vc  (w : World) (R : Ending → World → Prop)
    
    (h : newC w #[Value.int .u64 12] 94 fun ad1 w1 =>
    Calls Tryd.prog 20 #[Value.agg #[Value.bool false, (⟨some ad1, 1, 1⟩ : Slc).v], Value.int .i64 (-3)] w1 fun e1 w2 =>
    ∃ b1 : Bool, ∃ s1 : Slc, ∃ x1 : Int, ∃ x2 : Int, e1 = .returned (Value.tuple #[Value.agg #[Value.bool b1, s1.v, Value.int .i64 x1], Value.int .i64 x2]) ∧
    (newC w2 #[Value.bool false, (⟨none, 0, 0⟩ : Slc).v, Value.int .i64 0] 33 fun ad2 w3 =>
      stC ad2 (Value.bool b1) w3 fun w4 =>
      stC (ad2.add 1) s1.v w4 fun w5 =>
      stC (ad2.add 2) (Value.int .i64 x1) w5 fun w6 =>
      Calls Tryd.prog 13 #[Value.int .i64 x2] w6.drew fun e2 w7 =>
      ∃ x3 : Int, e2 = .returned (Value.int .i64 x3) ∧
      (Ahead w6.drew w7 ∧
        (br (x3 == 0)
          (ldB ad2 w7 fun b2 =>
            ldS (ad2.add 1) w7 fun s2 =>
            ldI .i64 (ad2.add 2) w7 fun x4 =>
            Calls Tryd.prog 29 #[Value.int .i64 3, Value.int .i64 (-1)] w7 fun e3 w8 =>
            ∃ b3 : Bool, ∃ s3 : Slc, ∃ x5 : Int, e3 = .returned (Value.agg #[Value.bool b3, s3.v, Value.int .i64 x5]) ∧
            (Ahead w7 w8 ∧
              (Calls Tryd.prog 30 #[Value.agg #[Value.bool b3, s3.v, Value.int .i64 x5], Value.bool b2, s2.v, Value.int .i64 x4] w8 fun e4 w9 =>
                ∃ b4 : Bool, e4 = .returned (Value.bool b4) ∧
                (Ahead w8 w9 ∧
                  (R (.returned (Value.bool b4)) w9)))))
          (R (.returned (Value.bool false)) w7))))) :
    Calls Tryd.prog 14 #[] w R := by
  refine calls_of_vc (fun _ => none) (by kernel_rfl) Tryd.func14 rfl ?_ ?_
  · refine kcast h ?_; kernel_rfl
  · exact (obl_seq rfl (obl_reg (obl_seq rfl (obl_reg (obl_seq rfl (obl_held (by kernel_rfl) (by kernel_rfl) (by kernel_rfl) (obl_ret trivial)))))))

set_option maxRecDepth 100000 in
/-- surd/surdlaw08.alike: function 26. -/
theorem surdlaw08_alike_vc (a0_a_0 : Bool) (a0_a_1 : Slc) (a0_a_2 : Int) (a1_e : Int) (a2_want_0 : Bool) (a2_want_1 : Slc) (a2_want_2 : Int) (a3_f : Int) (w : World) (R : Ending → World → Prop)
    
    (h : newC w #[Value.bool a0_a_0, a0_a_1.v, Value.int .i64 a0_a_2] 33 fun ad1 w1 =>
    newC w1 #[Value.bool a2_want_0, a2_want_1.v, Value.int .i64 a2_want_2] 47 fun ad2 w2 =>
    br (a3_f == 0)
    (ldB ad2 w2 fun b1 =>
      ldS (ad2.add 1) w2 fun s1 =>
      ldI .i64 (ad2.add 2) w2 fun x1 =>
      Calls Tryd.prog 74 #[Value.agg #[Value.bool b1, s1.v, Value.int .i64 x1]] w2 fun e1 w3 =>
      ∃ b2 : Bool, ∃ s2 : Slc, ∃ x2 : Int, ∃ x3 : Int, e1 = .returned (Value.tuple #[Value.agg #[Value.bool b2, s2.v, Value.int .i64 x2], Value.int .i64 x3]) ∧
      (stC ad2 (Value.bool b2) w3 fun w4 =>
        stC (ad2.add 1) s2.v w4 fun w5 =>
        stC (ad2.add 2) (Value.int .i64 x2) w5 fun w6 =>
        br (x3 != 0)
        (Calls Tryd.prog 13 #[Value.int .i64 a1_e] w6 fun e2 w7 =>
          ∃ x4 : Int, e2 = .returned (Value.int .i64 x4) ∧
          (br (x4 == x3)
            (ldB ad1 w7 fun b3 =>
              br (!b3)
              (ldS (ad1.add 1) w7 fun s3 =>
                br ((s3.n : Int) == 0)
                (ldI .i64 (ad1.add 2) w7 fun x5 =>
                  R (.returned (Value.bool (x5 == 0))) w7)
                (R (.returned (Value.bool false)) w7))
              (R (.returned (Value.bool false)) w7))
            (R (.returned (Value.bool false)) w7)))
        (Calls Tryd.prog 13 #[Value.int .i64 a1_e] w6 fun e3 w8 =>
          ∃ x6 : Int, e3 = .returned (Value.int .i64 x6) ∧
          (br (x6 == 0)
            (ldB ad2 w8 fun b4 =>
              ldS (ad2.add 1) w8 fun s4 =>
              ldI .i64 (ad2.add 2) w8 fun x7 =>
              ldB ad1 w8 fun b5 =>
              ldS (ad1.add 1) w8 fun s5 =>
              ldI .i64 (ad1.add 2) w8 fun x8 =>
              Calls Tryd.prog 30 #[Value.agg #[Value.bool b4, s4.v, Value.int .i64 x7], Value.bool b5, s5.v, Value.int .i64 x8] w8 fun e4 w9 =>
              ∃ b6 : Bool, e4 = .returned (Value.bool b6) ∧
              (R (.returned (Value.bool b6)) w9))
            (R (.returned (Value.bool false)) w8)))))
    (br (a3_f != 0)
      (Calls Tryd.prog 13 #[Value.int .i64 a1_e] w2 fun e5 w10 =>
        ∃ x9 : Int, e5 = .returned (Value.int .i64 x9) ∧
        (br (x9 == a3_f)
          (ldB ad1 w10 fun b7 =>
            br (!b7)
            (ldS (ad1.add 1) w10 fun s6 =>
              br ((s6.n : Int) == 0)
              (ldI .i64 (ad1.add 2) w10 fun x10 =>
                R (.returned (Value.bool (x10 == 0))) w10)
              (R (.returned (Value.bool false)) w10))
            (R (.returned (Value.bool false)) w10))
          (R (.returned (Value.bool false)) w10)))
      (Calls Tryd.prog 13 #[Value.int .i64 a1_e] w2 fun e6 w11 =>
        ∃ x11 : Int, e6 = .returned (Value.int .i64 x11) ∧
        (br (x11 == 0)
          (ldB ad2 w11 fun b8 =>
            ldS (ad2.add 1) w11 fun s7 =>
            ldI .i64 (ad2.add 2) w11 fun x12 =>
            ldB ad1 w11 fun b9 =>
            ldS (ad1.add 1) w11 fun s8 =>
            ldI .i64 (ad1.add 2) w11 fun x13 =>
            Calls Tryd.prog 30 #[Value.agg #[Value.bool b8, s7.v, Value.int .i64 x12], Value.bool b9, s8.v, Value.int .i64 x13] w11 fun e7 w12 =>
            ∃ b10 : Bool, e7 = .returned (Value.bool b10) ∧
            (R (.returned (Value.bool b10)) w12))
          (R (.returned (Value.bool false)) w11))))) :
    Calls Tryd.prog 26 #[Value.agg #[Value.bool a0_a_0, a0_a_1.v, Value.int .i64 a0_a_2], Value.int .i64 a1_e, Value.agg #[Value.bool a2_want_0, a2_want_1.v, Value.int .i64 a2_want_2], Value.int .i64 a3_f] w R := by
  refine calls_of_vc (fun _ => none) (by kernel_rfl) Tryd.func26 rfl ?_ ?_
  · refine kcast h ?_; kernel_rfl
  · exact (obl_seq rfl (obl_reg (obl_seq rfl (obl_seq rfl (obl_reg (obl_cond (obl_reg (obl_skip (obl_seq rfl (obl_seq rfl (obl_reg (obl_cond (obl_seq rfl (obl_reg (obl_ret (obl_skip (obl_seq rfl (obl_reg (obl_ret trivial)))))))))))))))))))

set_option maxRecDepth 100000 in
/-- surd/surdlaw08.lent: function 19. -/
theorem surdlaw08_lent_vc (a0_a_0 : Bool) (a0_a_1 : Slc) (a0_a_2 : Int) (w : World) (R : Ending → World → Prop)
    
    (h : newC w #[Value.bool a0_a_0, a0_a_1.v, Value.int .i64 a0_a_2] 27 fun ad1 w1 =>
    newC w1 #[Value.bool false, (⟨none, 0, 0⟩ : Slc).v, Value.int .i64 0] 33 fun ad2 w2 =>
    ldS (ad1.add 1) w2 fun s1 =>
    Calls Tryd.prog 65 #[s1.v] w2 fun e1 w3 =>
    ∃ s2 : Slc, ∃ s3 : Slc, e1 = .returned (Value.tuple #[s2.v, s3.v]) ∧
    (ldB ad1 w3 fun b1 =>
      ldI .i64 (ad1.add 2) w3 fun x1 =>
      stC ad2 (Value.bool b1) w3.drew fun w4 =>
      stC (ad2.add 1) s3.v w4 fun w5 =>
      stC (ad2.add 2) (Value.int .i64 x1) w5 fun w6 =>
      ldB ad2 w6 fun b2 =>
      ldS (ad2.add 1) w6 fun s4 =>
      ldI .i64 (ad2.add 2) w6 fun x2 =>
      R (.returned (Value.tuple #[s2.v, Value.agg #[Value.bool b2, s4.v, Value.int .i64 x2]])) w6)) :
    Calls Tryd.prog 19 #[Value.agg #[Value.bool a0_a_0, a0_a_1.v, Value.int .i64 a0_a_2]] w R := by
  refine calls_of_vc (fun _ => none) (by kernel_rfl) Tryd.func19 rfl ?_ ?_
  · refine kcast h ?_; kernel_rfl
  · exact (obl_seq rfl (obl_reg (obl_seq rfl (obl_reg (obl_seq rfl (obl_tail 9 (by kernel_rfl) (by kernel_rfl) (by kernel_rfl) (by kernel_rfl) (by kernel_rfl) (obl_ret trivial)))))))

set_option maxRecDepth 100000 in
/-- surd/surdlaw08.of: function 35. -/
theorem surdlaw08_of_vc (a0_a_0 : Bool) (a0_a_1 : Slc) (a0_a_2 : Int) (w : World) (R : Ending → World → Prop)
    
    (h : newC w #[Value.bool a0_a_0, a0_a_1.v, Value.int .i64 a0_a_2] 27 fun ad1 w1 =>
    newC w1 #[Value.bool false, (⟨none, 0, 0⟩ : Slc).v, Value.int .i64 0] 47 fun ad2 w2 =>
    ldI .i64 (ad1.add 2) w2 fun x1 =>
    Calls Tryd.prog 78 #[Value.int .i64 x1] w2 fun e1 w3 =>
    ∃ b1 : Bool, e1 = .returned (Value.bool b1) ∧
    (br (!b1)
      (stC ad2 (Value.bool false) w3 fun w4 =>
        stC (ad2.add 1) ((⟨none, 0, 0⟩ : Slc).v) w4 fun w5 =>
        stC (ad2.add 2) (Value.int .i64 0) w5 fun w6 =>
        ldB ad2 w6 fun b2 =>
        ldS (ad2.add 1) w6 fun s1 =>
        ldI .i64 (ad2.add 2) w6 fun x2 =>
        R (.returned (Value.tuple #[Value.agg #[Value.bool b2, s1.v, Value.int .i64 x2], Value.bool false])) w6)
      (ldB ad1 w3.drew fun b3 =>
        ldS (ad1.add 1) w3.drew fun s2 =>
        ldI .i64 (ad1.add 2) w3.drew fun x3 =>
        Calls Tryd.prog 21 #[Value.bool b3, s2.v] w3.drew fun e2 w7 =>
        ∃ b4 : Bool, ∃ s3 : Slc, e2 = .returned (Value.agg #[Value.bool b4, s3.v]) ∧
        (Ahead w3.drew w7 ∧
          (Calls Tryd.prog 22 #[Value.agg #[Value.bool b4, s3.v], Value.int .i64 x3] w7 fun e3 w8 =>
            ∃ b5 : Bool, ∃ s4 : Slc, ∃ x4 : Int, e3 = .returned (Value.agg #[Value.bool b5, s4.v, Value.int .i64 x4]) ∧
            (Ahead w7 w8 ∧
              (stC ad2 (Value.bool b5) w8 fun w9 =>
                stC (ad2.add 1) s4.v w9 fun w10 =>
                stC (ad2.add 2) (Value.int .i64 x4) w10 fun w11 =>
                ldB ad2 w11 fun b6 =>
                ldS (ad2.add 1) w11 fun s5 =>
                ldI .i64 (ad2.add 2) w11 fun x5 =>
                R (.returned (Value.tuple #[Value.agg #[Value.bool b6, s5.v, Value.int .i64 x5], Value.bool true])) w11))))))) :
    Calls Tryd.prog 35 #[Value.agg #[Value.bool a0_a_0, a0_a_1.v, Value.int .i64 a0_a_2]] w R := by
  refine calls_of_vc (fun _ => none) (by kernel_rfl) Tryd.func35 rfl ?_ ?_
  · refine kcast h ?_; kernel_rfl
  · exact (obl_seq rfl (obl_reg (obl_seq rfl (obl_seq rfl (obl_reg (obl_cond (obl_seq rfl (obl_reg (obl_ret (obl_skip (obl_seq rfl (obl_held (by kernel_rfl) (by kernel_rfl) (by kernel_rfl) (obl_ret trivial)))))))))))))

set_option maxRecDepth 100000 in
/-- surd/surdlaw08.fit: function 15. -/
theorem surdlaw08_fit_vc (a0_k : Int) (w : World) (R : Ending → World → Prop)
    
    (h : br (decide (a0_k ≥ (-1099511627776)))
    (R (.returned (Value.bool (decide (a0_k ≤ 1099511627776)))) w)
    (R (.returned (Value.bool false)) w)) :
    Calls Tryd.prog 15 #[Value.int .i64 a0_k] w R := by
  refine calls_of_vc (fun _ => none) (by kernel_rfl) Tryd.func15 rfl ?_ ?_
  · refine kcast h ?_; kernel_rfl
  · exact (obl_seq rfl (obl_reg (obl_seq rfl (obl_reg (obl_ret trivial)))))

set_option maxRecDepth 100000 in
/-- surd/surdlaw08.mode: function 37. -/
theorem surdlaw08_mode_vc (a0_m : Int) (w : World) (R : Ending → World → Prop)
    
    (h : br (decide (a0_m ≥ 0))
    (R (.returned (Value.bool (decide (a0_m ≤ 2)))) w)
    (R (.returned (Value.bool false)) w)) :
    Calls Tryd.prog 37 #[Value.int .i64 a0_m] w R := by
  refine calls_of_vc (fun _ => none) (by kernel_rfl) Tryd.func37 rfl ?_ ?_
  · refine kcast h ?_; kernel_rfl
  · exact (obl_seq rfl (obl_reg (obl_seq rfl (obl_reg (obl_ret trivial)))))

set_option maxRecDepth 100000 in
/-- surd/surdlaw08.in: function 17. -/
theorem surdlaw08_in_vc (a0_a_0 : Bool) (a0_a_1 : Slc) (a0_a_2 : Int) (w : World) (R : Ending → World → Prop)
    
    (h : newC w #[Value.bool a0_a_0, a0_a_1.v, Value.int .i64 a0_a_2] 27 fun ad1 w1 =>
    newC w1 #[Value.bool false, (⟨none, 0, 0⟩ : Slc).v, Value.int .i64 0] 33 fun ad2 w2 =>
    ldB ad1 w2 fun b1 =>
    ldS (ad1.add 1) w2 fun s1 =>
    ldI .i64 (ad1.add 2) w2 fun x1 =>
    stC ad2 (Value.bool b1) w2 fun w3 =>
    stC (ad2.add 1) s1.v w3 fun w4 =>
    stC (ad2.add 2) (Value.int .i64 x1) w4 fun w5 =>
    ldB ad2 w5 fun b2 =>
    ldS (ad2.add 1) w5 fun s2 =>
    ldI .i64 (ad2.add 2) w5 fun x2 =>
    R (.returned (Value.agg #[Value.bool b2, s2.v, Value.int .i64 x2])) w5) :
    Calls Tryd.prog 17 #[Value.agg #[Value.bool a0_a_0, a0_a_1.v, Value.int .i64 a0_a_2]] w R := by
  refine calls_of_vc (fun _ => none) (by kernel_rfl) Tryd.func17 rfl ?_ ?_
  · refine kcast h ?_; kernel_rfl
  · exact (obl_seq rfl (obl_reg (obl_seq rfl (obl_reg (obl_ret trivial)))))

set_option maxRecDepth 100000 in
/-- surd/surdlaw08.read: function 58. -/
theorem surdlaw08_read_vc (a0_a_0 : Bool) (a0_a_1 : Slc) (a0_a_2 : Int) (w : World) (R : Ending → World → Prop)
    
    (h : newC w #[Value.bool a0_a_0, a0_a_1.v, Value.int .i64 a0_a_2] 33 fun ad1 w1 =>
    newC w1 #[Value.bool false, (⟨none, 0, 0⟩ : Slc).v, Value.int .i64 0] 47 fun ad2 w2 =>
    ldB ad1 w2.drew fun b1 =>
    ldS (ad1.add 1) w2.drew fun s1 =>
    ldI .i64 (ad1.add 2) w2.drew fun x1 =>
    Calls Tryd.prog 21 #[Value.bool b1, s1.v] w2.drew fun e1 w3 =>
    ∃ b2 : Bool, ∃ s2 : Slc, e1 = .returned (Value.agg #[Value.bool b2, s2.v]) ∧
    (Ahead w2.drew w3 ∧
      (Calls Tryd.prog 22 #[Value.agg #[Value.bool b2, s2.v], Value.int .i64 x1] w3 fun e2 w4 =>
        ∃ b3 : Bool, ∃ s3 : Slc, ∃ x2 : Int, e2 = .returned (Value.agg #[Value.bool b3, s3.v, Value.int .i64 x2]) ∧
        (Ahead w3 w4 ∧
          (stC ad2 (Value.bool b3) w4 fun w5 =>
            stC (ad2.add 1) s3.v w5 fun w6 =>
            stC (ad2.add 2) (Value.int .i64 x2) w6 fun w7 =>
            ldB ad2 w7 fun b4 =>
            ldS (ad2.add 1) w7 fun s4 =>
            ldI .i64 (ad2.add 2) w7 fun x3 =>
            R (.returned (Value.agg #[Value.bool b4, s4.v, Value.int .i64 x3])) w7))))) :
    Calls Tryd.prog 58 #[Value.agg #[Value.bool a0_a_0, a0_a_1.v, Value.int .i64 a0_a_2]] w R := by
  refine calls_of_vc (fun _ => none) (by kernel_rfl) Tryd.func58 rfl ?_ ?_
  · refine kcast h ?_; kernel_rfl
  · exact (obl_seq rfl (obl_reg (obl_seq rfl (obl_held (by kernel_rfl) (by kernel_rfl) (by kernel_rfl) (obl_ret trivial)))))

set_option maxRecDepth 100000 in
/-- surd/surdlaw08.same: function 18. -/
theorem surdlaw08_same_vc (a0_a_0 : Bool) (a0_a_1 : Slc) (a0_a_2 : Int) (a1_b_0 : Bool) (a1_b_1 : Slc) (a1_b_2 : Int) (w : World) (R : Ending → World → Prop)
    
    (h : newC w #[Value.bool a0_a_0, a0_a_1.v, Value.int .i64 a0_a_2] 33 fun ad1 w1 =>
    newC w1 #[Value.bool a1_b_0, a1_b_1.v, Value.int .i64 a1_b_2] 33 fun ad2 w2 =>
    ldB ad1 w2.drew fun b1 =>
    ldS (ad1.add 1) w2.drew fun s1 =>
    ldB ad2 w2.drew fun b2 =>
    ldS (ad2.add 1) w2.drew fun s2 =>
    Calls Tryd.prog 21 #[Value.bool b1, s1.v] w2.drew fun e1 w3 =>
    ∃ b3 : Bool, ∃ s3 : Slc, e1 = .returned (Value.agg #[Value.bool b3, s3.v]) ∧
    (Ahead w2.drew w3 ∧
      (Calls Tryd.prog 43 #[Value.agg #[Value.bool b3, s3.v], Value.bool b2, s2.v] w3 fun e2 w4 =>
        ∃ b4 : Bool, e2 = .returned (Value.bool b4) ∧
        (Ahead w3 w4 ∧
          (br b4
            (ldI .i64 (ad1.add 2) w4 fun x1 =>
              ldI .i64 (ad2.add 2) w4 fun x2 =>
              R (.returned (Value.bool (x1 == x2))) w4)
            (R (.returned (Value.bool false)) w4)))))) :
    Calls Tryd.prog 18 #[Value.agg #[Value.bool a0_a_0, a0_a_1.v, Value.int .i64 a0_a_2], Value.agg #[Value.bool a1_b_0, a1_b_1.v, Value.int .i64 a1_b_2]] w R := by
  refine calls_of_vc (fun _ => none) (by kernel_rfl) Tryd.func18 rfl ?_ ?_
  · refine kcast h ?_; kernel_rfl
  · exact (obl_seq rfl (obl_reg (obl_seq rfl (obl_held (by kernel_rfl) (by kernel_rfl) (by kernel_rfl) (obl_ret trivial)))))

def surdlaw08_all_cut (J0 : Slc → Int → Int → World → Prop) (m0 : Slc → Int → Int → World → Nat) : Nat → Option ((Act → World → Prop) × (Act → World → Nat))
  | 0 => some (fun a_ w_ => atSz a_ 15 (atS a_ 5 fun t5 => atI .i64 a_ 6 fun t6 => atI .i64 a_ 7 fun t7 => J0 t5 t6 t7 w_), fun a_ w_ => mS a_ 5 fun t5 => mI a_ 6 fun t6 => mI a_ 7 fun t7 => m0 t5 t6 t7 w_)
  | _ => none

set_option maxRecDepth 100000 in
/-- surd/surdlaw08.all: function 57. -/
theorem surdlaw08_all_vc (a0_l : Slc) (w : World) (R : Ending → World → Prop)
    (J0 : Slc → Int → Int → World → Prop) (m0 : Slc → Int → Int → World → Nat)
    (h : J0 a0_l (a0_l.n : Int) 0 w)
    (h0 : ∀ (t5 : Slc) (t6 : Int) (t7 : Int) (w_ : World), J0 t5 t6 t7 w_ → 
    br (decide (t7 < t6))
    (semA Tryd.prog (Instr.indexAt 128 t5.v (Value.int .i64 t7)) w_ fun ad1 w1 =>
      ldI .i64 ad1 w1 fun x1 =>
      Calls Tryd.prog 13 #[Value.int .i64 x1] w1 fun e1 w2 =>
      ∃ x2 : Int, e1 = .returned (Value.int .i64 x2) ∧
      (br (x2 != 0)
        (R (.returned (Value.bool false)) w2)
        (J0 t5 t6 (IntKind.i64.wrap (t7 + 1)) w2 ∧
          m0 t5 t6 (IntKind.i64.wrap (t7 + 1)) w2 < m0 t5 t6 t7 w_)))
    (R (.returned (Value.bool true)) w_)) :
    Calls Tryd.prog 57 #[a0_l.v] w R := by
  refine calls_of_vc (surdlaw08_all_cut J0 m0) (by kernel_rfl) Tryd.func57 rfl ?_ ?_
  · refine kcast h ?_; kernel_rfl
  · exact (obl_seq rfl (obl_reg (obl_seq rfl (obl_seq rfl (obl_reg (obl_loop _ rfl (fun a_ w_ hL_ => (by
    obtain ⟨hz_, hd_, hL_⟩ := atSz_out hL_
    obtain ⟨t5, h5_, hL_⟩ := atS_out hL_
    obtain ⟨t6, h6_, hL_⟩ := atI_out hL_
    obtain ⟨t7, h7_, hL_⟩ := atI_out hL_
    obtain ⟨g0, rfl⟩ : ∃ g, a_ = Fr 15 [(5, t5.v), (6, Value.int .i64 t6), (7, Value.int .i64 t7)] g := ⟨_, fr_of hz_ hd_ [(5, t5.v), (6, Value.int .i64 t6), (7, Value.int .i64 t7)] (sel_cons h5_ (sel_cons h6_ (sel_cons h7_ sel_nil)))⟩
    clear hz_ hd_ h5_ h6_ h7_
    have hJ0_ := hL_
    refine ⟨(fun _ => none), kcast (h0 t5 t6 t7 w_ hJ0_) ?_, ?_⟩
    · kernel_rfl
    · exact (obl_seq rfl (obl_reg (obl_seq rfl (obl_cond (obl_skip (obl_exit (obl_seq rfl (obl_blk rfl (obl_seq rfl (obl_reg (obl_seq rfl (obl_reg (obl_cond (obl_seq rfl (obl_reg (obl_ret (obl_skip (obl_reg trivial)))))))))))))))))))) (obl_seq rfl (obl_reg (obl_ret trivial)))))))))

set_option maxRecDepth 100000 in
/-- surd/surdlaw08.at: function 59. -/
theorem surdlaw08_at_vc (a0_d_0 : Bool) (a0_d_1 : Slc) (a0_d_2 : Int) (a1_pos : Int) (w : World) (R : Ending → World → Prop)
    
    (h : newC w #[Value.bool a0_d_0, a0_d_1.v, Value.int .i64 a0_d_2] 47 fun ad1 w1 =>
    ldB ad1 w1 fun b1 =>
    ldS (ad1.add 1) w1 fun s1 =>
    Calls Tryd.prog 28 #[Value.agg #[Value.bool b1, s1.v]] w1 fun e1 w2 =>
    ∃ x1 : Int, e1 = .returned (Value.int .i64 x1) ∧
    (br (x1 == 0)
      (R (.returned (Value.bool true)) w2)
      (ldI .i64 (ad1.add 2) w2 fun x2 =>
        R (.returned (Value.bool (decide (x2 ≥ a1_pos)))) w2))) :
    Calls Tryd.prog 59 #[Value.agg #[Value.bool a0_d_0, a0_d_1.v, Value.int .i64 a0_d_2], Value.int .i64 a1_pos] w R := by
  refine calls_of_vc (fun _ => none) (by kernel_rfl) Tryd.func59 rfl ?_ ?_
  · refine kcast h ?_; kernel_rfl
  · exact (obl_seq rfl (obl_reg (obl_seq rfl (obl_reg (obl_ret trivial)))))

set_option maxRecDepth 100000 in
/-- surd/surdlaw08.DyadicNames: function 3. -/
theorem surdlaw08_DyadicNames_vc  (w : World) (R : Ending → World → Prop)
    
    (h : Calls Tryd.prog 13 #[Value.int .i64 80] w fun e1 w1 =>
    ∃ x1 : Int, e1 = .returned (Value.int .i64 x1) ∧
    (br (x1 == 80)
      (Calls Tryd.prog 13 #[Value.int .i64 81] w1 fun e2 w2 =>
        ∃ x2 : Int, e2 = .returned (Value.int .i64 x2) ∧
        (br (x2 == 81)
          (Calls Tryd.prog 13 #[Value.int .i64 82] w2 fun e3 w3 =>
            ∃ x3 : Int, e3 = .returned (Value.int .i64 x3) ∧
            (br (x3 == 82)
              (Calls Tryd.prog 14 #[] w3 fun e4 w4 =>
                ∃ b1 : Bool, e4 = .returned (Value.bool b1) ∧
                (R (.returned (Value.bool b1)) w4))
              (R (.returned (Value.bool false)) w3)))
          (R (.returned (Value.bool false)) w2)))
      (R (.returned (Value.bool false)) w1))) :
    Calls Tryd.prog 3 #[] w R := by
  refine calls_of_vc (fun _ => none) (by kernel_rfl) Tryd.func3 rfl ?_ ?_
  · refine kcast h ?_; kernel_rfl
  · exact (obl_seq rfl (obl_reg (obl_seq rfl (obl_reg (obl_ret trivial)))))

set_option maxRecDepth 100000 in
/-- surd/surdlaw08.DyadicScales: function 4. -/
theorem surdlaw08_DyadicScales_vc (a0_0 : Bool) (a0_1 : Slc) (a0_2 : Int) (a1 : Int) (a2 : Int) (w : World) (R : Ending → World → Prop)
    
    (h : newC w #[Value.bool a0_0, a0_1.v, Value.int .i64 a0_2] 27 fun ad1 w1 =>
    Calls Tryd.prog 15 #[Value.int .i64 a1] w1 fun e1 w2 =>
    ∃ b1 : Bool, e1 = .returned (Value.bool b1) ∧
    (br (!b1)
      (Calls Tryd.prog 14 #[] w2 fun e2 w3 =>
        ∃ b2 : Bool, e2 = .returned (Value.bool b2) ∧
        (R (.returned (Value.bool b2)) w3))
      (Calls Tryd.prog 15 #[Value.int .i64 a2] w2 fun e3 w4 =>
        ∃ b3 : Bool, e3 = .returned (Value.bool b3) ∧
        (br (!b3)
          (Calls Tryd.prog 14 #[] w4 fun e4 w5 =>
            ∃ b4 : Bool, e4 = .returned (Value.bool b4) ∧
            (R (.returned (Value.bool b4)) w5))
          (Calls Tryd.prog 15 #[Value.int .i64 (IntKind.i64.wrap (a1 + a2))] w4 fun e5 w6 =>
            ∃ b5 : Bool, e5 = .returned (Value.bool b5) ∧
            (br (!b5)
              (Calls Tryd.prog 14 #[] w6 fun e6 w7 =>
                ∃ b6 : Bool, e6 = .returned (Value.bool b6) ∧
                (R (.returned (Value.bool b6)) w7))
              (ldB ad1 w6 fun b7 =>
                ldS (ad1.add 1) w6 fun s1 =>
                ldI .i64 (ad1.add 2) w6 fun x1 =>
                Calls Tryd.prog 17 #[Value.agg #[Value.bool b7, s1.v, Value.int .i64 x1]] w6 fun e7 w8 =>
                ∃ b8 : Bool, ∃ s2 : Slc, ∃ x2 : Int, e7 = .returned (Value.agg #[Value.bool b8, s2.v, Value.int .i64 x2]) ∧
                (Calls Tryd.prog 16 #[Value.agg #[Value.bool b8, s2.v, Value.int .i64 x2], Value.int .i64 a1] w8 fun e8 w9 =>
                  ∃ b9 : Bool, ∃ s3 : Slc, ∃ x3 : Int, ∃ x4 : Int, e8 = .returned (Value.tuple #[Value.agg #[Value.bool b9, s3.v, Value.int .i64 x3], Value.int .i64 x4]) ∧
                  (newC w9 #[Value.bool false, (⟨none, 0, 0⟩ : Slc).v, Value.int .i64 0] 33 fun ad2 w10 =>
                    stC ad2 (Value.bool b9) w10 fun w11 =>
                    stC (ad2.add 1) s3.v w11 fun w12 =>
                    stC (ad2.add 2) (Value.int .i64 x3) w12 fun w13 =>
                    Calls Tryd.prog 13 #[Value.int .i64 x4] w13 fun e9 w14 =>
                    ∃ x5 : Int, e9 = .returned (Value.int .i64 x5) ∧
                    (br (x5 != 0)
                      (Calls Tryd.prog 14 #[] w14 fun e10 w15 =>
                        ∃ b10 : Bool, e10 = .returned (Value.bool b10) ∧
                        (R (.returned (Value.bool b10)) w15))
                      (ldB ad2 w14 fun b11 =>
                        ldS (ad2.add 1) w14 fun s4 =>
                        ldI .i64 (ad2.add 2) w14 fun x6 =>
                        Calls Tryd.prog 16 #[Value.agg #[Value.bool b11, s4.v, Value.int .i64 x6], Value.int .i64 a2] w14 fun e11 w16 =>
                        ∃ b12 : Bool, ∃ s5 : Slc, ∃ x7 : Int, ∃ x8 : Int, e11 = .returned (Value.tuple #[Value.agg #[Value.bool b12, s5.v, Value.int .i64 x7], Value.int .i64 x8]) ∧
                        (newC w16 #[Value.bool false, (⟨none, 0, 0⟩ : Slc).v, Value.int .i64 0] 33 fun ad3 w17 =>
                          stC ad3 (Value.bool b12) w17 fun w18 =>
                          stC (ad3.add 1) s5.v w18 fun w19 =>
                          stC (ad3.add 2) (Value.int .i64 x7) w19 fun w20 =>
                          ldB ad1 w20 fun b13 =>
                          ldS (ad1.add 1) w20 fun s6 =>
                          ldI .i64 (ad1.add 2) w20 fun x9 =>
                          Calls Tryd.prog 17 #[Value.agg #[Value.bool b13, s6.v, Value.int .i64 x9]] w20 fun e12 w21 =>
                          ∃ b14 : Bool, ∃ s7 : Slc, ∃ x10 : Int, e12 = .returned (Value.agg #[Value.bool b14, s7.v, Value.int .i64 x10]) ∧
                          (Calls Tryd.prog 16 #[Value.agg #[Value.bool b14, s7.v, Value.int .i64 x10], Value.int .i64 (IntKind.i64.wrap (a1 + a2))] w21 fun e13 w22 =>
                            ∃ b15 : Bool, ∃ s8 : Slc, ∃ x11 : Int, ∃ x12 : Int, e13 = .returned (Value.tuple #[Value.agg #[Value.bool b15, s8.v, Value.int .i64 x11], Value.int .i64 x12]) ∧
                            (newC w22 #[Value.bool false, (⟨none, 0, 0⟩ : Slc).v, Value.int .i64 0] 33 fun ad4 w23 =>
                              stC ad4 (Value.bool b15) w23 fun w24 =>
                              stC (ad4.add 1) s8.v w24 fun w25 =>
                              stC (ad4.add 2) (Value.int .i64 x11) w25 fun w26 =>
                              Calls Tryd.prog 13 #[Value.int .i64 x8] w26 fun e14 w27 =>
                              ∃ x13 : Int, e14 = .returned (Value.int .i64 x13) ∧
                              (Calls Tryd.prog 13 #[Value.int .i64 x12] w27 fun e15 w28 =>
                                ∃ x14 : Int, e15 = .returned (Value.int .i64 x14) ∧
                                (br (x13 == x14)
                                  (ldB ad3 w28 fun b16 =>
                                    ldS (ad3.add 1) w28 fun s9 =>
                                    ldI .i64 (ad3.add 2) w28 fun x15 =>
                                    ldB ad4 w28 fun b17 =>
                                    ldS (ad4.add 1) w28 fun s10 =>
                                    ldI .i64 (ad4.add 2) w28 fun x16 =>
                                    Calls Tryd.prog 18 #[Value.agg #[Value.bool b16, s9.v, Value.int .i64 x15], Value.agg #[Value.bool b17, s10.v, Value.int .i64 x16]] w28 fun e16 w29 =>
                                    ∃ b18 : Bool, e16 = .returned (Value.bool b18) ∧
                                    (br b18
                                      (Calls Tryd.prog 14 #[] w29 fun e17 w30 =>
                                        ∃ b19 : Bool, e17 = .returned (Value.bool b19) ∧
                                        (R (.returned (Value.bool b19)) w30))
                                      (R (.returned (Value.bool false)) w29)))
                                  (R (.returned (Value.bool false)) w28))))))))))))))))) :
    Calls Tryd.prog 4 #[Value.agg #[Value.bool a0_0, a0_1.v, Value.int .i64 a0_2], Value.int .i64 a1, Value.int .i64 a2] w R := by
  refine calls_of_vc (fun _ => none) (by kernel_rfl) Tryd.func4 rfl ?_ ?_
  · refine kcast h ?_; kernel_rfl
  · exact (obl_seq rfl (obl_reg (obl_seq rfl (obl_seq rfl (obl_reg (obl_cond (obl_seq rfl (obl_reg (obl_ret (obl_skip (obl_seq rfl (obl_reg (obl_seq rfl (obl_seq rfl (obl_reg (obl_cond (obl_seq rfl (obl_reg (obl_ret (obl_skip (obl_seq rfl (obl_reg (obl_seq rfl (obl_reg (obl_seq rfl (obl_reg (obl_ret trivial)))))))))))))))))))))))))))

set_option maxRecDepth 100000 in
/-- surd/surdlaw08.DyadicMakes: function 5. -/
theorem surdlaw08_DyadicMakes_vc (a0_0 : Bool) (a0_1 : Slc) (a0_2 : Int) (a1 : Int) (w : World) (R : Ending → World → Prop)
    
    (h : newC w #[Value.bool a0_0, a0_1.v, Value.int .i64 a0_2] 27 fun ad1 w1 =>
    ldB ad1 w1 fun b1 =>
    ldS (ad1.add 1) w1 fun s1 =>
    ldI .i64 (ad1.add 2) w1 fun x1 =>
    Calls Tryd.prog 19 #[Value.agg #[Value.bool b1, s1.v, Value.int .i64 x1]] w1 fun e1 w2 =>
    ∃ s2 : Slc, ∃ b2 : Bool, ∃ s3 : Slc, ∃ x2 : Int, e1 = .returned (Value.tuple #[s2.v, Value.agg #[Value.bool b2, s3.v, Value.int .i64 x2]]) ∧
    (newC w2 #[Value.bool false, (⟨none, 0, 0⟩ : Slc).v, Value.int .i64 0] 33 fun ad2 w3 =>
      stC ad2 (Value.bool b2) w3 fun w4 =>
      stC (ad2.add 1) s3.v w4 fun w5 =>
      stC (ad2.add 2) (Value.int .i64 x2) w5 fun w6 =>
      ldB ad2 w6 fun b3 =>
      ldS (ad2.add 1) w6 fun s4 =>
      ldI .i64 (ad1.add 2) w6 fun x3 =>
      Calls Tryd.prog 20 #[Value.agg #[Value.bool b3, s4.v], Value.int .i64 x3] w6 fun e2 w7 =>
      ∃ b4 : Bool, ∃ s5 : Slc, ∃ x4 : Int, ∃ x5 : Int, e2 = .returned (Value.tuple #[Value.agg #[Value.bool b4, s5.v, Value.int .i64 x4], Value.int .i64 x5]) ∧
      (newC w7 #[Value.bool false, (⟨none, 0, 0⟩ : Slc).v, Value.int .i64 0] 33 fun ad3 w8 =>
        stC ad3 (Value.bool b4) w8 fun w9 =>
        stC (ad3.add 1) s5.v w9 fun w10 =>
        stC (ad3.add 2) (Value.int .i64 x4) w10 fun w11 =>
        ldB ad1 w11 fun b5 =>
        ldS (ad1.add 1) w11 fun s6 =>
        Calls Tryd.prog 21 #[Value.bool b5, s6.v] w11 fun e3 w12 =>
        ∃ b6 : Bool, ∃ s7 : Slc, e3 = .returned (Value.agg #[Value.bool b6, s7.v]) ∧
        (newC w12 #[Value.bool false, (⟨none, 0, 0⟩ : Slc).v] 44 fun ad4 w13 =>
          stC ad4 (Value.bool b6) w13 fun w14 =>
          stC (ad4.add 1) s7.v w14 fun w15 =>
          ldI .i64 (ad1.add 2) w15 fun x6 =>
          Calls Tryd.prog 15 #[Value.int .i64 x6] w15 fun e4 w16 =>
          ∃ b7 : Bool, e4 = .returned (Value.bool b7) ∧
          (br (!b7)
            (newC w16 #[Value.bool false, (⟨none, 0, 0⟩ : Slc).v, Value.int .i64 0] 47 fun ad5 w17 =>
              stC ad5 (Value.bool false) w17 fun w18 =>
              stC (ad5.add 1) ((⟨none, 0, 0⟩ : Slc).v) w18 fun w19 =>
              stC (ad5.add 2) (Value.int .i64 0) w19 fun w20 =>
              Calls Tryd.prog 23 #[Value.int .i64 a1] w20 fun e5 w21 =>
              ∃ b8 : Bool, ∃ s8 : Slc, ∃ x7 : Int, e5 = .returned (Value.agg #[Value.bool b8, s8.v, Value.int .i64 x7]) ∧
              (newC w21 #[Value.bool false, (⟨none, 0, 0⟩ : Slc).v, Value.int .i64 0] 33 fun ad6 w22 =>
                stC ad6 (Value.bool b8) w22 fun w23 =>
                stC (ad6.add 1) s8.v w23 fun w24 =>
                stC (ad6.add 2) (Value.int .i64 x7) w24 fun w25 =>
                ldB ad2 w25 fun b9 =>
                ldS (ad2.add 1) w25 fun s9 =>
                ldI .i64 (ad2.add 2) w25 fun x8 =>
                Calls Tryd.prog 24 #[Value.agg #[Value.bool b9, s9.v, Value.int .i64 x8]] w25 fun e6 w26 =>
                ∃ x9 : Int, ∃ x10 : Int, e6 = .returned (Value.tuple #[Value.int .i64 x9, Value.int .i64 x10]) ∧
                (ldB ad2 w26 fun b10 =>
                  ldS (ad2.add 1) w26 fun s10 =>
                  ldI .i64 (ad2.add 2) w26 fun x11 =>
                  Calls Tryd.prog 25 #[Value.agg #[Value.bool b10, s10.v, Value.int .i64 x11]] w26 fun e7 w27 =>
                  ∃ x12 : Int, ∃ x13 : Int, e7 = .returned (Value.tuple #[Value.int .i64 x12, Value.int .i64 x13]) ∧
                  (∃ V1 : Nat → Prop, Out V1 ad3 (ldB ad3 w27.drew fun b11 =>
                      ldS (ad3.add 1) w27.drew fun s11 =>
                      ldI .i64 (ad3.add 2) w27.drew fun x14 =>
                      Out V1 ad5 (ldB ad5 w27.drew fun b12 =>
                        ldS (ad5.add 1) w27.drew fun s12 =>
                        ldI .i64 (ad5.add 2) w27.drew fun x15 =>
                        Calls Tryd.prog 26 #[Value.agg #[Value.bool b11, s11.v, Value.int .i64 x14], Value.int .i64 x5, Value.agg #[Value.bool b12, s12.v, Value.int .i64 x15], Value.int .i64 1] w27.drew fun e8 w28 =>
                        ∃ b13 : Bool, e8 = .returned (Value.bool b13) ∧
                        (Bar V1 w27.drew w28 ∧
                          (br (!b13)
                            (R (.returned (Value.bool false)) w28)
                            (Out V1 ad2 (ldB ad2 w28 fun b14 =>
                                ldS (ad2.add 1) w28 fun s13 =>
                                ldI .i64 (ad2.add 2) w28 fun x16 =>
                                Out V1 ad4 (ldB ad4 w28 fun b15 =>
                                  ldS (ad4.add 1) w28 fun s14 =>
                                  Calls Tryd.prog 27 #[Value.agg #[Value.bool b14, s13.v, Value.int .i64 x16]] w28 fun e9 w29 =>
                                  ∃ x17 : Int, e9 = .returned (Value.int .i64 x17) ∧
                                  (Bar V1 w28 w29 ∧
                                    (Calls Tryd.prog 28 #[Value.agg #[Value.bool b15, s14.v]] w29 fun e10 w30 =>
                                      ∃ x18 : Int, e10 = .returned (Value.int .i64 x18) ∧
                                      (Bar V1 w29 w30 ∧
                                        (br (x17 != x18)
                                          (R (.returned (Value.bool false)) w30)
                                          (Out V1 ad6 (ldB ad6 w30 fun b16 =>
                                              Out V1 (ad6.add 1) (ldS (ad6.add 1) w30 fun s15 =>
                                                Out V1 (ad6.add 2) (ldI .i64 (ad6.add 2) w30 fun x19 =>
                                                  Calls Tryd.prog 29 #[Value.int .i64 a1, Value.int .i64 0] w30 fun e11 w31 =>
                                                  ∃ b17 : Bool, ∃ s16 : Slc, ∃ x20 : Int, e11 = .returned (Value.agg #[Value.bool b17, s16.v, Value.int .i64 x20]) ∧
                                                  (Bar V1 w30 w31 ∧
                                                    (Calls Tryd.prog 30 #[Value.agg #[Value.bool b17, s16.v, Value.int .i64 x20], Value.bool b16, s15.v, Value.int .i64 x19] w31 fun e12 w32 =>
                                                      ∃ b18 : Bool, e12 = .returned (Value.bool b18) ∧
                                                      (Bar V1 w31 w32 ∧
                                                        (br (!b18)
                                                          (R (.returned (Value.bool false)) w32)
                                                          (Out V1 (ad3.add 1) (ldS (ad3.add 1) w32 fun s17 =>
                                                              Out V1 (ad6.add 1) (ldS (ad6.add 1) w32 fun s18 =>
                                                                newC w32 #[s17.v, s18.v] 25 fun ad7 w33 =>
                                                                Bar V1 w32 w33 ∧
                                                                (Calls Tryd.prog 31 #[(⟨some ad7, 2, 2⟩ : Slc).v] w33 fun e13 w34 =>
                                                                  ∃ b19 : Bool, e13 = .returned (Value.bool b19) ∧
                                                                  (Bar V1 w33 w34 ∧
                                                                    (br (!b19)
                                                                      (R (.returned (Value.bool false)) w34)
                                                                      (Out V1 (ad1.add 1) (ldS (ad1.add 1) w34 fun s19 =>
                                                                          Calls Tryd.prog 32 #[s2.v, s19.v] w34 fun e14 w35 =>
                                                                          ∃ b20 : Bool, e14 = .returned (Value.bool b20) ∧
                                                                          (Bar V1 w34 w35 ∧
                                                                            (br (!b20)
                                                                              (R (.returned (Value.bool false)) w35)
                                                                              (Calls Tryd.prog 13 #[Value.int .i64 x10] w35 fun e15 w36 =>
                                                                                ∃ x21 : Int, e15 = .returned (Value.int .i64 x21) ∧
                                                                                (br (x21 == 80)
                                                                                  (Calls Tryd.prog 13 #[Value.int .i64 x13] w36 fun e16 w37 =>
                                                                                    ∃ x22 : Int, e16 = .returned (Value.int .i64 x22) ∧
                                                                                    (br (x22 == 80)
                                                                                      (br (x9 == 0)
                                                                                        (br (x12 == 0)
                                                                                          (Calls Tryd.prog 14 #[] w37 fun e17 w38 =>
                                                                                            ∃ b21 : Bool, e17 = .returned (Value.bool b21) ∧
                                                                                            (R (.returned (Value.bool b21)) w38))
                                                                                          (R (.returned (Value.bool false)) w37))
                                                                                        (R (.returned (Value.bool false)) w37))
                                                                                      (R (.returned (Value.bool false)) w37)))
                                                                                  (R (.returned (Value.bool false)) w36))))))))))))))))))))))))))))))))))))
            (newC w16 #[Value.bool false, (⟨none, 0, 0⟩ : Slc).v, Value.int .i64 0] 47 fun ad8 w39 =>
              stC ad8 (Value.bool false) w39 fun w40 =>
              stC (ad8.add 1) ((⟨none, 0, 0⟩ : Slc).v) w40 fun w41 =>
              stC (ad8.add 2) (Value.int .i64 0) w41 fun w42 =>
              ldB ad4 w42 fun b22 =>
              ldS (ad4.add 1) w42 fun s20 =>
              ldI .i64 (ad1.add 2) w42 fun x23 =>
              Calls Tryd.prog 22 #[Value.agg #[Value.bool b22, s20.v], Value.int .i64 x23] w42 fun e18 w43 =>
              ∃ b23 : Bool, ∃ s21 : Slc, ∃ x24 : Int, e18 = .returned (Value.agg #[Value.bool b23, s21.v, Value.int .i64 x24]) ∧
              (stC ad8 (Value.bool b23) w43 fun w44 =>
                stC (ad8.add 1) s21.v w44 fun w45 =>
                stC (ad8.add 2) (Value.int .i64 x24) w45 fun w46 =>
                Calls Tryd.prog 23 #[Value.int .i64 a1] w46 fun e19 w47 =>
                ∃ b24 : Bool, ∃ s22 : Slc, ∃ x25 : Int, e19 = .returned (Value.agg #[Value.bool b24, s22.v, Value.int .i64 x25]) ∧
                (newC w47 #[Value.bool false, (⟨none, 0, 0⟩ : Slc).v, Value.int .i64 0] 33 fun ad9 w48 =>
                  stC ad9 (Value.bool b24) w48 fun w49 =>
                  stC (ad9.add 1) s22.v w49 fun w50 =>
                  stC (ad9.add 2) (Value.int .i64 x25) w50 fun w51 =>
                  ldB ad2 w51 fun b25 =>
                  ldS (ad2.add 1) w51 fun s23 =>
                  ldI .i64 (ad2.add 2) w51 fun x26 =>
                  Calls Tryd.prog 24 #[Value.agg #[Value.bool b25, s23.v, Value.int .i64 x26]] w51 fun e20 w52 =>
                  ∃ x27 : Int, ∃ x28 : Int, e20 = .returned (Value.tuple #[Value.int .i64 x27, Value.int .i64 x28]) ∧
                  (ldB ad2 w52 fun b26 =>
                    ldS (ad2.add 1) w52 fun s24 =>
                    ldI .i64 (ad2.add 2) w52 fun x29 =>
                    Calls Tryd.prog 25 #[Value.agg #[Value.bool b26, s24.v, Value.int .i64 x29]] w52 fun e21 w53 =>
                    ∃ x30 : Int, ∃ x31 : Int, e21 = .returned (Value.tuple #[Value.int .i64 x30, Value.int .i64 x31]) ∧
                    (∃ V2 : Nat → Prop, Out V2 ad3 (ldB ad3 w53.drew fun b27 =>
                        ldS (ad3.add 1) w53.drew fun s25 =>
                        ldI .i64 (ad3.add 2) w53.drew fun x32 =>
                        Out V2 ad8 (ldB ad8 w53.drew fun b28 =>
                          ldS (ad8.add 1) w53.drew fun s26 =>
                          ldI .i64 (ad8.add 2) w53.drew fun x33 =>
                          Calls Tryd.prog 26 #[Value.agg #[Value.bool b27, s25.v, Value.int .i64 x32], Value.int .i64 x5, Value.agg #[Value.bool b28, s26.v, Value.int .i64 x33], Value.int .i64 0] w53.drew fun e22 w54 =>
                          ∃ b29 : Bool, e22 = .returned (Value.bool b29) ∧
                          (Bar V2 w53.drew w54 ∧
                            (br (!b29)
                              (R (.returned (Value.bool false)) w54)
                              (Out V2 ad2 (ldB ad2 w54 fun b30 =>
                                  ldS (ad2.add 1) w54 fun s27 =>
                                  ldI .i64 (ad2.add 2) w54 fun x34 =>
                                  Out V2 ad4 (ldB ad4 w54 fun b31 =>
                                    ldS (ad4.add 1) w54 fun s28 =>
                                    Calls Tryd.prog 27 #[Value.agg #[Value.bool b30, s27.v, Value.int .i64 x34]] w54 fun e23 w55 =>
                                    ∃ x35 : Int, e23 = .returned (Value.int .i64 x35) ∧
                                    (Bar V2 w54 w55 ∧
                                      (Calls Tryd.prog 28 #[Value.agg #[Value.bool b31, s28.v]] w55 fun e24 w56 =>
                                        ∃ x36 : Int, e24 = .returned (Value.int .i64 x36) ∧
                                        (Bar V2 w55 w56 ∧
                                          (br (x35 != x36)
                                            (R (.returned (Value.bool false)) w56)
                                            (Out V2 ad9 (ldB ad9 w56 fun b32 =>
                                                Out V2 (ad9.add 1) (ldS (ad9.add 1) w56 fun s29 =>
                                                  Out V2 (ad9.add 2) (ldI .i64 (ad9.add 2) w56 fun x37 =>
                                                    Calls Tryd.prog 29 #[Value.int .i64 a1, Value.int .i64 0] w56 fun e25 w57 =>
                                                    ∃ b33 : Bool, ∃ s30 : Slc, ∃ x38 : Int, e25 = .returned (Value.agg #[Value.bool b33, s30.v, Value.int .i64 x38]) ∧
                                                    (Bar V2 w56 w57 ∧
                                                      (Calls Tryd.prog 30 #[Value.agg #[Value.bool b33, s30.v, Value.int .i64 x38], Value.bool b32, s29.v, Value.int .i64 x37] w57 fun e26 w58 =>
                                                        ∃ b34 : Bool, e26 = .returned (Value.bool b34) ∧
                                                        (Bar V2 w57 w58 ∧
                                                          (br (!b34)
                                                            (R (.returned (Value.bool false)) w58)
                                                            (Out V2 (ad3.add 1) (ldS (ad3.add 1) w58 fun s31 =>
                                                                Out V2 (ad9.add 1) (ldS (ad9.add 1) w58 fun s32 =>
                                                                  newC w58 #[s31.v, s32.v] 25 fun ad10 w59 =>
                                                                  Bar V2 w58 w59 ∧
                                                                  (Calls Tryd.prog 31 #[(⟨some ad10, 2, 2⟩ : Slc).v] w59 fun e27 w60 =>
                                                                    ∃ b35 : Bool, e27 = .returned (Value.bool b35) ∧
                                                                    (Bar V2 w59 w60 ∧
                                                                      (br (!b35)
                                                                        (R (.returned (Value.bool false)) w60)
                                                                        (Out V2 (ad1.add 1) (ldS (ad1.add 1) w60 fun s33 =>
                                                                            Calls Tryd.prog 32 #[s2.v, s33.v] w60 fun e28 w61 =>
                                                                            ∃ b36 : Bool, e28 = .returned (Value.bool b36) ∧
                                                                            (Bar V2 w60 w61 ∧
                                                                              (br (!b36)
                                                                                (R (.returned (Value.bool false)) w61)
                                                                                (ldB ad4 w61 fun b37 =>
                                                                                  ldS (ad4.add 1) w61 fun s34 =>
                                                                                  Calls Tryd.prog 28 #[Value.agg #[Value.bool b37, s34.v]] w61 fun e29 w62 =>
                                                                                  ∃ x39 : Int, e29 = .returned (Value.int .i64 x39) ∧
                                                                                  (br (x39 == 0)
                                                                                    (Calls Tryd.prog 13 #[Value.int .i64 x28] w62 fun e30 w63 =>
                                                                                      ∃ x40 : Int, e30 = .returned (Value.int .i64 x40) ∧
                                                                                      (br (x40 == 1)
                                                                                        (br (x27 == 0)
                                                                                          (Calls Tryd.prog 13 #[Value.int .i64 x31] w63 fun e31 w64 =>
                                                                                            ∃ x41 : Int, e31 = .returned (Value.int .i64 x41) ∧
                                                                                            (br (x41 == 0)
                                                                                              (br (x30 == 0)
                                                                                                (Calls Tryd.prog 14 #[] w64 fun e32 w65 =>
                                                                                                  ∃ b38 : Bool, e32 = .returned (Value.bool b38) ∧
                                                                                                  (R (.returned (Value.bool b38)) w65))
                                                                                                (R (.returned (Value.bool false)) w64))
                                                                                              (R (.returned (Value.bool false)) w64)))
                                                                                          (R (.returned (Value.bool false)) w63))
                                                                                        (R (.returned (Value.bool false)) w63)))
                                                                                    (Calls Tryd.prog 13 #[Value.int .i64 x28] w62 fun e33 w66 =>
                                                                                      ∃ x42 : Int, e33 = .returned (Value.int .i64 x42) ∧
                                                                                      (br (x42 == 0)
                                                                                        (ldB ad8 w66 fun b39 =>
                                                                                          ldS (ad8.add 1) w66 fun s35 =>
                                                                                          ldI .i64 (ad8.add 2) w66 fun x43 =>
                                                                                          Calls Tryd.prog 33 #[Value.agg #[Value.bool b39, s35.v, Value.int .i64 x43]] w66 fun e34 w67 =>
                                                                                          ∃ x44 : Int, e34 = .returned (Value.int .i64 x44) ∧
                                                                                          (br (x27 == x44)
                                                                                            (Calls Tryd.prog 13 #[Value.int .i64 x31] w67 fun e35 w68 =>
                                                                                              ∃ x45 : Int, e35 = .returned (Value.int .i64 x45) ∧
                                                                                              (br (x45 == 0)
                                                                                                (ldS (ad8.add 1) w68 fun s36 =>
                                                                                                  Calls Tryd.prog 34 #[s36.v] w68 fun e36 w69 =>
                                                                                                  ∃ x46 : Int, e36 = .returned (Value.int .i64 x46) ∧
                                                                                                  (br (x30 == x46)
                                                                                                    (Calls Tryd.prog 14 #[] w69 fun e37 w70 =>
                                                                                                      ∃ b40 : Bool, e37 = .returned (Value.bool b40) ∧
                                                                                                      (R (.returned (Value.bool b40)) w70))
                                                                                                    (R (.returned (Value.bool false)) w69)))
                                                                                                (R (.returned (Value.bool false)) w68)))
                                                                                            (R (.returned (Value.bool false)) w67)))
                                                                                        (R (.returned (Value.bool false)) w66)))))))))))))))))))))))))))))))))))))))))))) :
    Calls Tryd.prog 5 #[Value.agg #[Value.bool a0_0, a0_1.v, Value.int .i64 a0_2], Value.int .i64 a1] w R := by
  refine calls_of_vc (marks [1000013] (fun _ => none)) (by kernel_rfl) Tryd.func5 rfl ?_ ?_
  · refine kcast h ?_; kernel_rfl
  · exact (obl_seq rfl (obl_reg (obl_seq rfl (obl_reg (obl_seq rfl (obl_reg (obl_seq rfl (obl_reg (obl_seq rfl (obl_reg (obl_seq rfl (obl_seq rfl (obl_reg (obl_cond (obl_reg (obl_skip (obl_seq rfl (obl_reg (obl_seq rfl (obl_seq rfl (obl_reg (obl_cond (obl_reg (obl_skip (obl_seq rfl (obl_reg (obl_seq rfl (obl_reg (obl_seq rfl (obl_reg (obl_seq rfl (obl_seq rfl (obl_held (by kernel_rfl) (by kernel_rfl) (by kernel_rfl) (obl_cond (obl_seq rfl (obl_reg (obl_ret (obl_skip (obl_seq rfl (obl_seq rfl (obl_reg (obl_cond (obl_seq rfl (obl_reg (obl_ret (obl_skip (obl_seq rfl (obl_seq rfl (obl_reg (obl_cond (obl_seq rfl (obl_reg (obl_ret (obl_skip (obl_seq rfl (obl_reg (obl_ret trivial)))))))))))))))))))))))))))))))))))))))))))))))))))))))))

def surdlaw08_DyadicRounds_cut (K14 : Addr → Slc → Addr → Int → Int → Addr → World → Prop) : Nat → Option ((Act → World → Prop) × (Act → World → Nat))
  | 3000014 => some (fun a_ w_ => atSz a_ 69 (atA a_ 3 fun t3 => atS a_ 7 fun t7 => atA a_ 11 fun t11 => atI .i64 a_ 12 fun t12 => atI .i64 a_ 13 fun t13 => atA a_ 14 fun t14 => K14 t3 t7 t11 t12 t13 t14 w_), fun _ _ => 0)
  | _ => none

set_option maxRecDepth 100000 in
/-- surd/surdlaw08.DyadicRounds: function 6. -/
theorem surdlaw08_DyadicRounds_vc (a0_0 : Bool) (a0_1 : Slc) (a0_2 : Int) (a1 : Int) (a2 : Int) (w : World) (R : Ending → World → Prop)
    (K14 : Addr → Slc → Addr → Int → Int → Addr → World → Prop)
    (h : newC w #[Value.bool a0_0, a0_1.v, Value.int .i64 a0_2] 27 fun ad1 w1 =>
    ldB ad1 w1 fun b1 =>
    ldS (ad1.add 1) w1 fun s1 =>
    ldI .i64 (ad1.add 2) w1 fun x1 =>
    Calls Tryd.prog 19 #[Value.agg #[Value.bool b1, s1.v, Value.int .i64 x1]] w1 fun e1 w2 =>
    ∃ s2 : Slc, ∃ b2 : Bool, ∃ s3 : Slc, ∃ x2 : Int, e1 = .returned (Value.tuple #[s2.v, Value.agg #[Value.bool b2, s3.v, Value.int .i64 x2]]) ∧
    (newC w2 #[Value.bool false, (⟨none, 0, 0⟩ : Slc).v, Value.int .i64 0] 33 fun ad2 w3 =>
      stC ad2 (Value.bool b2) w3 fun w4 =>
      stC (ad2.add 1) s3.v w4 fun w5 =>
      stC (ad2.add 2) (Value.int .i64 x2) w5 fun w6 =>
      ldB ad1 w6 fun b3 =>
      ldS (ad1.add 1) w6 fun s4 =>
      ldI .i64 (ad1.add 2) w6 fun x3 =>
      Calls Tryd.prog 35 #[Value.agg #[Value.bool b3, s4.v, Value.int .i64 x3]] w6 fun e2 w7 =>
      ∃ b4 : Bool, ∃ s5 : Slc, ∃ x4 : Int, ∃ b5 : Bool, e2 = .returned (Value.tuple #[Value.agg #[Value.bool b4, s5.v, Value.int .i64 x4], Value.bool b5]) ∧
      (newC w7 #[Value.bool false, (⟨none, 0, 0⟩ : Slc).v, Value.int .i64 0] 47 fun ad3 w8 =>
        stC ad3 (Value.bool b4) w8 fun w9 =>
        stC (ad3.add 1) s5.v w9 fun w10 =>
        stC (ad3.add 2) (Value.int .i64 x4) w10 fun w11 =>
        ldB ad2 w11 fun b6 =>
        ldS (ad2.add 1) w11 fun s6 =>
        ldI .i64 (ad2.add 2) w11 fun x5 =>
        Calls Tryd.prog 36 #[Value.agg #[Value.bool b6, s6.v, Value.int .i64 x5], Value.int .i64 a1, Value.int .i64 a2] w11 fun e3 w12 =>
        ∃ b7 : Bool, ∃ s7 : Slc, ∃ x6 : Int, ∃ x7 : Int, e3 = .returned (Value.tuple #[Value.agg #[Value.bool b7, s7.v, Value.int .i64 x6], Value.int .i64 x7]) ∧
        (newC w12 #[Value.bool false, (⟨none, 0, 0⟩ : Slc).v, Value.int .i64 0] 33 fun ad4 w13 =>
          stC ad4 (Value.bool b7) w13 fun w14 =>
          stC (ad4.add 1) s7.v w14 fun w15 =>
          stC (ad4.add 2) (Value.int .i64 x6) w15 fun w16 =>
          newC w16 #[Value.bool false, (⟨none, 0, 0⟩ : Slc).v, Value.int .i64 0] 47 fun ad5 w17 =>
          stC ad5 (Value.bool false) w17 fun w18 =>
          stC (ad5.add 1) ((⟨none, 0, 0⟩ : Slc).v) w18 fun w19 =>
          stC (ad5.add 2) (Value.int .i64 0) w19 fun w20 =>
          br (!b5)
          (K14 ad1 s2 ad4 x7 80 ad5 w20)
          (Calls Tryd.prog 15 #[Value.int .i64 a1] w20 fun e8 w26 =>
            ∃ b14 : Bool, e8 = .returned (Value.bool b14) ∧
            (br (!b14)
              (K14 ad1 s2 ad4 x7 1 ad5 w26)
              (Calls Tryd.prog 37 #[Value.int .i64 a2] w26 fun e9 w27 =>
                ∃ b15 : Bool, e9 = .returned (Value.bool b15) ∧
                (br (!b15)
                  (K14 ad1 s2 ad4 x7 81 ad5 w27)
                  (ldB ad3 w27 fun b16 =>
                    ldS (ad3.add 1) w27 fun s12 =>
                    ldI .i64 (ad3.add 2) w27 fun x10 =>
                    Calls Tryd.prog 38 #[Value.agg #[Value.bool b16, s12.v, Value.int .i64 x10], Value.int .i64 a1, Value.int .i64 a2] w27 fun e10 w28 =>
                    ∃ b17 : Bool, ∃ s13 : Slc, ∃ x11 : Int, e10 = .returned (Value.agg #[Value.bool b17, s13.v, Value.int .i64 x11]) ∧
                    (stC ad5 (Value.bool b17) w28 fun w29 =>
                      stC (ad5.add 1) s13.v w29 fun w30 =>
                      stC (ad5.add 2) (Value.int .i64 x11) w30 fun w31 =>
                      K14 ad1 s2 ad4 x7 0 ad5 w31))))))))))
    (h3000014 : ∀ (t3 : Addr) (t7 : Slc) (t11 : Addr) (t12 : Int) (t13 : Int) (t14 : Addr) (w_ : World), K14 t3 t7 t11 t12 t13 t14 w_ → 
    ldB t11 w_ fun b8 =>
    ldS (t11.add 1) w_ fun s8 =>
    ldI .i64 (t11.add 2) w_ fun x8 =>
    ldB t14 w_ fun b9 =>
    ldS (t14.add 1) w_ fun s9 =>
    ldI .i64 (t14.add 2) w_ fun x9 =>
    Calls Tryd.prog 26 #[Value.agg #[Value.bool b8, s8.v, Value.int .i64 x8], Value.int .i64 t12, Value.agg #[Value.bool b9, s9.v, Value.int .i64 x9], Value.int .i64 t13] w_ fun e4 w21 =>
    ∃ b10 : Bool, e4 = .returned (Value.bool b10) ∧
    (br b10
      (ldS (t11.add 1) w21 fun s10 =>
        newC w21 #[s10.v] 25 fun ad6 w22 =>
        Calls Tryd.prog 31 #[(⟨some ad6, 1, 1⟩ : Slc).v] w22 fun e5 w23 =>
        ∃ b11 : Bool, e5 = .returned (Value.bool b11) ∧
        (br b11
          (ldS (t3.add 1) w23 fun s11 =>
            Calls Tryd.prog 32 #[t7.v, s11.v] w23 fun e6 w24 =>
            ∃ b12 : Bool, e6 = .returned (Value.bool b12) ∧
            (br b12
              (Calls Tryd.prog 14 #[] w24 fun e7 w25 =>
                ∃ b13 : Bool, e7 = .returned (Value.bool b13) ∧
                (R (.returned (Value.bool b13)) w25))
              (R (.returned (Value.bool false)) w24)))
          (R (.returned (Value.bool false)) w23)))
      (R (.returned (Value.bool false)) w21))) :
    Calls Tryd.prog 6 #[Value.agg #[Value.bool a0_0, a0_1.v, Value.int .i64 a0_2], Value.int .i64 a1, Value.int .i64 a2] w R := by
  refine calls_of_vc (surdlaw08_DyadicRounds_cut K14) (by kernel_rfl) Tryd.func6 rfl ?_ ?_
  · refine kcast h ?_; kernel_rfl
  · exact (obl_seq rfl (obl_reg (obl_seq rfl (obl_reg (obl_seq rfl (obl_reg (obl_seq rfl (obl_reg (obl_seq rfl (obl_reg (obl_seq rfl (obl_reg (obl_join _ rfl (obl_blk rfl (obl_seq rfl (obl_reg (obl_cond (obl_reg (obl_seq rfl (obl_reg (obl_cond (obl_reg (obl_seq rfl (obl_reg (obl_cond (obl_reg (obl_reg trivial)))))))))))))) (fun a_ w_ hL_ => (by
    obtain ⟨hz_, hd_, hL_⟩ := atSz_out hL_
    obtain ⟨t3, h3_, hL_⟩ := atA_out hL_
    obtain ⟨t7, h7_, hL_⟩ := atS_out hL_
    obtain ⟨t11, h11_, hL_⟩ := atA_out hL_
    obtain ⟨t12, h12_, hL_⟩ := atI_out hL_
    obtain ⟨t13, h13_, hL_⟩ := atI_out hL_
    obtain ⟨t14, h14_, hL_⟩ := atA_out hL_
    obtain ⟨g3000014, rfl⟩ : ∃ g, a_ = Fr 69 [(3, Value.pointer (some t3)), (7, t7.v), (11, Value.pointer (some t11)), (12, Value.int .i64 t12), (13, Value.int .i64 t13), (14, Value.pointer (some t14))] g := ⟨_, fr_of hz_ hd_ [(3, Value.pointer (some t3)), (7, t7.v), (11, Value.pointer (some t11)), (12, Value.int .i64 t12), (13, Value.int .i64 t13), (14, Value.pointer (some t14))] (sel_cons h3_ (sel_cons h7_ (sel_cons h11_ (sel_cons h12_ (sel_cons h13_ (sel_cons h14_ sel_nil))))))⟩
    clear hz_ hd_ h3_ h7_ h11_ h12_ h13_ h14_
    have hJ3000014_ := hL_
    refine ⟨(surdlaw08_DyadicRounds_cut K14), kcast (h3000014 t3 t7 t11 t12 t13 t14 w_ hJ3000014_) ?_, ?_⟩
    · kernel_rfl
    · exact (obl_seq rfl (obl_reg (obl_ret trivial))))))))))))))))))

end Go.Proofs.YthhbjhdnaopcnaaDoor
