/- What the law leans on, part 2. No condition. -/
import Derived.Test.YtflipimlpgbnmaaZFuelGrows1
namespace Go.Proofs.Ytflipimlpgbnmaa
open Go Go.RowKit Eng
set_option linter.unusedVariables false

set_option maxRecDepth 100000 in
/-- (*surd/fuel.Meter).Next: function 34. -/
theorem fuel_Meter_Next_vc (a0_m : Option Addr) (w : World) (R : Ending → World → Prop)
    
    (h : Calls Try.prog 53 #[Value.pointer a0_m] w fun e1 w1 =>
    ∃ b1 : Bool, e1 = .returned (Value.bool b1) ∧
    (br (!b1)
     (R (.returned (Value.tuple #[Value.int .i64 0, Value.int .i64 2])) w1)
     (onSome a0_m fun ad1 =>
      Calls Try.prog 54 #[Value.pointer (some ad1)] w1 fun e2 w2 =>
      ∃ s1 : Slc, e2 = .returned s1.v ∧
      (br ((s1.n : Int) == 0)
       (R (.returned (Value.tuple #[Value.int .i64 0, Value.int .i64 180])) w2)
       (onSome a0_m fun ad2 =>
        ldI .i64 (ad2.add 1) w2 fun x1 =>
        onSome a0_m fun ad3 =>
        stC (ad3.add 1) (Value.int .i64 (IntKind.i64.wrap (x1 + 1))) w2 fun w3 =>
        semA Try.prog (Instr.indexAt 38 s1.v (Value.int .i64 0)) w3 fun ad4 w4 =>
        ldI .i64 ad4 w4 fun x2 =>
        R (.returned (Value.tuple #[Value.int .i64 x2, Value.int .i64 0])) w4))))) :
    Calls Try.prog 34 #[Value.pointer a0_m] w R := by
  refine calls_of_vc (fun _ => none) (by kernel_rfl) Try.func34 rfl ?_ ?_
  · refine kcast h ?_; kernel_rfl
  · exact (obl_seq rfl (obl_reg (obl_seq rfl (obl_seq rfl (obl_reg (obl_cond (obl_seq rfl (obl_reg (obl_ret (obl_skip (obl_seq rfl (obl_reg (obl_seq rfl (obl_seq rfl (obl_reg (obl_cond (obl_seq rfl (obl_reg (obl_ret (obl_skip (obl_seq rfl (obl_reg (obl_seq rfl (obl_reg (obl_ret trivial)))))))))))))))))))))))))

set_option maxRecDepth 100000 in
/-- (*surd/fuel.Meter).is: function 53. -/
theorem fuel_Meter_is_vc (a0_m : Option Addr) (w : World) (R : Ending → World → Prop)
    
    (h : br a0_m.isSome
    (onSome a0_m fun ad1 =>
     ldB (ad1.add 2) w fun b1 =>
     R (.returned (Value.bool b1)) w)
    (R (.returned (Value.bool false)) w)) :
    Calls Try.prog 53 #[Value.pointer a0_m] w R := by
  refine calls_of_vc (fun _ => none) (by kernel_rfl) Try.func53 rfl ?_ ?_
  · refine kcast h ?_; kernel_rfl
  · exact (obl_seq rfl (obl_reg (obl_seq rfl (obl_reg (obl_ret trivial)))))

set_option maxRecDepth 100000 in
/-- (*surd/fuel.Meter).Left: function 37. -/
theorem fuel_Meter_Left_vc (a0_m : Option Addr) (w : World) (R : Ending → World → Prop)
    
    (h : Calls Try.prog 53 #[Value.pointer a0_m] w fun e1 w1 =>
    ∃ b1 : Bool, e1 = .returned (Value.bool b1) ∧
    (br (!b1)
     (R (.returned ((⟨none, 0, 0⟩ : Slc).v)) w1)
     (onSome a0_m fun ad1 =>
      Calls Try.prog 54 #[Value.pointer (some ad1)] w1 fun e2 w2 =>
      ∃ s1 : Slc, e2 = .returned s1.v ∧
      (R (.returned s1.v) w2)))) :
    Calls Try.prog 37 #[Value.pointer a0_m] w R := by
  refine calls_of_vc (fun _ => none) (by kernel_rfl) Try.func37 rfl ?_ ?_
  · refine kcast h ?_; kernel_rfl
  · exact (obl_seq rfl (obl_reg (obl_seq rfl (obl_seq rfl (obl_reg (obl_cond (obl_seq rfl (obl_reg (obl_ret (obl_skip (obl_seq rfl (obl_reg (obl_ret trivial)))))))))))))

set_option maxRecDepth 100000 in
/-- (*surd/fuel.Meter).Add: function 35. -/
theorem fuel_Meter_Add_vc (a0_m : Option Addr) (a1_f : Slc) (w : World) (R : Ending → World → Prop)
    
    (h : Calls Try.prog 53 #[Value.pointer a0_m] w fun e1 w1 =>
    ∃ b1 : Bool, e1 = .returned (Value.bool b1) ∧
    (br (!b1)
     (R (.returned (Value.int .i64 2)) w1)
     (onSome a0_m fun ad1 =>
      ldS ad1 w1 fun s1 =>
      Calls Try.prog 55 #[s1.v, a1_f.v] w1 fun e2 w2 =>
      ∃ s2 : Slc, ∃ x1 : Int, e2 = .returned (Value.tuple #[s2.v, Value.int .i64 x1]) ∧
      (br (x1 != 0)
       (R (.returned (Value.int .i64 x1)) w2)
       (onSome a0_m fun ad2 =>
        stC ad2 s2.v w2 fun w3 =>
        R (.returned (Value.int .i64 0)) w3))))) :
    Calls Try.prog 35 #[Value.pointer a0_m, a1_f.v] w R := by
  refine calls_of_vc (fun _ => none) (by kernel_rfl) Try.func35 rfl ?_ ?_
  · refine kcast h ?_; kernel_rfl
  · exact (obl_seq rfl (obl_reg (obl_seq rfl (obl_seq rfl (obl_reg (obl_cond (obl_seq rfl (obl_reg (obl_ret (obl_skip (obl_seq rfl (obl_reg (obl_seq rfl (obl_seq rfl (obl_reg (obl_cond (obl_seq rfl (obl_reg (obl_ret (obl_skip (obl_seq rfl (obl_reg (obl_seq rfl (obl_reg (obl_ret trivial)))))))))))))))))))))))))

set_option maxRecDepth 100000 in
/-- surd/fuel.New: function 33. -/
theorem fuel_New_vc (a0_f : Slc) (w : World) (R : Ending → World → Prop)
    
    (h : Calls Try.prog 52 #[a0_f.v] w fun e1 w1 =>
    ∃ s1 : Slc, e1 = .returned s1.v ∧
    (newC w1 #[s1.v, Value.int .i64 0, Value.bool true] 65 fun ad1 w2 =>
     R (.returned (Value.pointer (some ad1))) w2)) :
    Calls Try.prog 33 #[a0_f.v] w R := by
  refine calls_of_vc (fun _ => none) (by kernel_rfl) Try.func33 rfl ?_ ?_
  · refine kcast h ?_; kernel_rfl
  · exact (obl_seq rfl (obl_reg (obl_seq rfl (obl_reg (obl_ret trivial)))))

set_option maxRecDepth 100000 in
/-- (*surd/fuel.state).left: function 54. -/
theorem fuel_state_left_vc (a0_s : Option Addr) (w : World) (R : Ending → World → Prop)
    
    (h : onSome a0_s fun ad1 =>
    ldS ad1 w fun s1 =>
    Calls Try.prog 20 #[s1.v] w fun e1 w1 =>
    ∃ s2 : Slc, e1 = .returned s2.v ∧
    (onSome a0_s fun ad2 =>
     ldI .i64 (ad2.add 1) w1 fun x1 =>
     semS Try.prog (Instr.sliceAt 38 s2.v (some (Value.int .i64 (minI x1 (s2.n : Int)))) none none) w1 fun s3 w2 =>
     R (.returned s3.v) w2)) :
    Calls Try.prog 54 #[Value.pointer a0_s] w R := by
  refine calls_of_vc (fun _ => none) (by kernel_rfl) Try.func54 rfl ?_ ?_
  · refine kcast h ?_; kernel_rfl
  · exact (obl_seq rfl (obl_reg (obl_seq rfl (obl_reg (obl_seq rfl (obl_reg (obl_ret trivial)))))))

def surdlaw18_FuelGrows_cut (J0 : Slc → Slc → Int → Slc → Slc → Slc → Int → Int → World → Prop) (m0 : Slc → Slc → Int → Slc → Slc → Slc → Int → Int → World → Nat) (J2 : Slc → Slc → Slc → Slc → Option Addr → Slc → Int → Int → World → Prop) (m2 : Slc → Slc → Slc → Slc → Option Addr → Slc → Int → Int → World → Nat) (J4 : Slc → Slc → Slc → Slc → Option Addr → Int → World → Prop) (m4 : Slc → Slc → Slc → Slc → Option Addr → Int → World → Nat) (K12 : Slc → Slc → Int → Slc → Slc → Slc → Slc → World → Prop) (K17 : Slc → Slc → Int → Slc → Slc → Slc → World → Prop) (K24 : Slc → Slc → Slc → Slc → Slc → World → Prop) : Nat → Option ((Act → World → Prop) × (Act → World → Nat))
  | 0 => some (fun a_ w_ => atSz a_ 224 (atS a_ 0 fun t0 => atS a_ 1 fun t1 => atI .i64 a_ 2 fun t2 => atS a_ 7 fun t7 => atS a_ 8 fun t8 => atS a_ 31 fun t31 => atI .i64 a_ 32 fun t32 => atI .i64 a_ 33 fun t33 => J0 t0 t1 t2 t7 t8 t31 t32 t33 w_), fun a_ w_ => mS a_ 0 fun t0 => mS a_ 1 fun t1 => mI a_ 2 fun t2 => mS a_ 7 fun t7 => mS a_ 8 fun t8 => mS a_ 31 fun t31 => mI a_ 32 fun t32 => mI a_ 33 fun t33 => m0 t0 t1 t2 t7 t8 t31 t32 t33 w_)
  | 2 => some (fun a_ w_ => atSz a_ 224 (atS a_ 1 fun t1 => atS a_ 7 fun t7 => atS a_ 13 fun t13 => atS a_ 14 fun t14 => atP a_ 18 fun t18 => atS a_ 154 fun t154 => atI .i64 a_ 155 fun t155 => atI .i64 a_ 156 fun t156 => J2 t1 t7 t13 t14 t18 t154 t155 t156 w_), fun a_ w_ => mS a_ 1 fun t1 => mS a_ 7 fun t7 => mS a_ 13 fun t13 => mS a_ 14 fun t14 => mP a_ 18 fun t18 => mS a_ 154 fun t154 => mI a_ 155 fun t155 => mI a_ 156 fun t156 => m2 t1 t7 t13 t14 t18 t154 t155 t156 w_)
  | 4 => some (fun a_ w_ => atSz a_ 224 (atS a_ 1 fun t1 => atS a_ 7 fun t7 => atS a_ 13 fun t13 => atS a_ 14 fun t14 => atP a_ 18 fun t18 => atI .i64 a_ 23 fun t23 => J4 t1 t7 t13 t14 t18 t23 w_), fun a_ w_ => mS a_ 1 fun t1 => mS a_ 7 fun t7 => mS a_ 13 fun t13 => mS a_ 14 fun t14 => mP a_ 18 fun t18 => mI a_ 23 fun t23 => m4 t1 t7 t13 t14 t18 t23 w_)
  | 3000012 => some (fun a_ w_ => atSz a_ 224 (atS a_ 0 fun t0 => atS a_ 1 fun t1 => atI .i64 a_ 2 fun t2 => atS a_ 7 fun t7 => atS a_ 8 fun t8 => atS a_ 11 fun t11 => atS a_ 12 fun t12 => K12 t0 t1 t2 t7 t8 t11 t12 w_), fun _ _ => 0)
  | 3000017 => some (fun a_ w_ => atSz a_ 224 (atS a_ 0 fun t0 => atS a_ 1 fun t1 => atI .i64 a_ 2 fun t2 => atS a_ 7 fun t7 => atS a_ 13 fun t13 => atS a_ 14 fun t14 => K17 t0 t1 t2 t7 t13 t14 w_), fun _ _ => 0)
  | 3000024 => some (fun a_ w_ => atSz a_ 224 (atS a_ 0 fun t0 => atS a_ 1 fun t1 => atS a_ 7 fun t7 => atS a_ 13 fun t13 => atS a_ 14 fun t14 => K24 t0 t1 t7 t13 t14 w_), fun _ _ => 0)
  | _ => none

set_option maxRecDepth 100000 in
/-- surd/surdlaw18.FuelGrows: function 6. -/
theorem surdlaw18_FuelGrows_vc (a0 : Slc) (a1 : Slc) (a2 : Int) (w : World) (R : Ending → World → Prop)
    (J0 : Slc → Slc → Int → Slc → Slc → Slc → Int → Int → World → Prop) (m0 : Slc → Slc → Int → Slc → Slc → Slc → Int → Int → World → Nat) (J2 : Slc → Slc → Slc → Slc → Option Addr → Slc → Int → Int → World → Prop) (m2 : Slc → Slc → Slc → Slc → Option Addr → Slc → Int → Int → World → Nat) (J4 : Slc → Slc → Slc → Slc → Option Addr → Int → World → Prop) (m4 : Slc → Slc → Slc → Slc → Option Addr → Int → World → Nat) (K12 : Slc → Slc → Int → Slc → Slc → Slc → Slc → World → Prop) (K17 : Slc → Slc → Int → Slc → Slc → Slc → World → Prop) (K24 : Slc → Slc → Slc → Slc → Slc → World → Prop)
    (h : Calls Try.prog 20 #[a0.v] w fun e1 w1 =>
    ∃ s1 : Slc, e1 = .returned s1.v ∧
    (Calls Try.prog 20 #[a1.v] w1 fun e2 w2 =>
     ∃ s2 : Slc, e2 = .returned s2.v ∧
     (J0 a0 a1 a2 s1 s2 s1 (s1.n : Int) 0 w2)))
    (h0 : ∀ (t0 : Slc) (t1 : Slc) (t2 : Int) (t7 : Slc) (t8 : Slc) (t31 : Slc) (t32 : Int) (t33 : Int) (w_ : World), J0 t0 t1 t2 t7 t8 t31 t32 t33 w_ → 
    br (decide (t33 < t32))
    (semA Try.prog (Instr.indexAt 38 t31.v (Value.int .i64 t33)) w_ fun ad1 w3 =>
     ldI .i64 ad1 w3 fun x1 =>
     br (t33 == 0)
     (br (x1 != 64)
      (R (.returned (Value.bool false)) w3)
      (br (decide (t33 > 0))
       (semA Try.prog (Instr.indexAt 38 t7.v (Value.int .i64 (IntKind.i64.wrap (t33 - 1)))) w3 fun ad2 w4 =>
        ldI .i64 ad2 w4 fun x2 =>
        br (x1 != (IntKind.i64.wrap (2 * x2)))
        (R (.returned (Value.bool false)) w4)
        (br (decide (x1 > 2097152))
         (R (.returned (Value.bool false)) w4)
         (J0 t0 t1 t2 t7 t8 t31 t32 (IntKind.i64.wrap (t33 + 1)) w4 ∧
          m0 t0 t1 t2 t7 t8 t31 t32 (IntKind.i64.wrap (t33 + 1)) w4 < m0 t0 t1 t2 t7 t8 t31 t32 t33 w_)))
       (br (decide (x1 > 2097152))
        (R (.returned (Value.bool false)) w3)
        (J0 t0 t1 t2 t7 t8 t31 t32 (IntKind.i64.wrap (t33 + 1)) w3 ∧
         m0 t0 t1 t2 t7 t8 t31 t32 (IntKind.i64.wrap (t33 + 1)) w3 < m0 t0 t1 t2 t7 t8 t31 t32 t33 w_))))
     (br (decide (t33 > 0))
      (semA Try.prog (Instr.indexAt 38 t7.v (Value.int .i64 (IntKind.i64.wrap (t33 - 1)))) w3 fun ad3 w5 =>
       ldI .i64 ad3 w5 fun x3 =>
       br (x1 != (IntKind.i64.wrap (2 * x3)))
       (R (.returned (Value.bool false)) w5)
       (br (decide (x1 > 2097152))
        (R (.returned (Value.bool false)) w5)
        (J0 t0 t1 t2 t7 t8 t31 t32 (IntKind.i64.wrap (t33 + 1)) w5 ∧
         m0 t0 t1 t2 t7 t8 t31 t32 (IntKind.i64.wrap (t33 + 1)) w5 < m0 t0 t1 t2 t7 t8 t31 t32 t33 w_)))
      (br (decide (x1 > 2097152))
       (R (.returned (Value.bool false)) w3)
       (J0 t0 t1 t2 t7 t8 t31 t32 (IntKind.i64.wrap (t33 + 1)) w3 ∧
        m0 t0 t1 t2 t7 t8 t31 t32 (IntKind.i64.wrap (t33 + 1)) w3 < m0 t0 t1 t2 t7 t8 t31 t32 t33 w_))))
    (br (decide ((t7.n : Int) > (t8.n : Int)))
     (K12 t0 t1 t2 t7 t8 t8 t7 w_)
     (K12 t0 t1 t2 t7 t8 t7 t8 w_)))
    (h2 : ∀ (t1 : Slc) (t7 : Slc) (t13 : Slc) (t14 : Slc) (t18 : Option Addr) (t154 : Slc) (t155 : Int) (t156 : Int) (w_ : World), J2 t1 t7 t13 t14 t18 t154 t155 t156 w_ → 
    br (decide (t156 < t155))
    (semA Try.prog (Instr.indexAt 38 t154.v (Value.int .i64 t156)) w_ fun ad4 w24 =>
     ldI .i64 ad4 w24 fun x9 =>
     Calls Try.prog 34 #[Value.pointer t18] w24 fun e20 w25 =>
     ∃ x10 : Int, ∃ x11 : Int, e20 = .returned (Value.tuple #[Value.int .i64 x10, Value.int .i64 x11]) ∧
     (br (x10 != x9)
      (R (.returned (Value.bool false)) w25)
      (Calls Try.prog 11 #[Value.int .i64 x11] w25 fun e21 w26 =>
       ∃ x12 : Int, e21 = .returned (Value.int .i64 x12) ∧
       (br (x12 != 0)
        (R (.returned (Value.bool false)) w26)
        (J2 t1 t7 t13 t14 t18 t154 t155 (IntKind.i64.wrap (t156 + 1)) w26 ∧
         m2 t1 t7 t13 t14 t18 t154 t155 (IntKind.i64.wrap (t156 + 1)) w26 < m2 t1 t7 t13 t14 t18 t154 t155 t156 w_)))))
    (J4 t1 t7 t13 t14 t18 0 w_))
    (h4 : ∀ (t1 : Slc) (t7 : Slc) (t13 : Slc) (t14 : Slc) (t18 : Option Addr) (t23 : Int) (w_ : World), J4 t1 t7 t13 t14 t18 t23 w_ → 
    br (decide (t23 < 3))
    (Calls Try.prog 34 #[Value.pointer t18] w_ fun e22 w27 =>
     ∃ x13 : Int, ∃ x14 : Int, e22 = .returned (Value.tuple #[Value.int .i64 x13, Value.int .i64 x14]) ∧
     (br (x13 != 0)
      (R (.returned (Value.bool false)) w27)
      (Calls Try.prog 11 #[Value.int .i64 x14] w27 fun e23 w28 =>
       ∃ x15 : Int, e23 = .returned (Value.int .i64 x15) ∧
       (br (x15 != 180)
        (R (.returned (Value.bool false)) w28)
        (J4 t1 t7 t13 t14 t18 (IntKind.i64.wrap (t23 + 1)) w28 ∧
         m4 t1 t7 t13 t14 t18 (IntKind.i64.wrap (t23 + 1)) w28 < m4 t1 t7 t13 t14 t18 t23 w_)))))
    (Calls Try.prog 35 #[Value.pointer t18, t1.v] w_ fun e24 w29 =>
     ∃ x16 : Int, e24 = .returned (Value.int .i64 x16) ∧
     (Calls Try.prog 11 #[Value.int .i64 x16] w29 fun e25 w30 =>
      ∃ x17 : Int, e25 = .returned (Value.int .i64 x17) ∧
      (br (x17 != 0)
       (Calls Try.prog 11 #[Value.int .i64 x16] w30 fun e26 w31 =>
        ∃ x18 : Int, e26 = .returned (Value.int .i64 x18) ∧
        (br (x18 == 3)
         (Calls Try.prog 12 #[] w31 fun e27 w32 =>
          ∃ b6 : Bool, e27 = .returned (Value.bool b6) ∧
          (R (.returned (Value.bool b6)) w32))
         (R (.returned (Value.bool false)) w31)))
       (Calls Try.prog 36 #[t13.v, t14.v] w30 fun e28 w33 =>
        ∃ s11 : Slc, e28 = .returned s11.v ∧
        (Calls Try.prog 32 #[s11.v] w33 fun e29 w34 =>
         ∃ s12 : Slc, e29 = .returned s12.v ∧
         (Calls Try.prog 20 #[s12.v] w34 fun e30 w35 =>
          ∃ s13 : Slc, e30 = .returned s13.v ∧
          (br (decide ((s13.n : Int) ≥ (t7.n : Int)))
           (fixS Try.prog (Instr.sliceAt 38 s13.v (some (Value.int .i64 (t7.n : Int))) none none) w35.drew fun s14 =>
            Calls Try.prog 37 #[Value.pointer t18] w35.drew fun e31 w36 =>
            ∃ s15 : Slc, e31 = .returned s15.v ∧
            (Ahead w35.drew w36 ∧
             (Calls Try.prog 21 #[s15.v, s14.v] w36 fun e32 w37 =>
              ∃ b7 : Bool, e32 = .returned (Value.bool b7) ∧
              (Ahead w36 w37 ∧
               (br b7
                (Calls Try.prog 12 #[] w37 fun e33 w38 =>
                 ∃ b8 : Bool, e33 = .returned (Value.bool b8) ∧
                 (Ahead w37 w38 ∧
                  (R (.returned (Value.bool b8)) w38)))
                (R (.returned (Value.bool false)) w37))))))
           (R (.returned (Value.bool false)) w35.drew)))))))))
    (h3000012 : ∀ (t0 : Slc) (t1 : Slc) (t2 : Int) (t7 : Slc) (t8 : Slc) (t11 : Slc) (t12 : Slc) (w_ : World), K12 t0 t1 t2 t7 t8 t11 t12 w_ → 
    semS Try.prog (Instr.sliceAt 38 t12.v none (some (Value.int .i64 (t11.n : Int))) none) w_ fun s3 w6 =>
    Calls Try.prog 21 #[t11.v, s3.v] w6 fun e3 w7 =>
    ∃ b1 : Bool, e3 = .returned (Value.bool b1) ∧
    (br (!b1)
     (R (.returned (Value.bool false)) w7)
     (Calls Try.prog 18 #[t0.v] w7 fun e4 w8 =>
      ∃ s4 : Slc, e4 = .returned s4.v ∧
      (Calls Try.prog 18 #[t1.v] w8 fun e5 w9 =>
       ∃ s5 : Slc, e5 = .returned s5.v ∧
       (Calls Try.prog 28 #[s4.v, s5.v] w9 fun e6 w10 =>
        ∃ x4 : Int, e6 = .returned (Value.int .i64 x4) ∧
        (br (decide (x4 ≤ 0))
         (br (decide ((t7.n : Int) > (t8.n : Int)))
          (R (.returned (Value.bool false)) w10)
          (Calls Try.prog 28 #[s4.v, s5.v] w10 fun e7 w11 =>
           ∃ x5 : Int, e7 = .returned (Value.int .i64 x5) ∧
           (br (decide (x5 ≥ 0))
            (br (decide ((t7.n : Int) < (t8.n : Int)))
             (R (.returned (Value.bool false)) w11)
             (K17 t0 t1 t2 t7 s4 s5 w11))
            (K17 t0 t1 t2 t7 s4 s5 w11))))
         (Calls Try.prog 28 #[s4.v, s5.v] w10 fun e35 w40 =>
          ∃ x19 : Int, e35 = .returned (Value.int .i64 x19) ∧
          (br (decide (x19 ≥ 0))
           (br (decide ((t7.n : Int) < (t8.n : Int)))
            (R (.returned (Value.bool false)) w40)
            (K17 t0 t1 t2 t7 s4 s5 w40))
           (K17 t0 t1 t2 t7 s4 s5 w40)))))))))
    (h3000017 : ∀ (t0 : Slc) (t1 : Slc) (t2 : Int) (t7 : Slc) (t13 : Slc) (t14 : Slc) (w_ : World), K17 t0 t1 t2 t7 t13 t14 w_ → 
    Calls Try.prog 13 #[Value.int .i64 t2] w_ fun e8 w12 =>
    ∃ s6 : Slc, ∃ x6 : Int, e8 = .returned (Value.tuple #[s6.v, Value.int .i64 x6]) ∧
    (Calls Try.prog 11 #[Value.int .i64 x6] w12 fun e9 w13 =>
     ∃ x7 : Int, e9 = .returned (Value.int .i64 x7) ∧
     (br (x7 == 0)
      (Calls Try.prog 18 #[s6.v] w13 fun e10 w14 =>
       ∃ s7 : Slc, e10 = .returned s7.v ∧
       (Calls Try.prog 24 #[s6.v, Value.int .i64 t2] w14 fun e11 w15 =>
        ∃ b2 : Bool, e11 = .returned (Value.bool b2) ∧
        (br (!b2)
         (R (.returned (Value.bool false)) w15)
         (Calls Try.prog 29 #[s7.v] w15 fun e12 w16 =>
          ∃ b3 : Bool, e12 = .returned (Value.bool b3) ∧
          (br b3
           (R (.returned (Value.bool false)) w16)
           (Calls Try.prog 31 #[Value.int .i64 1] w16 fun e13 w17 =>
            ∃ s8 : Slc, e13 = .returned s8.v ∧
            (Calls Try.prog 30 #[s7.v, s8.v] w17 fun e14 w18 =>
             ∃ s9 : Slc, e14 = .returned s9.v ∧
             (Calls Try.prog 32 #[s9.v] w18 fun e15 w19 =>
              ∃ s10 : Slc, e15 = .returned s10.v ∧
              (Calls Try.prog 24 #[s10.v, Value.int .i64 t2] w19 fun e16 w20 =>
               ∃ b4 : Bool, e16 = .returned (Value.bool b4) ∧
               (br b4
                (R (.returned (Value.bool false)) w20)
                (Calls Try.prog 24 #[t0.v, Value.int .i64 t2] w20 fun e17 w21 =>
                 ∃ b5 : Bool, e17 = .returned (Value.bool b5) ∧
                 (Calls Try.prog 28 #[t13.v, s7.v] w21 fun e18 w22 =>
                  ∃ x8 : Int, e18 = .returned (Value.int .i64 x8) ∧
                  (br (!(b5 == (decide (x8 ≥ 0))))
                   (R (.returned (Value.bool false)) w22)
                   (K24 t0 t1 t7 t13 t14 w22))))))))))))))
      (br (decide (t2 ≤ 2097152))
       (R (.returned (Value.bool false)) w13)
       (Calls Try.prog 24 #[t0.v, Value.int .i64 t2] w13 fun e34 w39 =>
        ∃ b9 : Bool, e34 = .returned (Value.bool b9) ∧
        (br b9
         (R (.returned (Value.bool false)) w39)
         (K24 t0 t1 t7 t13 t14 w39)))))))
    (h3000024 : ∀ (t0 : Slc) (t1 : Slc) (t7 : Slc) (t13 : Slc) (t14 : Slc) (w_ : World), K24 t0 t1 t7 t13 t14 w_ → 
    Calls Try.prog 33 #[t0.v] w_ fun e19 w23 =>
    ∃ p1 : Option Addr, e19 = .returned (Value.pointer p1) ∧
    (br p1.isNone
     (R (.returned (Value.bool false)) w23)
     (J2 t1 t7 t13 t14 p1 t7 (t7.n : Int) 0 w23))) :
    Calls Try.prog 6 #[a0.v, a1.v, Value.int .i64 a2] w R := by
  refine calls_of_vc (surdlaw18_FuelGrows_cut J0 m0 J2 m2 J4 m4 K12 K17 K24) (by kernel_rfl) Try.func6 rfl ?_ ?_
  · refine kcast h ?_; kernel_rfl
  · exact (obl_seq rfl (obl_reg (obl_seq rfl (obl_reg (obl_seq rfl (obl_seq rfl (obl_reg (obl_loop _ rfl (fun a_ w_ hL_ => (by
    obtain ⟨hz_, hd_, hL_⟩ := atSz_out hL_
    obtain ⟨t0, h0_, hL_⟩ := atS_out hL_
    obtain ⟨t1, h1_, hL_⟩ := atS_out hL_
    obtain ⟨t2, h2_, hL_⟩ := atI_out hL_
    obtain ⟨t7, h7_, hL_⟩ := atS_out hL_
    obtain ⟨t8, h8_, hL_⟩ := atS_out hL_
    obtain ⟨t31, h31_, hL_⟩ := atS_out hL_
    obtain ⟨t32, h32_, hL_⟩ := atI_out hL_
    obtain ⟨t33, h33_, hL_⟩ := atI_out hL_
    obtain ⟨g0, rfl⟩ : ∃ g, a_ = Fr 224 [(0, t0.v), (1, t1.v), (2, Value.int .i64 t2), (7, t7.v), (8, t8.v), (31, t31.v), (32, Value.int .i64 t32), (33, Value.int .i64 t33)] g := ⟨_, fr_of hz_ hd_ [(0, t0.v), (1, t1.v), (2, Value.int .i64 t2), (7, t7.v), (8, t8.v), (31, t31.v), (32, Value.int .i64 t32), (33, Value.int .i64 t33)] (sel_cons h0_ (sel_cons h1_ (sel_cons h2_ (sel_cons h7_ (sel_cons h8_ (sel_cons h31_ (sel_cons h32_ (sel_cons h33_ sel_nil))))))))⟩
    clear hz_ hd_ h0_ h1_ h2_ h7_ h8_ h31_ h32_ h33_
    have hJ0_ := hL_
    refine ⟨(fun _ => none), kcast (h0 t0 t1 t2 t7 t8 t31 t32 t33 w_ hJ0_) ?_, ?_⟩
    · kernel_rfl
    · exact (obl_seq rfl (obl_reg (obl_seq rfl (obl_cond (obl_skip (obl_exit (obl_seq rfl (obl_blk rfl (obl_seq rfl (obl_reg (obl_seq rfl (obl_reg (obl_cond (obl_seq rfl (obl_reg (obl_ret (obl_skip (obl_reg trivial)))))))))))))))))))) (obl_seq rfl (obl_reg (obl_join _ rfl (obl_seq rfl (obl_reg (obl_cond (obl_reg (obl_skip trivial))))) (fun a_ w_ hL_ => (by
    obtain ⟨hz_, hd_, hL_⟩ := atSz_out hL_
    obtain ⟨t0, h0_, hL_⟩ := atS_out hL_
    obtain ⟨t1, h1_, hL_⟩ := atS_out hL_
    obtain ⟨t2, h2_, hL_⟩ := atI_out hL_
    obtain ⟨t7, h7_, hL_⟩ := atS_out hL_
    obtain ⟨t8, h8_, hL_⟩ := atS_out hL_
    obtain ⟨t11, h11_, hL_⟩ := atS_out hL_
    obtain ⟨t12, h12_, hL_⟩ := atS_out hL_
    obtain ⟨g3000012, rfl⟩ : ∃ g, a_ = Fr 224 [(0, t0.v), (1, t1.v), (2, Value.int .i64 t2), (7, t7.v), (8, t8.v), (11, t11.v), (12, t12.v)] g := ⟨_, fr_of hz_ hd_ [(0, t0.v), (1, t1.v), (2, Value.int .i64 t2), (7, t7.v), (8, t8.v), (11, t11.v), (12, t12.v)] (sel_cons h0_ (sel_cons h1_ (sel_cons h2_ (sel_cons h7_ (sel_cons h8_ (sel_cons h11_ (sel_cons h12_ sel_nil)))))))⟩
    clear hz_ hd_ h0_ h1_ h2_ h7_ h8_ h11_ h12_
    have hJ3000012_ := hL_
    refine ⟨(surdlaw18_FuelGrows_cut J0 m0 J2 m2 J4 m4 K12 K17 K24), kcast (h3000012 t0 t1 t2 t7 t8 t11 t12 w_ hJ3000012_) ?_, ?_⟩
    · kernel_rfl
    · exact (obl_seq rfl (obl_seq rfl (obl_reg (obl_cond (obl_seq rfl (obl_reg (obl_ret (obl_skip (obl_seq rfl (obl_reg (obl_join _ rfl (obl_seq rfl (obl_reg (obl_cond (obl_seq rfl (obl_reg (obl_ret (obl_skip trivial))))))) (fun a_ w_ hL_ => (by
      obtain ⟨hz_, hd_, hL_⟩ := atSz_out hL_
      obtain ⟨t0, h0_, hL_⟩ := atS_out hL_
      obtain ⟨t1, h1_, hL_⟩ := atS_out hL_
      obtain ⟨t2, h2_, hL_⟩ := atI_out hL_
      obtain ⟨t7, h7_, hL_⟩ := atS_out hL_
      obtain ⟨t13, h13_, hL_⟩ := atS_out hL_
      obtain ⟨t14, h14_, hL_⟩ := atS_out hL_
      obtain ⟨g3000017, rfl⟩ : ∃ g, a_ = Fr 224 [(0, t0.v), (1, t1.v), (2, Value.int .i64 t2), (7, t7.v), (13, t13.v), (14, t14.v)] g := ⟨_, fr_of hz_ hd_ [(0, t0.v), (1, t1.v), (2, Value.int .i64 t2), (7, t7.v), (13, t13.v), (14, t14.v)] (sel_cons h0_ (sel_cons h1_ (sel_cons h2_ (sel_cons h7_ (sel_cons h13_ (sel_cons h14_ sel_nil))))))⟩
      clear hz_ hd_ h0_ h1_ h2_ h7_ h13_ h14_
      have hJ3000017_ := hL_
      refine ⟨(surdlaw18_FuelGrows_cut J0 m0 J2 m2 J4 m4 K12 K17 K24), kcast (h3000017 t0 t1 t2 t7 t13 t14 w_ hJ3000017_) ?_, ?_⟩
      · kernel_rfl
      · exact (obl_seq rfl (obl_reg (obl_join _ rfl (obl_seq rfl (obl_reg (obl_cond (obl_seq rfl (obl_reg (obl_seq rfl (obl_reg (obl_cond (obl_seq rfl (obl_reg (obl_ret (obl_skip (obl_seq rfl (obl_reg (obl_cond (obl_seq rfl (obl_reg (obl_ret (obl_skip trivial))))))))))))))))))) (fun a_ w_ hL_ => (by
        obtain ⟨hz_, hd_, hL_⟩ := atSz_out hL_
        obtain ⟨t0, h0_, hL_⟩ := atS_out hL_
        obtain ⟨t1, h1_, hL_⟩ := atS_out hL_
        obtain ⟨t7, h7_, hL_⟩ := atS_out hL_
        obtain ⟨t13, h13_, hL_⟩ := atS_out hL_
        obtain ⟨t14, h14_, hL_⟩ := atS_out hL_
        obtain ⟨g3000024, rfl⟩ : ∃ g, a_ = Fr 224 [(0, t0.v), (1, t1.v), (7, t7.v), (13, t13.v), (14, t14.v)] g := ⟨_, fr_of hz_ hd_ [(0, t0.v), (1, t1.v), (7, t7.v), (13, t13.v), (14, t14.v)] (sel_cons h0_ (sel_cons h1_ (sel_cons h7_ (sel_cons h13_ (sel_cons h14_ sel_nil)))))⟩
        clear hz_ hd_ h0_ h1_ h7_ h13_ h14_
        have hJ3000024_ := hL_
        refine ⟨(surdlaw18_FuelGrows_cut J0 m0 J2 m2 J4 m4 K12 K17 K24), kcast (h3000024 t0 t1 t7 t13 t14 w_ hJ3000024_) ?_, ?_⟩
        · kernel_rfl
        · exact (obl_seq rfl (obl_reg (obl_seq rfl (obl_seq rfl (obl_reg (obl_cond (obl_seq rfl (obl_reg (obl_ret (obl_skip (obl_seq rfl (obl_seq rfl (obl_reg (obl_loop _ rfl (fun a_ w_ hL_ => (by
          obtain ⟨hz_, hd_, hL_⟩ := atSz_out hL_
          obtain ⟨t1, h1_, hL_⟩ := atS_out hL_
          obtain ⟨t7, h7_, hL_⟩ := atS_out hL_
          obtain ⟨t13, h13_, hL_⟩ := atS_out hL_
          obtain ⟨t14, h14_, hL_⟩ := atS_out hL_
          obtain ⟨t18, h18_, hL_⟩ := atP_out hL_
          obtain ⟨t154, h154_, hL_⟩ := atS_out hL_
          obtain ⟨t155, h155_, hL_⟩ := atI_out hL_
          obtain ⟨t156, h156_, hL_⟩ := atI_out hL_
          obtain ⟨g2, rfl⟩ : ∃ g, a_ = Fr 224 [(1, t1.v), (7, t7.v), (13, t13.v), (14, t14.v), (18, Value.pointer t18), (154, t154.v), (155, Value.int .i64 t155), (156, Value.int .i64 t156)] g := ⟨_, fr_of hz_ hd_ [(1, t1.v), (7, t7.v), (13, t13.v), (14, t14.v), (18, Value.pointer t18), (154, t154.v), (155, Value.int .i64 t155), (156, Value.int .i64 t156)] (sel_cons h1_ (sel_cons h7_ (sel_cons h13_ (sel_cons h14_ (sel_cons h18_ (sel_cons h154_ (sel_cons h155_ (sel_cons h156_ sel_nil))))))))⟩
          clear hz_ hd_ h1_ h7_ h13_ h14_ h18_ h154_ h155_ h156_
          have hJ2_ := hL_
          refine ⟨(fun _ => none), kcast (h2 t1 t7 t13 t14 t18 t154 t155 t156 w_ hJ2_) ?_, ?_⟩
          · kernel_rfl
          · exact (obl_seq rfl (obl_reg (obl_seq rfl (obl_cond (obl_skip (obl_exit (obl_seq rfl (obl_blk rfl (obl_seq rfl (obl_reg (obl_seq rfl (obl_reg (obl_seq rfl (obl_reg (obl_cond (obl_seq rfl (obl_reg (obl_ret (obl_skip (obl_reg trivial)))))))))))))))))))))) (obl_seq rfl (obl_seq rfl (obl_reg (obl_loop _ rfl (fun a_ w_ hL_ => (by
          obtain ⟨hz_, hd_, hL_⟩ := atSz_out hL_
          obtain ⟨t1, h1_, hL_⟩ := atS_out hL_
          obtain ⟨t7, h7_, hL_⟩ := atS_out hL_
          obtain ⟨t13, h13_, hL_⟩ := atS_out hL_
          obtain ⟨t14, h14_, hL_⟩ := atS_out hL_
          obtain ⟨t18, h18_, hL_⟩ := atP_out hL_
          obtain ⟨t23, h23_, hL_⟩ := atI_out hL_
          obtain ⟨g4, rfl⟩ : ∃ g, a_ = Fr 224 [(1, t1.v), (7, t7.v), (13, t13.v), (14, t14.v), (18, Value.pointer t18), (23, Value.int .i64 t23)] g := ⟨_, fr_of hz_ hd_ [(1, t1.v), (7, t7.v), (13, t13.v), (14, t14.v), (18, Value.pointer t18), (23, Value.int .i64 t23)] (sel_cons h1_ (sel_cons h7_ (sel_cons h13_ (sel_cons h14_ (sel_cons h18_ (sel_cons h23_ sel_nil))))))⟩
          clear hz_ hd_ h1_ h7_ h13_ h14_ h18_ h23_
          have hJ4_ := hL_
          refine ⟨(fun _ => none), kcast (h4 t1 t7 t13 t14 t18 t23 w_ hJ4_) ?_, ?_⟩
          · kernel_rfl
          · exact (obl_seq rfl (obl_seq rfl (obl_reg (obl_cond (obl_skip (obl_exit (obl_seq rfl (obl_blk rfl (obl_seq rfl (obl_reg (obl_seq rfl (obl_reg (obl_cond (obl_seq rfl (obl_reg (obl_ret (obl_skip (obl_reg trivial)))))))))))))))))))) (obl_seq rfl (obl_reg (obl_seq rfl (obl_seq rfl (obl_reg (obl_cond (obl_seq rfl (obl_reg (obl_ret (obl_skip (obl_seq rfl (obl_reg (obl_seq rfl (obl_held (by kernel_rfl) (by kernel_rfl) (by kernel_rfl) (obl_ret trivial))))))))))))))))))))))))))))))))))))))))))))))))))))))))))))))))

end Go.Proofs.Ytflipimlpgbnmaa
namespace Go.Proofs.Ytflipimlpgbnmaa
open Go Go.RowKit Eng Sp Dg
set_option linter.unusedVariables false
set_option linter.unusedSimpArgs false
set_option maxRecDepth 100000
namespace Mul
open _root_.Go.Proofs.Ytflipimlpgbnmaa.Nat (ldN ldNf stN mkN Fill mkF stF Num OwnNil add64)

/-- No block but k has changed. -/
def Only (k : Nat) (w w' : World) : Prop := w'.os = w.os ∧ w'.tape = w.tape ∧ w'.output = w.output ∧ w'.heap.size = w.heap.size ∧ ∀ j, j ≠ k → w'.heap[j]? = w.heap[j]?
theorem Only.refl (k : Nat) (w : World) : Only k w w := ⟨rfl, rfl, rfl, rfl, fun _ _ => rfl⟩
theorem Only.trans {k : Nat} {a b c : World} (h : Only k a b) (h' : Only k b c) : Only k a c :=
  ⟨h'.1.trans h.1, h'.2.1.trans h.2.1, h'.2.2.1.trans h.2.2.1, h'.2.2.2.1.trans h.2.2.2.1, fun j hj => (h'.2.2.2.2 j hj).trans (h.2.2.2.2 j hj)⟩
theorem Only.setCell (k i : Nat) (w : World) (v : Value) : Only k w (w.setCell ⟨k, i, none⟩ v) :=
  ⟨rfl, rfl, rfl, by simp [World.setCell], fun j hj => Below.heap_setCell _ _ _ _ (by simpa using hj)⟩
theorem Only.setRow (k : Nat) (w : World) (c : Array Value) : Only k w (w.setRow k c) :=
  ⟨rfl, rfl, rfl, by simp [World.setRow], fun j hj => setRow_other w k j _ hj⟩
theorem Only.ahead {k : Nat} {w0 w w' : World} (h : Only k w w') (ha : Ahead w0 w) (hk : w0.heap.size ≤ k) : Ahead w0 w' :=
  Below.trans ha ⟨h.1, h.2.1, h.2.2.1, by rw [h.2.2.2.1]; exact Nat.le_refl _, fun j hj => h.2.2.2.2 j (by omega)⟩
/-- The slice's cells lie outside the block. -/
def Off (k : Nat) (s : Slc) : Prop := ∀ ad, s.A = some ad → 0 < s.n → ad.block ≠ k
theorem add_block (a : Addr) (i : Nat) : (a.add i).block = a.block := by unfold Addr.add; split <;> rfl
theorem Only.rd {k : Nat} {w w' : World} (h : Only k w w') {s : Slc} {l : List Int} {kd : IntKind} (hr : Rd kd w s l) (ho : Off k s) : Rd kd w' s l :=
  ⟨hr.n, hr.c, fun i hi => by
    obtain ⟨ad, e, hc⟩ := hr.get i hi
    refine ⟨ad, e, ?_⟩
    rw [World.cell?_of_block (w := w)]
    · exact hc
    · rw [add_block]; exact h.2.2.2.2 _ (ho ad e (by rw [hr.n]; omega))⟩
theorem Only.own {k : Nat} {w w' : World} (h : Only k w w') {s : Slc} {l : List Int} {kd : IntKind} {t : TypeId} {b : Nat} (hr : Own kd t w s l b) (ho : b ≠ k) : Own kd t w' s l b := by
  obtain ⟨sp, hc, hm⟩ := hr.mem
  exact ⟨hr.hd, sp, hc, by rw [h.2.2.2.2 b ho]; exact hm⟩
theorem Only.ownNil {k base : Nat} {w w' : World} (h : Only k w w') {s : Slc} {l : List Nat} (hr : OwnNil base w s l) (ho : k < base) : OwnNil base w' s l := by
  rcases hr with h1 | ⟨b, h1, h2, h3⟩
  · exact .inl h1
  · exact .inr ⟨b, h1, h2, h.own h3 (by omega)⟩

end Mul
end Go.Proofs.Ytflipimlpgbnmaa
namespace Go.Proofs.Ytflipimlpgbnmaa
open Go Go.RowKit Eng Sp Dg
set_option linter.unusedVariables false
set_option linter.unusedSimpArgs false
set_option maxRecDepth 100000
namespace Sb
open _root_.Go.Proofs.Ytflipimlpgbnmaa.Nat (OwnNil)
open _root_.Go.Proofs.Ytflipimlpgbnmaa.Mul (Only Off)

/-- The block's cells. -/
def Blk (w : World) (b : Nat) (cs : Array Value) : Prop := ∃ t, w.heap[b]? = some (.cells cs t (0, 0))
theorem Blk.lt {w : World} {b : Nat} {cs : Array Value} (h : Blk w b cs) : b < w.heap.size := by
  obtain ⟨t, h⟩ := h; exact (Array.getElem?_eq_some_iff.1 h).1
theorem Blk.ahead {w w' : World} {b : Nat} {cs : Array Value} (h : Blk w b cs) (ha : Ahead w w') : Blk w' b cs := by
  have hl := h.lt
  obtain ⟨t, h⟩ := h; exact ⟨t, by rw [Below.block ha b hl]; exact h⟩
theorem Blk.only {w w' : World} {b k : Nat} {cs : Array Value} (h : Blk w b cs) (ho : Only k w w') (hne : b ≠ k) : Blk w' b cs := by
  obtain ⟨t, h⟩ := h; exact ⟨t, by rw [ho.2.2.2.2 b hne]; exact h⟩
theorem Blk.cell {w : World} {b i : Nat} {cs : Array Value} {v : Value} (h : Blk w b cs) (hc : cs[i]? = some v) : w.cell? ⟨b, i, none⟩ = some v := by
  obtain ⟨t, h⟩ := h
  simp [World.cell?, h, hc]

theorem newC_b {w : World} {cs : Array Value} {t : TypeId} {K : Addr → World → Prop} (h : ∀ b w', b = w.heap.size → Ahead w w' → w'.heap.size = b + 1 → Blk w' b cs → K ⟨b, 0, none⟩ w') : newC w cs t K :=
  h _ _ rfl (Ahead.alloc _ _) (size_alloc _ _) ⟨t, get_alloc _ _⟩

/-- Nothing but the block, which holds no limb, has changed. -/
structure Upd (b : Nat) (w w' : World) : Prop where
  only : Only b w w'
  rd : ∀ s l, Rd .u64 w s l → Rd .u64 w' s l
theorem Upd.trans {b : Nat} {w w' w'' : World} (h : Upd b w w') (h' : Upd b w' w'') : Upd b w w'' := ⟨h.only.trans h'.only, fun s l hr => h'.rd s l (h.rd s l hr)⟩
theorem Upd.ahead {b : Nat} {w0 w w' : World} (h : Upd b w w') (ha : Ahead w0 w) (hb : w0.heap.size ≤ b) : Ahead w0 w' := h.only.ahead ha hb
theorem Upd.size {b : Nat} {w w' : World} (h : Upd b w w') : w'.heap.size = w.heap.size := h.only.2.2.2.1
theorem Upd.own {b base : Nat} {w w' : World} (h : Upd b w w') {s : Slc} {l : List Nat} (hr : OwnNil base w s l) (ho : b < base) : OwnNil base w' s l := h.only.ownNil hr ho
theorem Upd.cell {b : Nat} {w w' : World} (h : Upd b w w') {ad : Addr} {v : Value} (hne : ad.block ≠ b) (hc : w.cell? ad = some v) : w'.cell? ad = some v := by
  rw [World.cell?_of_block (h.only.2.2.2.2 _ hne)]; exact hc

def noU (cs : Array Value) : Bool := cs.toList.all fun v => match v with
  | .int .u64 _ => false
  | _ => true
theorem off_blk {w : World} {b : Nat} {cs : Array Value} {s : Slc} {l : List Int} (h : Blk w b cs) (hn : noU cs = true) (hr : Rd .u64 w s l) : Off b s := by
  intro ad e hp hb
  obtain ⟨ad', e', hc⟩ := hr.get 0 (by have := hr.n; omega)
  rw [e] at e'
  obtain rfl := Option.some.inj e'
  obtain ⟨t, h⟩ := h
  have hadd : ad.add 0 = ad := by simp [Addr.add]
  rw [hadd, World.cell?, hb, h] at hc
  simp only at hc
  split at hc
  · cases hc
  · have hm := Array.mem_of_getElem? hc
    unfold noU at hn
    have := List.all_eq_true.1 hn _ (Array.mem_toList_iff.2 hm)
    simp at this

theorem stC_b (i : Nat) {w : World} {b : Nat} {cs : Array Value} {ad : Addr} {v : Value} {K : World → Prop} (h : Blk w b cs) (hi : i < cs.size) (hn : noU cs = true)
    (hk : ∀ w', Upd b w w' → Blk w' b (cs.setIfInBounds i v) → K w') (hA : ad = ⟨b, i, none⟩ := by first | rfl | exact add_off) : stC ad v w K := by
  subst hA
  obtain ⟨t, hh⟩ := h
  have ho : Only b w (w.setCell ⟨b, i, none⟩ v) := Only.setCell b i w v
  refine ⟨⟨cs[i], by simp [World.cell?, hh, hi]⟩, by simp [World.frozen?, hh], hk _ ⟨ho, fun s l hr => ho.rd hr (off_blk ⟨t, hh⟩ hn hr)⟩ ⟨t, ?_⟩⟩
  have hlt := (Array.getElem?_eq_some_iff.1 hh).1
  have hget := (Array.getElem?_eq_some_iff.1 hh).2
  simp [World.setCell, Array.getElem?_modify, hh]
theorem ldB_b (i : Nat) {w : World} {b : Nat} {cs : Array Value} {ad : Addr} {x : Bool} {K : Bool → Prop} (h : Blk w b cs) (hc : cs[i]? = some (.bool x)) (hk : K x) (hA : ad = ⟨b, i, none⟩ := by first | rfl | exact add_off) : ldB ad w K := by
  subst hA; exact ⟨x, h.cell hc, hk⟩
theorem ldS_b (i : Nat) {w : World} {b : Nat} {cs : Array Value} {ad : Addr} {x : Slc} {K : Slc → Prop} (h : Blk w b cs) (hc : cs[i]? = some x.v) (hk : K x) (hA : ad = ⟨b, i, none⟩ := by first | rfl | exact add_off) : ldS ad w K := by
  subst hA; exact ⟨x, h.cell hc, hk⟩
theorem ldI_b (i : Nat) {w : World} {b : Nat} {cs : Array Value} {ad : Addr} {k : IntKind} {x : Int} {K : Int → Prop} (h : Blk w b cs) (hc : cs[i]? = some (.int k x)) (hk : K x) (hA : ad = ⟨b, i, none⟩ := by first | rfl | exact add_off) : ldI k ad w K := by
  subst hA; exact ⟨x, h.cell hc, hk⟩

abbrev c3 (x : Bool) (s : Slc) (e : Int) : Array Value := #[.bool x, s.v, .int .i64 e]
abbrev c2 (x : Bool) (s : Slc) : Array Value := #[.bool x, s.v]

end Sb
end Go.Proofs.Ytflipimlpgbnmaa
namespace Go.Proofs.Ytflipimlpgbnmaa
open Go Go.RowKit Eng Sp Dg
set_option linter.unusedVariables false
set_option linter.unusedSimpArgs false
set_option maxRecDepth 100000
namespace Fuel
open _root_.Go.Proofs.Ytflipimlpgbnmaa.Nat (Yes num_spec end_awake Num Num.ahead OwnNil OwnNil.rd OwnNil.ahead OwnI OwnI.rd OwnI.ahead OwnI.mono atts tw tw_length tw_getD atts_le atts_lt pow16 Attempts_spec alike_spec Norm_spec Add_spec bigC num_of)
open _root_.Go.Proofs.Ytflipimlpgbnmaa.Ref (Reach_spec Least)
open Sb

theorem cutHiG {k : IntKind} {t e : TypeId} (hT : isSl pr t k = some e) {w : World} {s : Slc} {h : Int} (h0 : 0 ≤ h) (h1 : h ≤ s.c) {K : Slc → World → Prop} (hk : K ⟨s.A, h.toNat, s.c⟩ w) :
    semS pr (Instr.sliceAt t s.v none (some (.int .i64 h)) none) w fun s' w' => K s' w' := by
  unfold semS; rw [Sem.wp_iff_run, run_slice_hi hT w s h0 h1]; exact ⟨_, rfl, hk⟩
theorem cutLoG {k : IntKind} {t e : TypeId} (hT : isSl pr t k = some e) {w : World} {s : Slc} {h : Int} (h0 : 0 ≤ h) (h1 : h ≤ s.n) {K : Slc → World → Prop} (hk : K ⟨if s.c = h.toNat then s.A else s.A.map (·.add h.toNat), s.n - h.toNat, s.c - h.toNat⟩ w) :
    semS pr (Instr.sliceAt t s.v (some (.int .i64 h)) none none) w fun s' w' => K s' w' := by
  unfold semS; rw [Sem.wp_iff_run, run_slice_lo hT w s h0 h1]; exact ⟨_, rfl, hk⟩
theorem fixLoG {k : IntKind} {t e : TypeId} (hT : isSl pr t k = some e) {w : World} {s : Slc} {h : Int} (h0 : 0 ≤ h) (h1 : h ≤ s.n) {K : Slc → Prop} (hk : K ⟨if s.c = h.toNat then s.A else s.A.map (·.add h.toNat), s.n - h.toNat, s.c - h.toNat⟩) :
    fixS pr (Instr.sliceAt t s.v (some (.int .i64 h)) none none) w fun s' => K s' :=
  ⟨_, fun w' _ => run_slice_lo hT w' s h0 h1, hk⟩

/-- The meter lies in block b: its fuel is N, k attempts have been told. -/
def Mt (w : World) (b : Nat) (N k : Nat) : Prop := ∃ s : Slc, Blk w b #[s.v, .int .i64 (k : Int), .bool true] ∧ Num w s N
theorem Mt.ahead {w w' : World} {b N k : Nat} (h : Mt w b N k) (ha : Ahead w w') : Mt w' b N k := by
  obtain ⟨s, h1, h2⟩ := h; exact ⟨s, h1.ahead ha, h2.ahead ha⟩
theorem Mt.lt {w : World} {b N k : Nat} (h : Mt w b N k) : b < w.heap.size := by obtain ⟨s, h1, _⟩ := h; exact h1.lt
/-- Only the meter's block, and new memory. -/
structure Stp (b : Nat) (w w' : World) : Prop where
  bar : Bar (fun k => k = b) w w'
  rd : ∀ s l, Rd .u64 w s l → Rd .u64 w' s l
theorem Stp.of_ahead {b : Nat} {w w' : World} (h : Ahead w w') : Stp b w w' := ⟨Bar.of_ahead h, fun _ _ hr => hr.ahead h⟩
theorem Stp.trans {b : Nat} {x y z : World} (h : Stp b x y) (k : Stp b y z) : Stp b x z := ⟨h.bar.trans k.bar, fun s l hr => k.rd s l (h.rd s l hr)⟩
theorem Stp.of_upd {b : Nat} {w w' : World} (h : Upd b w w') : Stp b w w' :=
  ⟨⟨h.only.1, h.only.2.1, h.only.2.2.1, Nat.le_of_eq h.only.2.2.2.1.symm, fun k _ hk => h.only.2.2.2.2 k hk⟩, h.rd⟩
theorem Stp.ahead {b : Nat} {w0 w w' : World} (h : Stp b w w') (ha : Ahead w0 w) (hb : w0.heap.size ≤ b) : Ahead w0 w' :=
  ⟨h.bar.os.trans ha.os, h.bar.tape.trans ha.tape, h.bar.output.trans ha.output, Nat.le_trans ha.size h.bar.size, fun k hk => (h.bar.block k (Nat.lt_of_lt_of_le hk ha.size) (by omega)).trans (Below.block ha k hk)⟩
theorem Stp.num {b : Nat} {w w' : World} {s : Slc} {N : Nat} (h : Stp b w w') (hn : Num w s N) : Num w' s N := by
  obtain ⟨l, h1, h2⟩ := hn; exact ⟨l, h.rd _ _ h1, h2⟩
/-- A slice that lies below the block. -/
def Lo (b : Nat) (s : Slc) : Prop := ∀ ad, s.A = some ad → ad.block < b
theorem Stp.rdI {b : Nat} {w w' : World} {s : Slc} {l : List Int} {k : IntKind} (h : Stp b w w') (hr : Rd k w s l) (ho : Lo b s) : Rd k w' s l :=
  ⟨hr.n, hr.c, fun i hi => by
    obtain ⟨ad, e, hc⟩ := hr.get i hi
    exact ⟨ad, e, h.bar.cell (by rw [Eng.add_block]; have := ho ad e; omega) hc⟩⟩

theorem is_yes {w : World} {b N k : Nat} (h : Mt w b N k) : Calls pr fuel_Meter_is_id #[.pointer (some ⟨b, 0, none⟩)] w fun e w' => w' = w ∧ e = .returned (.bool true) := by
  obtain ⟨s, h1, _⟩ := h
  exact fuel_Meter_is_vc _ w _ (br_true rfl (ldB_b 2 h1 rfl ⟨rfl, rfl⟩))
theorem New_spec {w : World} {s : Slc} {N : Nat} (h : Num w s N) : Calls pr fuel_New_id #[s.v] w fun e w' => Ahead w w' ∧ ∃ b, e = .returned (.pointer (some ⟨b, 0, none⟩)) ∧ w.heap.size ≤ b ∧ Mt w' b N 0 := by
  obtain ⟨l, r, hl, ol, rfl⟩ := h
  refine fuel_New_vc s w _ (Calls.mono (Norm_spec r hl ol) ?_)
  rintro e w1 ⟨h1, s1, rfl, o1⟩
  refine ⟨_, rfl, newC_b fun b w2 hb h2 hs2 B2 => ⟨h1.trans h2, b, rfl, by have := h1.size; omega, s1, B2, ?_⟩⟩
  have := Nat.len_le ol
  exact ⟨_, o1.rd.ahead h2, by omega, ok_digs two64 _, val_digs two64 _⟩
theorem left_spec {w : World} {b N k : Nat} (h : Mt w b N k) : Calls pr fuel_state_left_id #[.pointer (some ⟨b, 0, none⟩)] w fun e w' => Ahead w w' ∧ ∃ s, e = .returned (Slc.v s) ∧ Rd .i64 w' s ((tw (atts N)).drop (min k (atts N))) ∧ ∀ ad, s.A = some ad → w.heap.size ≤ ad.block := by
  obtain ⟨s, h1, h2⟩ := h
  have hle := atts_le N
  refine fuel_state_left_vc _ w _ (ldS_b 0 h1 rfl (Calls.mono (Attempts_spec h2) ?_))
  rintro e w1 ⟨a1, t, rfl, ot⟩
  refine ⟨_, rfl, ldI_b 1 (h1.ahead a1) rfl ?_⟩
  have rt := ot.rd
  have hn : t.n = atts N := by rw [rt.n, tw_length]
  have hm : minI (k : Int) (t.n : Int) = ((min k (atts N) : Nat) : Int) := by unfold minI; split <;> omega
  rw [hm]
  refine cutLoG (k := .i64) (e := tInt) (by kernel_rfl) (by omega) (by omega) ⟨a1, _, rfl, ?_, ?_⟩
  · rw [Int.toNat_natCast]; exact rt.drop (by rw [tw_length]; omega)
  · intro ad had
    rw [Int.toNat_natCast] at had
    rcases ot with ⟨rfl, _⟩ | ⟨b', q1, _, q3⟩
    · exfalso
      simp only at had
      split at had <;> simp at had
    · rw [q3.A] at had
      split at had
      · have := Option.some.inj had
        subst this; exact q1
      · simp only [Option.map_some] at had
        have := Option.some.inj had
        subst this
        rw [Eng.add_block]; exact q1
theorem Next_spec {w : World} {b N k : Nat} (h : Mt w b N k) : Calls pr fuel_Meter_Next_id #[.pointer (some ⟨b, 0, none⟩)] w fun e w' => Stp b w w' ∧
    e = .returned (.tuple #[.int .i64 (if k < atts N then ((64 * 2 ^ k : Nat) : Int) else 0), .int .i64 (if k < atts N then 0 else 180)]) ∧ Mt w' b N (if k < atts N then k + 1 else k) := by
  have hle := atts_le N
  refine fuel_Meter_Next_vc _ w _ (Calls.mono (is_yes h) ?_)
  rintro e w1 ⟨rfl, rfl⟩
  refine ⟨_, rfl, br_false rfl (Calls.mono (left_spec h) ?_)⟩
  rintro e w2 ⟨a2, t, rfl, rt, ht⟩
  have hn : t.n = atts N - min k (atts N) := by rw [rt.n, List.length_drop, tw_length]
  refine ⟨_, rfl, br_intro (fun hz => ?_) (fun hz => ?_)⟩
  · have hz' : t.n = 0 := by simpa using hz
    rw [if_neg (by omega), if_neg (by omega), if_neg (by omega)]
    exact ⟨Stp.of_ahead a2, rfl, h.ahead a2⟩
  · have hz' : t.n ≠ 0 := by simpa using hz
    have hk : k < atts N := by omega
    rw [if_pos hk, if_pos hk, if_pos hk]
    have hb := h.lt
    obtain ⟨s, h1, h2⟩ := h
    refine ldI_b (x := (k : Int)) 1 (h1.ahead a2) rfl (stC_b 1 (h1.ahead a2) (by simp) rfl fun w3 u3 B3 => ?_)
    rw [wrap_i64 (by omega) (by omega)] at B3
    have st3 : Stp b w2 w3 := Stp.of_upd u3
    have rt3 : Rd .i64 w3 t ((tw (atts N)).drop (min k (atts N))) := ⟨rt.n, rt.c, fun i hi => by
      obtain ⟨ad, e, hc⟩ := rt.get i hi
      exact ⟨ad, e, u3.cell (by rw [Eng.add_block]; have := ht ad e; omega) hc⟩⟩
    refine ix_ld (e := tInt) (k := .i64) (by kernel_rfl) rt3 (by omega) (by rw [List.length_drop, tw_length]; omega) ?_
    refine ⟨(Stp.of_ahead a2).trans st3, ?_, s, by simpa using B3, st3.num (h2.ahead a2)⟩
    have : ((tw (atts N)).drop (min k (atts N))).getD 0 0 = ((64 * 2 ^ k : Nat) : Int) := by
      rw [List.getD_eq_getElem?_getD, List.getElem?_drop, ← List.getD_eq_getElem?_getD, show min k (atts N) + 0 = k by omega, tw_getD hk]
    rw [show (0 : Int).toNat = 0 from rfl, this]
theorem Left_spec {w : World} {b N k : Nat} (h : Mt w b N k) : Calls pr fuel_Meter_Left_id #[.pointer (some ⟨b, 0, none⟩)] w fun e w' => Ahead w w' ∧ ∃ s, e = .returned (Slc.v s) ∧ Rd .i64 w' s ((tw (atts N)).drop (min k (atts N))) := by
  refine fuel_Meter_Left_vc _ w _ (Calls.mono (is_yes h) ?_)
  rintro e w1 ⟨rfl, rfl⟩
  refine ⟨_, rfl, br_false rfl (Calls.mono (left_spec h) ?_)⟩
  rintro e w2 ⟨a2, t, rfl, rt, ht⟩
  exact ⟨_, rfl, a2, _, rfl, rt⟩

def enough (N : Nat) (p : Int) : Prop := 0 < atts N ∧ p ≤ ((64 * 2 ^ (atts N - 1) : Nat) : Int)
instance (N : Nat) (p : Int) : Decidable (enough N p) := inferInstanceAs (Decidable (_ ∧ _))
theorem Enough_spec {w : World} {s : Slc} {N : Nat} {p : Int} (h : Num w s N) : Calls pr fuel_Enough_id #[s.v, .int .i64 p] w fun e w' => Ahead w w' ∧ e = .returned (.bool (decide (enough N p))) := by
  have hle := atts_le N
  refine fuel_Enough_vc s p w _ (Calls.mono (R := fun e w' => Ahead w w' ∧ e = .returned (.int .i64 (if atts N = 0 then 0 else ((64 * 2 ^ (atts N - 1) : Nat) : Int)))) (fuel_Last_vc s w _ (Calls.mono (Attempts_spec h) ?_)) ?_)
  · rintro e w1 ⟨a1, t, rfl, ot⟩
    have hn : t.n = atts N := by rw [ot.rd.n, tw_length]
    refine ⟨_, rfl, br_intro (fun hz => ?_) (fun hz => ?_)⟩
    · have : t.n = 0 := by simpa using hz
      exact ⟨a1, by rw [if_pos (by omega)]⟩
    · have : t.n ≠ 0 := by simpa using hz
      rw [wrap_i64 (by omega) (by omega)]
      refine ix_ld (e := tInt) (k := .i64) (by kernel_rfl) ot.rd (by omega) (by rw [tw_length]; omega) ⟨a1, ?_⟩
      rw [if_neg (by omega), show ((t.n : Int) - 1).toNat = atts N - 1 by omega, tw_getD (by omega)]
  · rintro e w1 ⟨a1, rfl⟩
    have hp : 0 < 2 ^ (atts N - 1) := Nat.pow_pos (by omega)
    by_cases h0 : atts N = 0
    · rw [if_pos h0]
      refine ⟨_, rfl, br_false rfl ⟨a1, ?_⟩⟩
      rw [decide_eq_false (fun h => by have := h.1; omega)]
    · rw [if_neg h0]
      refine ⟨_, rfl, br_true (decide_eq_true (by omega)) ⟨a1, ?_⟩⟩
      congr 2
      rw [Bool.eq_iff_iff]
      simp only [decide_eq_true_eq]
      unfold enough
      omega

end Fuel
end Go.Proofs.Ytflipimlpgbnmaa
namespace Go.Proofs.Ytflipimlpgbnmaa
open Go Go.RowKit Eng Sp Dg
set_option linter.unusedVariables false
set_option linter.unusedSimpArgs false
set_option maxRecDepth 100000
namespace Fuel
open _root_.Go.Proofs.Ytflipimlpgbnmaa.Nat (Yes num_spec end_awake Num Num.ahead OwnNil OwnNil.rd OwnNil.ahead OwnI OwnI.rd OwnI.ahead OwnI.mono atts tw tw_length tw_getD tw_succ atts_le atts_lt pow16 Attempts_spec alike_spec bigC num_of add_num own_num digs_len_bl)
open _root_.Go.Proofs.Ytflipimlpgbnmaa.Ref (RN RN.ahead Of_spec Cmp_spec zero_spec Int_spec Sub_spec Limbs_spec Reach_spec Least least_lt len32)
open Sb

theorem fuel_add {w : World} {b N M k : Nat} {s : Slc} (h : Mt w b N k) (hs : Num w s M) : Calls pr fuel_Meter_Add_id #[.pointer (some ⟨b, 0, none⟩), s.v] w fun e w' => Stp b w w' ∧ e = .returned (.int .i64 (bigC (N + M))) ∧ (bigC (N + M) = 0 → Mt w' b (N + M) k) := by
  refine fuel_Meter_Add_vc _ s w _ (Calls.mono (is_yes h) ?_)
  rintro e w1 ⟨rfl, rfl⟩
  have h0 := h
  obtain ⟨t, h1, h2⟩ := h
  refine ⟨_, rfl, br_false rfl (ldS_b 0 h1 rfl (Calls.mono (add_num h2 hs) ?_))⟩
  rintro e w2 ⟨a2, u, rfl, ou⟩
  refine ⟨_, _, rfl, br_intro (fun hc => ?_) (fun hc => ?_)⟩
  · have hc' : bigC (N + M) ≠ 0 := by simpa using hc
    exact ⟨Stp.of_ahead a2, rfl, fun h => absurd h hc'⟩
  · have hc' : bigC (N + M) = 0 := by simpa using hc
    have hbl : bl (N + M) ≤ 67108864 := by
      unfold bigC at hc'
      split at hc' <;> omega
    rw [if_pos hc'] at ou
    have nu := own_num ou hbl
    refine onSome_intro rfl (stC_b 0 (h1.ahead a2) (by simp) rfl fun w3 u3 B3 => ?_)
    exact ⟨(Stp.of_ahead a2).trans (Stp.of_upd u3), by rw [hc'], fun _ => ⟨u, by simpa using B3, (Stp.of_upd u3).num nu⟩⟩
theorem atts_mono {N M : Nat} (h : N ≤ M) : atts N ≤ atts M := by
  have := bl_mono h
  unfold atts; omega
theorem tw_take {a c : Nat} (h : a ≤ c) : (tw c).take a = tw a := by
  unfold tw
  rw [← List.map_take, List.take_range, Nat.min_eq_left h]
theorem pow_le {i j : Nat} (h : i ≤ j) : 64 * 2 ^ i ≤ 64 * 2 ^ j := Nat.mul_le_mul_left _ (Nat.pow_le_pow_right (by omega) h)
theorem Least.le {p : Int} {i a : Nat} (h : Least p i) (hp : p ≤ ((64 * 2 ^ a : Nat) : Int)) : i ≤ a := by
  rcases Nat.lt_or_ge a i with h1 | h1
  · have := h.1 a h1; omega
  · exact h1
theorem enough_iff {p : Int} {i F : Nat} (h : Least p i) (hi : i < 16) : enough F p ↔ 64 * 2 ^ i ≤ F := by
  have hle := atts_le F
  unfold enough
  constructor
  · rintro ⟨h0, h1⟩
    have h2 := Least.le h h1
    have h3 := (atts_lt (N := F) (i := atts F - 1) (by omega)).1 (by omega)
    exact Nat.le_trans (pow_le h2) h3
  · intro h1
    have h2 := (atts_lt (N := F) hi).2 h1
    have h3 := pow_le (show i ≤ atts F - 1 by omega)
    have h4 := h.2
    exact ⟨by omega, by omega⟩
theorem lo_of {base : Nat} {w : World} {s : Slc} {l : List Int} {b : Nat} (h : OwnI base w s l) (hb : w.heap.size ≤ b) : Lo b s := by
  intro ad had
  rcases h with ⟨rfl, _⟩ | ⟨b', _, _, q3⟩
  · cases had
  · rw [q3.A] at had
    have := Option.some.inj had
    subst this
    have := q3.lt
    simp only; omega

set_option maxHeartbeats 1000000 in
theorem FuelGrows_ok {w : World} {s0 s1 : Slc} {l0 l1 : List Nat} {x2 : Int} (r0 : Rd .u64 w s0 (nn l0)) (o0 : ok B64 l0) (z0 : l0.length * 8 ≤ 140737488351232) (r1 : Rd .u64 w s1 (nn l1)) (o1 : ok B64 l1) (z1 : l1.length * 8 ≤ 140737488351232)
    (hx : -9223372036854775808 ≤ x2 ∧ x2 ≤ 9223372036854775807) : Calls pr surdlaw18_FuelGrows_id #[s0.v, s1.v, .int .i64 x2] w (Yes w) := by
  have NF := num_of r0 o0 z0
  have NG := num_of r1 o1 z1
  have f32 := len32 o0
  have g32 := len32 o1
  have ofF := fun w1 (h : Ahead w w1) => Of_spec (r0.ahead h) z0 o0
  have ofG := fun w1 (h : Ahead w w1) => Of_spec (r1.ahead h) z1 o1
  generalize val B64 l0 = F at *
  generalize val B64 l1 = G at *
  have hleF := atts_le F
  have hleG := atts_le G
  refine surdlaw18_FuelGrows_vc s0 s1 x2 w _
    (fun t0 t1 t2 t7 t8 t31 t32 t33 w' => s0 = t0 ∧ s1 = t1 ∧ x2 = t2 ∧ t7 = t31 ∧ t32 = ((atts F : Nat) : Int) ∧ Ahead w w' ∧ OwnI w.heap.size w' t7 (tw (atts F)) ∧ OwnI w.heap.size w' t8 (tw (atts G)) ∧ ∃ j : Nat, t33 = (j : Int) ∧ j ≤ atts F)
    (fun _ _ _ _ _ _ t32 t33 _ => (t32 - t33).toNat)
    (fun t1 t7 t13 t14 t18 t154 t155 t156 w' => s1 = t1 ∧ t7 = t154 ∧ t155 = ((atts F : Nat) : Int) ∧ Ahead w w' ∧ ∃ (b j : Nat), t18 = some ⟨b, 0, none⟩ ∧ w.heap.size ≤ b ∧ t156 = (j : Int) ∧ j ≤ atts F ∧ Mt w' b F j ∧ Rd .i64 w' t7 (tw (atts F)) ∧ Lo b t7 ∧ RN w' t13 F ∧ RN w' t14 G)
    (fun _ _ _ _ _ _ t155 t156 _ => (t155 - t156).toNat)
    (fun t1 t7 t13 t14 t18 t23 w' => s1 = t1 ∧ (t7.n : Int) = ((atts F : Nat) : Int) ∧ Ahead w w' ∧ ∃ (b j : Nat), t18 = some ⟨b, 0, none⟩ ∧ w.heap.size ≤ b ∧ t23 = (j : Int) ∧ j ≤ 3 ∧ Mt w' b F (atts F) ∧ RN w' t13 F ∧ RN w' t14 G)
    (fun _ _ _ _ _ t23 _ => (3 - t23).toNat)
    (fun t0 t1 t2 t7 t8 t11 t12 w' => s0 = t0 ∧ s1 = t1 ∧ x2 = t2 ∧ Ahead w w' ∧ OwnI w.heap.size w' t7 (tw (atts F)) ∧ OwnI w.heap.size w' t8 (tw (atts G)) ∧ ∃ a c : Nat, a ≤ c ∧ c ≤ 16 ∧ OwnI w.heap.size w' t11 (tw a) ∧ OwnI w.heap.size w' t12 (tw c))
    (fun t0 t1 t2 t7 t13 t14 w' => s0 = t0 ∧ s1 = t1 ∧ x2 = t2 ∧ Ahead w w' ∧ OwnI w.heap.size w' t7 (tw (atts F)) ∧ RN w' t13 F ∧ RN w' t14 G)
    (fun t0 t1 t7 t13 t14 w' => s0 = t0 ∧ s1 = t1 ∧ Ahead w w' ∧ OwnI w.heap.size w' t7 (tw (atts F)) ∧ RN w' t13 F ∧ RN w' t14 G)
    ?_ ?_ ?_ ?_ ?_ ?_ ?_
  · refine Calls.mono (Attempts_spec NF) ?_
    rintro e w1 ⟨a1, s2, rfl, os2⟩
    refine ⟨_, rfl, Calls.mono (Attempts_spec (NG.ahead a1)) ?_⟩
    rintro e w2 ⟨a2, s3, rfl, os3⟩
    refine ⟨_, rfl, rfl, rfl, rfl, rfl, by rw [os2.rd.n, tw_length], a1.trans a2, os2.ahead a2, os3.mono a1.size, 0, rfl, Nat.zero_le _⟩
  · rintro _ _ _ t7 t8 _ _ _ w1 ⟨rfl, rfl, rfl, rfl, rfl, a1, o7, o8, j, rfl, hj⟩
    have n7 : t7.n = atts F := by rw [o7.rd.n, tw_length]
    have n8 : t8.n = atts G := by rw [o8.rd.n, tw_length]
    refine br_intro (fun hlt => ?_) (fun hge => ?_)
    · have hj' : j < atts F := by have := of_decide_eq_true hlt; omega
      have e8 : IntKind.i64.wrap ((j : Int) + 1) = ((j + 1 : Nat) : Int) := by rw [wrap_i64 (by omega) (by omega)]; omega
      have hp16 := pow16 (show j < 16 by omega)
      refine ix_ld (e := tInt) (k := .i64) (by kernel_rfl) o7.rd (by omega) (by rw [tw_length]; omega) ?_
      rw [Int.toNat_natCast, tw_getD hj', e8]
      have fin : br (decide (((64 * 2 ^ j : Nat) : Int) > 2097152)) (Yes w (.returned (Value.bool false)) w1) ((s0 = s0 ∧ s1 = s1 ∧ x2 = x2 ∧ t7 = t7 ∧ ((atts F : Nat) : Int) = ((atts F : Nat) : Int) ∧ Ahead w w1 ∧ OwnI w.heap.size w1 t7 (tw (atts F)) ∧ OwnI w.heap.size w1 t8 (tw (atts G)) ∧ ∃ j_1 : Nat, ((j + 1 : Nat) : Int) = (j_1 : Int) ∧ j_1 ≤ atts F) ∧ (((atts F : Nat) : Int) - ((j + 1 : Nat) : Int)).toNat < (((atts F : Nat) : Int) - (j : Int)).toNat) :=
        br_false (decide_eq_false (by omega)) ⟨⟨rfl, rfl, rfl, rfl, rfl, a1, o7, o8, j + 1, rfl, by omega⟩, by omega⟩
      refine br_intro (fun h0 => br_intro (fun h1 => ?_) (fun h1 => br_false (decide_eq_false ?_) fin)) (fun h0 => br_true (decide_eq_true ?_) ?_)
      · have hj0 : (j : Int) = 0 := eq_of_beq h0
        have hj1 : j = 0 := by omega
        subst hj1
        simp at h1
      · have hj0 : (j : Int) = 0 := eq_of_beq h0
        omega
      · have hj0 : (j : Int) ≠ 0 := fun h => by rw [h] at h0; simp at h0
        omega
      · have hj0 : (j : Int) ≠ 0 := fun h => by rw [h] at h0; simp at h0
        rw [wrap_i64 (by omega) (by omega)]
        refine ix_ld (e := tInt) (k := .i64) (by kernel_rfl) o7.rd (by omega) (by rw [tw_length]; omega) ?_
        rw [show ((j : Int) - 1).toNat = j - 1 by omega, tw_getD (by omega)]
        have e2 : IntKind.i64.wrap (2 * ((64 * 2 ^ (j - 1) : Nat) : Int)) = ((64 * 2 ^ j : Nat) : Int) := by
          have : 2 ^ j = 2 * 2 ^ (j - 1) := by
            conv => lhs; rw [show j = (j - 1) + 1 by omega, Nat.pow_succ]
            omega
          rw [wrap_i64 (by omega) (by omega)]; omega
        rw [e2]
        exact br_false (by simp) fin
    · refine br_intro (fun hg => ?_) (fun hg => ?_)
      · have := of_decide_eq_true hg
        exact ⟨rfl, rfl, rfl, a1, o7, o8, atts G, atts F, by omega, hleF, o8, o7⟩
      · have := of_decide_eq_false hg
        exact ⟨rfl, rfl, rfl, a1, o7, o8, atts F, atts G, by omega, hleG, o7, o8⟩
  · rintro _ t7 t13 t14 _ _ _ _ w1 ⟨rfl, rfl, rfl, a1, b, j, rfl, hb, rfl, hj, hM, r7, lo7, r13, r14⟩
    refine br_intro (fun hlt => ?_) (fun hge => ?_)
    · have hj' : j < atts F := by have := of_decide_eq_true hlt; omega
      have e8 : IntKind.i64.wrap ((j : Int) + 1) = ((j + 1 : Nat) : Int) := by rw [wrap_i64 (by omega) (by omega)]; omega
      refine ix_ld (e := tInt) (k := .i64) (by kernel_rfl) r7 (by omega) (by rw [tw_length]; omega) ?_
      rw [Int.toNat_natCast, tw_getD hj', e8]
      refine Calls.mono (Next_spec hM) ?_
      rw [if_pos hj', if_pos hj', if_pos hj']
      rintro e w2 ⟨st, rfl, hM2⟩
      refine ⟨_, _, rfl, br_false (by simp) (Calls.mono num_spec ?_)⟩
      rintro e w3 ⟨rfl, rfl⟩
      exact ⟨_, rfl, br_false rfl ⟨⟨rfl, rfl, rfl, st.ahead a1 hb, b, j + 1, rfl, hb, rfl, by omega, hM2, st.rdI r7 lo7, lo7, st.rd _ _ r13, st.rd _ _ r14⟩, by omega⟩⟩
    · have hj' : j = atts F := by have := of_decide_eq_false hge; omega
      subst hj'
      exact ⟨rfl, by rw [r7.n, tw_length], a1, b, 0, rfl, hb, rfl, by omega, hM, r13, r14⟩
  · rintro _ t7 t13 t14 _ _ w1 ⟨rfl, n7, a1, b, j, rfl, hb, rfl, hj, hM, r13, r14⟩
    refine br_intro (fun hlt => ?_) (fun hge => ?_)
    · have hj' : j < 3 := by have := of_decide_eq_true hlt; omega
      have e8 : IntKind.i64.wrap ((j : Int) + 1) = ((j + 1 : Nat) : Int) := by rw [wrap_i64 (by omega) (by omega)]; omega
      rw [e8]
      refine Calls.mono (Next_spec hM) ?_
      rw [if_neg (by omega), if_neg (by omega), if_neg (by omega)]
      rintro e w2 ⟨st, rfl, hM2⟩
      refine ⟨_, _, rfl, br_false (by simp) (Calls.mono num_spec ?_)⟩
      rintro e w3 ⟨rfl, rfl⟩
      exact ⟨_, rfl, br_false rfl ⟨⟨rfl, n7, st.ahead a1 hb, b, j + 1, rfl, hb, rfl, by omega, hM2, st.rd _ _ r13, st.rd _ _ r14⟩, by omega⟩⟩
    · refine Calls.mono (fuel_add hM (NG.ahead a1)) ?_
      rintro e w2 ⟨st, rfl, hM2⟩
      have a2 := st.ahead a1 hb
      refine ⟨_, rfl, Calls.mono num_spec ?_⟩
      rintro e w3 ⟨rfl, rfl⟩
      refine ⟨_, rfl, br_intro (fun hc => ?_) (fun hc => ?_)⟩
      · have hc' : bigC (F + G) ≠ 0 := by simpa using hc
        have hc3 : bigC (F + G) = 3 := by
          unfold bigC at hc' ⊢
          split at hc' <;> simp_all
        refine Calls.mono num_spec ?_
        rintro e w4 ⟨rfl, rfl⟩
        exact ⟨_, rfl, br_true (by rw [hc3]; rfl) (end_awake a2)⟩
      · have hc' : bigC (F + G) = 0 := by simpa using hc
        have hbl : bl (F + G) ≤ 67108864 := by
          unfold bigC at hc'
          split at hc' <;> omega
        have hM3 := hM2 hc'
        refine Calls.mono (Ref.Add_spec (st.rd _ _ r13) (st.rd _ _ r14) (by omega) (by omega)) ?_
        rintro e w4 ⟨a4, t, rfl, rt⟩
        have hd := digs_len_bl (N := F + G) (m := 2 ^ 20) (by omega)
        refine ⟨_, rfl, Calls.mono (Limbs_spec rt (by omega)) ?_⟩
        rintro e w5 ⟨a5, u, rfl, ou⟩
        refine ⟨_, rfl, Calls.mono (Attempts_spec (own_num ou hbl)) ?_⟩
        rintro e w6 ⟨a6, v, rfl, ov⟩
        have hmo := atts_mono (show F ≤ F + G by omega)
        have hle2 := atts_le (F + G)
        have nv : v.n = atts (F + G) := by rw [ov.rd.n, tw_length]
        refine ⟨_, rfl, br_true (decide_eq_true (by omega)) ?_⟩
        rw [n7]
        have hd6 := Ahead.drew w6
        have a36 := ((a4.trans a5).trans a6).trans hd6
        refine fixLoG (k := .i64) (e := tInt) (by kernel_rfl) (by omega) (by omega) ?_
        refine Calls.mono (Left_spec (hM3.ahead a36)) ?_
        rintro e w7 ⟨a7, y, rfl, ry⟩
        rw [Nat.min_eq_left hmo] at ry
        have rv := (ov.rd.ahead hd6).drop (m := atts F) (by rw [tw_length]; omega)
        rw [Int.toNat_natCast]
        refine ⟨_, rfl, a7, Calls.mono (alike_spec ry (rv.ahead a7) (by rw [List.length_drop, tw_length]; omega)) ?_⟩
        rintro e w8 ⟨a8, rfl⟩
        refine ⟨_, rfl, a8, br_true rfl ?_⟩
        have a28 := ((a2.trans a36).trans a7).trans a8
        refine Calls.mono (Nat.awake_spec _) ?_
        rintro e w9 ⟨rfl, a9⟩
        exact ⟨_, rfl, a9, rfl, a28.trans a9⟩
  · rintro _ _ _ t7 t8 t11 t12 w1 ⟨rfl, rfl, rfl, a1, o7, o8, a, c, hac, hc16, o11, o12⟩
    have n7 : t7.n = atts F := by rw [o7.rd.n, tw_length]
    have n8 : t8.n = atts G := by rw [o8.rd.n, tw_length]
    have n11 : t11.n = a := by rw [o11.rd.n, tw_length]
    have r12 := o12.rd
    have n12 : t12.n = c := by rw [r12.n, tw_length]
    have c12 := r12.c
    refine cutHiG (k := .i64) (e := tInt) (by kernel_rfl) (by omega) (by omega) ?_
    rw [Int.toNat_natCast]
    have rc := r12.take (m := t11.n) (c := t12.c) (by rw [tw_length]; omega) (by omega)
    have et : (tw c).take t11.n = tw a := by rw [n11, tw_take hac]
    rw [et] at rc
    refine Calls.mono (alike_spec o11.rd rc (by rw [tw_length]; omega)) ?_
    rintro e w2 ⟨a2, rfl⟩
    have a02 := a1.trans a2
    refine ⟨_, rfl, br_false rfl (Calls.mono (ofF _ a02) ?_)⟩
    rintro e w3 ⟨a3, s4, rfl, r4⟩
    have a03 := a02.trans a3
    refine ⟨_, rfl, Calls.mono (ofG _ a03) ?_⟩
    rintro e w4 ⟨a4, s5, rfl, r5⟩
    refine ⟨_, rfl, Calls.mono (Cmp_spec (r4.ahead a4) r5 (by omega) (by omega)) ?_⟩
    rintro e w5 ⟨a5, rfl⟩
    have cmp2 : ∀ {K : Prop}, (∀ w6, Ahead w5 w6 → K) → True := fun _ => trivial
    have rest : Calls pr surdref01_Cmp_id #[s4.v, s5.v] w5 fun e7 w11 => ∃ x5 : Int, e7 = .returned (Value.int .i64 x5) ∧ (br (decide (x5 ≥ 0)) (br (decide ((t7.n : Int) < (t8.n : Int))) (Yes w (.returned (Value.bool false)) w11)
        (s0 = s0 ∧ s1 = s1 ∧ x2 = x2 ∧ Ahead w w11 ∧ OwnI w.heap.size w11 t7 (tw (atts F)) ∧ RN w11 s4 F ∧ RN w11 s5 G)) (s0 = s0 ∧ s1 = s1 ∧ x2 = x2 ∧ Ahead w w11 ∧ OwnI w.heap.size w11 t7 (tw (atts F)) ∧ RN w11 s4 F ∧ RN w11 s5 G)) := by
      refine Calls.mono (Cmp_spec ((r4.ahead a4).ahead a5) (r5.ahead a5) (by omega) (by omega)) ?_
      rintro e w6 ⟨a6, rfl⟩
      have a26 := ((a3.trans a4).trans a5).trans a6
      have K : s0 = s0 ∧ s1 = s1 ∧ x2 = x2 ∧ Ahead w w6 ∧ OwnI w.heap.size w6 t7 (tw (atts F)) ∧ RN w6 s4 F ∧ RN w6 s5 G :=
        ⟨rfl, rfl, rfl, a02.trans a26, (o7.ahead a2).ahead a26, ((r4.ahead a4).ahead a5).ahead a6, (r5.ahead a5).ahead a6⟩
      refine ⟨_, rfl, br_intro (fun h => br_intro (fun h2 => ?_) (fun _ => K)) (fun _ => K)⟩
      have h1 := of_decide_eq_true h
      have h3 := of_decide_eq_true h2
      have hGF : G ≤ F := by
        rcases Nat.lt_or_ge F G with h4 | h4
        · have := cmpI_neg.2 h4; omega
        · exact h4
      have := atts_mono hGF
      omega
    refine ⟨_, rfl, br_intro (fun h => br_intro (fun h2 => ?_) (fun _ => rest)) (fun _ => rest)⟩
    have h1 := of_decide_eq_true h
    have h3 := of_decide_eq_true h2
    have hFG : F ≤ G := by
      rcases Nat.lt_or_ge G F with h4 | h4
      · have := cmpI_pos.2 h4; omega
      · exact h4
    have := atts_mono hFG
    omega
  · rintro _ _ _ t7 t13 t14 w1 ⟨rfl, rfl, rfl, a1, o7, r13, r14⟩
    by_cases hp : x2 ≤ 2097152
    · refine Calls.mono (Reach_spec hp) ?_
      rintro e w2 ⟨a2, i, s, hi, rfl, os⟩
      have hi16 : i < 16 := by have := least_lt hp hi.1; omega
      have h16 := pow16 hi16
      have hpos : 0 < 2 ^ i := Nat.pow_pos (by omega)
      have hbl : bl (64 * 2 ^ i) ≤ 22 := bl_le (by omega)
      have hdl := digs_len_bl (N := 64 * 2 ^ i) (m := 1) (by omega)
      refine ⟨_, _, rfl, Calls.mono num_spec ?_⟩
      rintro e w3 ⟨rfl, rfl⟩
      have ofR := Of_spec os.rd (by omega) (ok_digs two64 _)
      rw [val_digs two64] at ofR
      refine ⟨_, rfl, br_true rfl (Calls.mono ofR ?_)⟩
      rintro e w4 ⟨a4, s7, rfl, r7⟩
      have n4 : Num w4 s (64 * 2 ^ i) := (own_num os (by omega)).ahead a4
      refine ⟨_, rfl, Calls.mono (Enough_spec (p := x2) n4) ?_⟩
      rintro e w5 ⟨a5, rfl⟩
      refine ⟨_, rfl, br_false (by rw [decide_eq_true ((enough_iff hi hi16).2 (Nat.le_refl _))]; rfl) (Calls.mono (zero_spec (r7.ahead a5)) ?_)⟩
      rintro e w6 ⟨rfl, rfl⟩
      refine ⟨_, rfl, br_false (decide_eq_false (by omega)) (Calls.mono (Int_spec (v := 1) (by omega)) ?_)⟩
      rintro e w7 ⟨a7, s8, rfl, r8⟩
      have l32 := len32 (ok_digs two64 (64 * 2 ^ i))
      rw [val_digs two64] at l32
      refine ⟨_, rfl, Calls.mono (Sub_spec ((r7.ahead a5).ahead a7) r8 (by omega) (by omega)) ?_⟩
      rintro e w8 ⟨a8, s9, rfl, r9⟩
      have hbl1 : bl (64 * 2 ^ i - 1) ≤ 22 := bl_le (by omega)
      have hdl1 := digs_len_bl (N := 64 * 2 ^ i - 1) (m := 1) (by omega)
      refine ⟨_, rfl, Calls.mono (Limbs_spec r9 (by omega)) ?_⟩
      rintro e w9 ⟨a9, s10, rfl, o10⟩
      refine ⟨_, rfl, Calls.mono (Enough_spec (p := x2) (own_num o10 (by omega))) ?_⟩
      rintro e w10 ⟨a10, rfl⟩
      have a210 := ((((a4.trans a5).trans a7).trans a8).trans a9).trans a10
      have a110 := a2.trans a210
      refine ⟨_, rfl, br_false (decide_eq_false (fun h => by have := (enough_iff hi hi16).1 h; omega)) (Calls.mono (Enough_spec (p := x2) (NF.ahead (a1.trans a110))) ?_)⟩
      rintro e w11 ⟨a11, rfl⟩
      have a1_11 := a110.trans a11
      have h7 := ((((a5.trans a7).trans a8).trans a9).trans a10).trans a11
      refine ⟨_, rfl, Calls.mono (Cmp_spec (r13.ahead a1_11) (r7.ahead h7) (by omega) (by omega)) ?_⟩
      rintro e w12 ⟨a12, rfl⟩
      have a112 := a1_11.trans a12
      refine ⟨_, rfl, br_false ?_ ⟨rfl, rfl, a1.trans a112, o7.ahead a112, r13.ahead a112, r14.ahead a112⟩⟩
      have hiff : enough F x2 ↔ cmpI F (64 * 2 ^ i) ≥ 0 := by
        rw [enough_iff hi hi16]
        have h1 := cmpI_neg (m := F) (n := 64 * 2 ^ i)
        omega
      simp [hiff]
    · refine fuel_Reach_vc x2 w1 _ (fun _ _ _ => False) (fun _ _ _ => 0) (br_true (by simp; omega) ?_) (fun _ _ _ h => h.elim)
      refine ⟨_, _, rfl, Calls.mono num_spec ?_⟩
      rintro e w3 ⟨rfl, rfl⟩
      refine ⟨_, rfl, br_false rfl (br_false (decide_eq_false (by omega)) (Calls.mono (Enough_spec (p := x2) (NF.ahead a1)) ?_))⟩
      rintro e w4 ⟨a4, rfl⟩
      refine ⟨_, rfl, br_false (decide_eq_false (fun h => ?_)) ⟨rfl, rfl, a1.trans a4, o7.ahead a4, r13.ahead a4, r14.ahead a4⟩⟩
      have h0 := h.1
      have h1 := h.2
      have := pow16 (show atts F - 1 < 16 by omega)
      omega
  · rintro _ _ t7 t13 t14 w1 ⟨rfl, rfl, a1, o7, r13, r14⟩
    refine Calls.mono (New_spec (NF.ahead a1)) ?_
    rintro e w2 ⟨a2, b, rfl, hb, hM⟩
    refine ⟨_, rfl, br_false rfl ⟨rfl, rfl, by rw [o7.rd.n, tw_length], a1.trans a2, b, 0, rfl, Nat.le_trans a1.size hb, rfl, Nat.zero_le _, hM, (o7.ahead a2).rd, lo_of o7 hb, r13.ahead a2, r14.ahead a2⟩⟩

end Fuel
end Go.Proofs.Ytflipimlpgbnmaa
