/- Verification conditions of some of the program's functions, printed by a program of this session. No condition. -/
import Derived.Test.YtflipimlpgbnmaaProg
import Derived.Test.YtflipimlpgbnmaaEng
namespace Go.Proofs.Ytflipimlpgbnmaa
open Go Go.RowKit Eng
set_option linter.unusedVariables false

def surdlaw18_FuelNones_cut (J0 : Int → Slc → Slc → Int → Int → World → Prop) (m0 : Int → Slc → Slc → Int → Int → World → Nat) : Nat → Option ((Act → World → Prop) × (Act → World → Nat))
  | 0 => some (fun a_ w_ => atSz a_ 67 (atI .i64 a_ 0 fun t0 => atS a_ 1 fun t1 => atS a_ 11 fun t11 => atI .i64 a_ 12 fun t12 => atI .i64 a_ 13 fun t13 => J0 t0 t1 t11 t12 t13 w_), fun a_ w_ => mI a_ 0 fun t0 => mS a_ 1 fun t1 => mS a_ 11 fun t11 => mI a_ 12 fun t12 => mI a_ 13 fun t13 => m0 t0 t1 t11 t12 t13 w_)
  | _ => none

set_option maxRecDepth 100000 in
/-- surd/surdlaw18.FuelNones: function 7. -/
theorem surdlaw18_FuelNones_vc (a0 : Int) (a1 : Slc) (w : World) (R : Ending → World → Prop)
    (J0 : Int → Slc → Slc → Int → Int → World → Prop) (m0 : Int → Slc → Slc → Int → Int → World → Nat)
    (h : newC w #[(⟨none, 0, 0⟩ : Slc).v, Value.int .i64 0, Value.bool false] 65 fun ad1 w1 =>
    newC w1 #[Value.pointer none, Value.pointer (some ad1)] 55 fun ad2 w2 =>
    J0 a0 a1 (⟨some ad2, 2, 2⟩ : Slc) ((⟨some ad2, 2, 2⟩ : Slc).n : Int) 0 w2)
    (h0 : ∀ (t0 : Int) (t1 : Slc) (t11 : Slc) (t12 : Int) (t13 : Int) (w_ : World), J0 t0 t1 t11 t12 t13 w_ → 
    br (decide (t13 < t12))
    (semA Try.prog (Instr.indexAt 66 t11.v (Value.int .i64 t13)) w_ fun ad3 w3 =>
      ldP ad3 w3 fun p1 =>
      Calls Try.prog 34 #[Value.pointer p1] w3 fun e1 w4 =>
      ∃ x1 : Int, ∃ x2 : Int, e1 = .returned (Value.tuple #[Value.int .i64 x1, Value.int .i64 x2]) ∧
      (br (x1 != 0)
        (R (.returned (Value.bool false)) w4)
        (Calls Try.prog 11 #[Value.int .i64 x2] w4 fun e2 w5 =>
          ∃ x3 : Int, e2 = .returned (Value.int .i64 x3) ∧
          (br (x3 != 2)
            (R (.returned (Value.bool false)) w5)
            (Calls Try.prog 38 #[Value.pointer p1] w5 fun e3 w6 =>
              ∃ x4 : Int, e3 = .returned (Value.int .i64 x4) ∧
              (br (x4 != 0)
                (R (.returned (Value.bool false)) w6)
                (Calls Try.prog 37 #[Value.pointer p1] w6 fun e4 w7 =>
                  ∃ s1 : Slc, e4 = .returned s1.v ∧
                  (br ((s1.n : Int) != 0)
                    (R (.returned (Value.bool false)) w7)
                    (Calls Try.prog 39 #[Value.pointer p1] w7 fun e5 w8 =>
                      ∃ x5 : Int, e5 = .returned (Value.int .i64 x5) ∧
                      (Calls Try.prog 11 #[Value.int .i64 x5] w8 fun e6 w9 =>
                        ∃ x6 : Int, e6 = .returned (Value.int .i64 x6) ∧
                        (br (x6 != 2)
                          (R (.returned (Value.bool false)) w9)
                          (Calls Try.prog 40 #[Value.pointer p1, Value.int .i64 t0] w9 fun e7 w10 =>
                            ∃ x7 : Int, e7 = .returned (Value.int .i64 x7) ∧
                            (Calls Try.prog 11 #[Value.int .i64 x7] w10 fun e8 w11 =>
                              ∃ x8 : Int, e8 = .returned (Value.int .i64 x8) ∧
                              (br (x8 != 2)
                                (R (.returned (Value.bool false)) w11)
                                (Calls Try.prog 35 #[Value.pointer p1, t1.v] w11 fun e9 w12 =>
                                  ∃ x9 : Int, e9 = .returned (Value.int .i64 x9) ∧
                                  (Calls Try.prog 11 #[Value.int .i64 x9] w12 fun e10 w13 =>
                                    ∃ x10 : Int, e10 = .returned (Value.int .i64 x10) ∧
                                    (br (x10 != 2)
                                      (R (.returned (Value.bool false)) w13)
                                      (Calls Try.prog 41 #[Value.pointer p1] w13 fun e11 w14 =>
                                        ∃ p2 : Option Addr, e11 = .returned (Value.pointer p2) ∧
                                        (br p2.isSome
                                          (R (.returned (Value.bool false)) w14)
                                          (J0 t0 t1 t11 t12 (IntKind.i64.wrap (t13 + 1)) w14 ∧
                                            m0 t0 t1 t11 t12 (IntKind.i64.wrap (t13 + 1)) w14 < m0 t0 t1 t11 t12 t13 w_))))))))))))))))))))
    (Calls Try.prog 12 #[] w_ fun e12 w15 =>
      ∃ b1 : Bool, e12 = .returned (Value.bool b1) ∧
      (R (.returned (Value.bool b1)) w15))) :
    Calls Try.prog 7 #[Value.int .i64 a0, a1.v] w R := by
  refine calls_of_vc (surdlaw18_FuelNones_cut J0 m0) (by kernel_rfl) Try.func7 rfl ?_ ?_
  · refine kcast h ?_; kernel_rfl
  · exact (obl_seq (obl_reg (obl_seq (obl_seq (obl_reg (obl_loop _ rfl (fun a_ w_ hL_ => (by
    obtain ⟨hz_, hd_, hL_⟩ := atSz_out hL_
    obtain ⟨t0, h0_, hL_⟩ := atI_out hL_
    obtain ⟨t1, h1_, hL_⟩ := atS_out hL_
    obtain ⟨t11, h11_, hL_⟩ := atS_out hL_
    obtain ⟨t12, h12_, hL_⟩ := atI_out hL_
    obtain ⟨t13, h13_, hL_⟩ := atI_out hL_
    obtain ⟨g0, rfl⟩ : ∃ g, a_ = Fr 67 [(0, Value.int .i64 t0), (1, t1.v), (11, t11.v), (12, Value.int .i64 t12), (13, Value.int .i64 t13)] g := ⟨_, fr_of hz_ hd_ [(0, Value.int .i64 t0), (1, t1.v), (11, t11.v), (12, Value.int .i64 t12), (13, Value.int .i64 t13)] (sel_cons h0_ (sel_cons h1_ (sel_cons h11_ (sel_cons h12_ (sel_cons h13_ sel_nil)))))⟩
    clear hz_ hd_ h0_ h1_ h11_ h12_ h13_
    have hJ0_ := hL_
    refine ⟨(fun _ => none), kcast (h0 t0 t1 t11 t12 t13 w_ hJ0_) ?_, ?_⟩
    · kernel_rfl
    · exact (obl_seq (obl_reg (obl_seq (obl_cond (obl_skip (obl_exit (obl_seq (obl_blk rfl (obl_seq (obl_reg (obl_seq (obl_reg (obl_seq (obl_reg (obl_cond (obl_seq (obl_reg (obl_ret (obl_skip (obl_reg trivial)))))))))))))))))))))) (obl_seq (obl_reg (obl_ret trivial)))))))))

set_option maxRecDepth 100000 in
/-- (*surd/fuel.Meter).Next: function 34. -/
theorem fuel_Meter_Next_vc (a0_m : Option Addr) (w : World) (R : Ending → World → Prop)
    
    (h : Calls Try.prog 53 #[Value.pointer a0_m] w fun e1 w1 =>
    ∃ b1 : Bool, e1 = .returned (Value.bool b1) ∧
    (br (!b1)
      (R (.returned (Value.tuple #[Value.int .i64 0, Value.int .i64 2])) w1)
      (onSome a0_m fun ad1 =>
        Calls Try.prog 54 #[Value.pointer (some ad1)] w1 fun e2 w2 =>
        ∃ s1 : Slc, e2 = .returned s1.v ∧
        (br ((s1.n : Int) == 0)
          (R (.returned (Value.tuple #[Value.int .i64 0, Value.int .i64 180])) w2)
          (onSome a0_m fun ad2 =>
            ldI .i64 (ad2.add 1) w2 fun x1 =>
            onSome a0_m fun ad3 =>
            stC (ad3.add 1) (Value.int .i64 (IntKind.i64.wrap (x1 + 1))) w2 fun w3 =>
            semA Try.prog (Instr.indexAt 38 s1.v (Value.int .i64 0)) w3 fun ad4 w4 =>
            ldI .i64 ad4 w4 fun x2 =>
            R (.returned (Value.tuple #[Value.int .i64 x2, Value.int .i64 0])) w4))))) :
    Calls Try.prog 34 #[Value.pointer a0_m] w R := by
  refine calls_of_vc (fun _ => none) (by kernel_rfl) Try.func34 rfl ?_ ?_
  · refine kcast h ?_; kernel_rfl
  · exact (obl_seq (obl_reg (obl_seq (obl_seq (obl_reg (obl_cond (obl_seq (obl_reg (obl_ret (obl_skip (obl_seq (obl_reg (obl_seq (obl_seq (obl_reg (obl_cond (obl_seq (obl_reg (obl_ret (obl_skip (obl_seq (obl_reg (obl_seq (obl_reg (obl_ret trivial)))))))))))))))))))))))))

set_option maxRecDepth 100000 in
/-- (*surd/fuel.Meter).is: function 53. -/
theorem fuel_Meter_is_vc (a0_m : Option Addr) (w : World) (R : Ending → World → Prop)
    
    (h : br a0_m.isSome
    (onSome a0_m fun ad1 =>
      ldB (ad1.add 2) w fun b1 =>
      R (.returned (Value.bool b1)) w)
    (R (.returned (Value.bool false)) w)) :
    Calls Try.prog 53 #[Value.pointer a0_m] w R := by
  refine calls_of_vc (fun _ => none) (by kernel_rfl) Try.func53 rfl ?_ ?_
  · refine kcast h ?_; kernel_rfl
  · exact (obl_seq (obl_reg (obl_seq (obl_reg (obl_ret trivial)))))

set_option maxRecDepth 100000 in
/-- (*surd/fuel.Meter).Told: function 38. -/
theorem fuel_Meter_Told_vc (a0_m : Option Addr) (w : World) (R : Ending → World → Prop)
    
    (h : Calls Try.prog 53 #[Value.pointer a0_m] w fun e1 w1 =>
    ∃ b1 : Bool, e1 = .returned (Value.bool b1) ∧
    (br (!b1)
      (R (.returned (Value.int .i64 0)) w1)
      (onSome a0_m fun ad1 =>
        ldI .i64 (ad1.add 1) w1 fun x1 =>
        R (.returned (Value.int .i64 x1)) w1))) :
    Calls Try.prog 38 #[Value.pointer a0_m] w R := by
  refine calls_of_vc (fun _ => none) (by kernel_rfl) Try.func38 rfl ?_ ?_
  · refine kcast h ?_; kernel_rfl
  · exact (obl_seq (obl_reg (obl_seq (obl_seq (obl_reg (obl_cond (obl_seq (obl_reg (obl_ret (obl_skip (obl_seq (obl_reg (obl_ret trivial)))))))))))))

set_option maxRecDepth 100000 in
/-- (*surd/fuel.Meter).Left: function 37. -/
theorem fuel_Meter_Left_vc (a0_m : Option Addr) (w : World) (R : Ending → World → Prop)
    
    (h : Calls Try.prog 53 #[Value.pointer a0_m] w fun e1 w1 =>
    ∃ b1 : Bool, e1 = .returned (Value.bool b1) ∧
    (br (!b1)
      (R (.returned ((⟨none, 0, 0⟩ : Slc).v)) w1)
      (onSome a0_m fun ad1 =>
        Calls Try.prog 54 #[Value.pointer (some ad1)] w1 fun e2 w2 =>
        ∃ s1 : Slc, e2 = .returned s1.v ∧
        (R (.returned s1.v) w2)))) :
    Calls Try.prog 37 #[Value.pointer a0_m] w R := by
  refine calls_of_vc (fun _ => none) (by kernel_rfl) Try.func37 rfl ?_ ?_
  · refine kcast h ?_; kernel_rfl
  · exact (obl_seq (obl_reg (obl_seq (obl_seq (obl_reg (obl_cond (obl_seq (obl_reg (obl_ret (obl_skip (obl_seq (obl_reg (obl_ret trivial)))))))))))))

set_option maxRecDepth 100000 in
/-- (*surd/fuel.Meter).Reset: function 39. -/
theorem fuel_Meter_Reset_vc (a0_m : Option Addr) (w : World) (R : Ending → World → Prop)
    
    (h : Calls Try.prog 53 #[Value.pointer a0_m] w fun e1 w1 =>
    ∃ b1 : Bool, e1 = .returned (Value.bool b1) ∧
    (br (!b1)
      (R (.returned (Value.int .i64 2)) w1)
      (onSome a0_m fun ad1 =>
        stC (ad1.add 1) (Value.int .i64 0) w1 fun w2 =>
        R (.returned (Value.int .i64 0)) w2))) :
    Calls Try.prog 39 #[Value.pointer a0_m] w R := by
  refine calls_of_vc (fun _ => none) (by kernel_rfl) Try.func39 rfl ?_ ?_
  · refine kcast h ?_; kernel_rfl
  · exact (obl_seq (obl_reg (obl_seq (obl_seq (obl_reg (obl_cond (obl_seq (obl_reg (obl_ret (obl_skip (obl_seq (obl_reg (obl_seq (obl_reg (obl_ret trivial)))))))))))))))

def fuel_Meter_Skip_cut (J0 : Option Addr → Int → Slc → Int → Int → World → Prop) (m0 : Option Addr → Int → Slc → Int → Int → World → Nat) : Nat → Option ((Act → World → Prop) × (Act → World → Nat))
  | 0 => some (fun a_ w_ => atSz a_ 32 (atP a_ 0 fun t0_m => atI .i64 a_ 1 fun t1_p => atS a_ 13 fun t13 => atI .i64 a_ 14 fun t14 => atI .i64 a_ 15 fun t15 => J0 t0_m t1_p t13 t14 t15 w_), fun a_ w_ => mP a_ 0 fun t0_m => mI a_ 1 fun t1_p => mS a_ 13 fun t13 => mI a_ 14 fun t14 => mI a_ 15 fun t15 => m0 t0_m t1_p t13 t14 t15 w_)
  | _ => none

set_option maxRecDepth 100000 in
/-- (*surd/fuel.Meter).Skip: function 40. -/
theorem fuel_Meter_Skip_vc (a0_m : Option Addr) (a1_p : Int) (w : World) (R : Ending → World → Prop)
    (J0 : Option Addr → Int → Slc → Int → Int → World → Prop) (m0 : Option Addr → Int → Slc → Int → Int → World → Nat)
    (h : Calls Try.prog 53 #[Value.pointer a0_m] w fun e1 w1 =>
    ∃ b1 : Bool, e1 = .returned (Value.bool b1) ∧
    (br (!b1)
      (R (.returned (Value.int .i64 2)) w1)
      (onSome a0_m fun ad1 =>
        Calls Try.prog 54 #[Value.pointer (some ad1)] w1 fun e2 w2 =>
        ∃ s1 : Slc, e2 = .returned s1.v ∧
        (J0 a0_m a1_p s1 (s1.n : Int) 0 w2))))
    (h0 : ∀ (t0_m : Option Addr) (t1_p : Int) (t13 : Slc) (t14 : Int) (t15 : Int) (w_ : World), J0 t0_m t1_p t13 t14 t15 w_ → 
    br (decide (t15 < t14))
    (semA Try.prog (Instr.indexAt 38 t13.v (Value.int .i64 t15)) w_ fun ad2 w3 =>
      ldI .i64 ad2 w3 fun x1 =>
      br (decide (x1 < t1_p))
      (onSome t0_m fun ad3 =>
        ldI .i64 (ad3.add 1) w3 fun x2 =>
        onSome t0_m fun ad4 =>
        stC (ad4.add 1) (Value.int .i64 (IntKind.i64.wrap (x2 + 1))) w3 fun w4 =>
        J0 t0_m t1_p t13 t14 (IntKind.i64.wrap (t15 + 1)) w4 ∧
        m0 t0_m t1_p t13 t14 (IntKind.i64.wrap (t15 + 1)) w4 < m0 t0_m t1_p t13 t14 t15 w_)
      (J0 t0_m t1_p t13 t14 (IntKind.i64.wrap (t15 + 1)) w3 ∧
        m0 t0_m t1_p t13 t14 (IntKind.i64.wrap (t15 + 1)) w3 < m0 t0_m t1_p t13 t14 t15 w_))
    (R (.returned (Value.int .i64 0)) w_)) :
    Calls Try.prog 40 #[Value.pointer a0_m, Value.int .i64 a1_p] w R := by
  refine calls_of_vc (fuel_Meter_Skip_cut J0 m0) (by kernel_rfl) Try.func40 rfl ?_ ?_
  · refine kcast h ?_; kernel_rfl
  · exact (obl_seq (obl_reg (obl_seq (obl_seq (obl_reg (obl_cond (obl_seq (obl_reg (obl_ret (obl_skip (obl_seq (obl_seq (obl_reg (obl_loop _ rfl (fun a_ w_ hL_ => (by
    obtain ⟨hz_, hd_, hL_⟩ := atSz_out hL_
    obtain ⟨t0_m, h0_, hL_⟩ := atP_out hL_
    obtain ⟨t1_p, h1_, hL_⟩ := atI_out hL_
    obtain ⟨t13, h13_, hL_⟩ := atS_out hL_
    obtain ⟨t14, h14_, hL_⟩ := atI_out hL_
    obtain ⟨t15, h15_, hL_⟩ := atI_out hL_
    obtain ⟨g0, rfl⟩ : ∃ g, a_ = Fr 32 [(0, Value.pointer t0_m), (1, Value.int .i64 t1_p), (13, t13.v), (14, Value.int .i64 t14), (15, Value.int .i64 t15)] g := ⟨_, fr_of hz_ hd_ [(0, Value.pointer t0_m), (1, Value.int .i64 t1_p), (13, t13.v), (14, Value.int .i64 t14), (15, Value.int .i64 t15)] (sel_cons h0_ (sel_cons h1_ (sel_cons h13_ (sel_cons h14_ (sel_cons h15_ sel_nil)))))⟩
    clear hz_ hd_ h0_ h1_ h13_ h14_ h15_
    have hJ0_ := hL_
    refine ⟨(fun _ => none), kcast (h0 t0_m t1_p t13 t14 t15 w_ hJ0_) ?_, ?_⟩
    · kernel_rfl
    · exact (obl_seq (obl_reg (obl_seq (obl_cond (obl_skip (obl_exit (obl_seq (obl_blk rfl (obl_seq (obl_reg (obl_seq (obl_reg (obl_cond (obl_reg (obl_skip (obl_reg trivial)))))))))))))))))) (obl_seq (obl_reg (obl_ret trivial)))))))))))))))))

set_option maxRecDepth 100000 in
/-- (*surd/fuel.Meter).Add: function 35. -/
theorem fuel_Meter_Add_vc (a0_m : Option Addr) (a1_f : Slc) (w : World) (R : Ending → World → Prop)
    
    (h : Calls Try.prog 53 #[Value.pointer a0_m] w fun e1 w1 =>
    ∃ b1 : Bool, e1 = .returned (Value.bool b1) ∧
    (br (!b1)
      (R (.returned (Value.int .i64 2)) w1)
      (onSome a0_m fun ad1 =>
        ldS ad1 w1 fun s1 =>
        Calls Try.prog 55 #[s1.v, a1_f.v] w1 fun e2 w2 =>
        ∃ s2 : Slc, ∃ x1 : Int, e2 = .returned (Value.tuple #[s2.v, Value.int .i64 x1]) ∧
        (br (x1 != 0)
          (R (.returned (Value.int .i64 x1)) w2)
          (onSome a0_m fun ad2 =>
            stC ad2 s2.v w2 fun w3 =>
            R (.returned (Value.int .i64 0)) w3))))) :
    Calls Try.prog 35 #[Value.pointer a0_m, a1_f.v] w R := by
  refine calls_of_vc (fun _ => none) (by kernel_rfl) Try.func35 rfl ?_ ?_
  · refine kcast h ?_; kernel_rfl
  · exact (obl_seq (obl_reg (obl_seq (obl_seq (obl_reg (obl_cond (obl_seq (obl_reg (obl_ret (obl_skip (obl_seq (obl_reg (obl_seq (obl_seq (obl_reg (obl_cond (obl_seq (obl_reg (obl_ret (obl_skip (obl_seq (obl_reg (obl_seq (obl_reg (obl_ret trivial)))))))))))))))))))))))))

set_option maxRecDepth 100000 in
/-- (*surd/fuel.Meter).Fork: function 41. -/
theorem fuel_Meter_Fork_vc (a0_m : Option Addr) (w : World) (R : Ending → World → Prop)
    
    (h : Calls Try.prog 53 #[Value.pointer a0_m] w fun e1 w1 =>
    ∃ b1 : Bool, e1 = .returned (Value.bool b1) ∧
    (br (!b1)
      (R (.returned (Value.pointer none)) w1)
      (onSome a0_m fun ad1 =>
        ldS ad1 w1 fun s1 =>
        ldI .i64 (ad1.add 1) w1 fun x1 =>
        ldB (ad1.add 2) w1 fun b2 =>
        newC w1 #[(⟨none, 0, 0⟩ : Slc).v, Value.int .i64 0, Value.bool false] 65 fun ad2 w2 =>
        stC ad2 s1.v w2 fun w3 =>
        stC (ad2.add 1) (Value.int .i64 x1) w3 fun w4 =>
        stC (ad2.add 2) (Value.bool b2) w4 fun w5 =>
        R (.returned (Value.pointer (some ad2))) w5))) :
    Calls Try.prog 41 #[Value.pointer a0_m] w R := by
  refine calls_of_vc (fun _ => none) (by kernel_rfl) Try.func41 rfl ?_ ?_
  · refine kcast h ?_; kernel_rfl
  · exact (obl_seq (obl_reg (obl_seq (obl_seq (obl_reg (obl_cond (obl_seq (obl_reg (obl_ret (obl_skip (obl_seq (obl_reg (obl_seq (obl_reg (obl_ret trivial)))))))))))))))

end Go.Proofs.Ytflipimlpgbnmaa
