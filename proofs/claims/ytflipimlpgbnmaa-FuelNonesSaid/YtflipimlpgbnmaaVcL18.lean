/- Verification conditions of some of the program's functions, printed by a program of this session. No condition. -/
import Derived.Test.YtflipimlpgbnmaaProg
import Derived.Test.YtflipimlpgbnmaaEng
namespace Go.Proofs.Ytflipimlpgbnmaa
open Go Go.RowKit Eng
set_option linter.unusedVariables false

set_option maxRecDepth 100000 in
/-- surd/surdlaw18.num: function 11. -/
theorem surdlaw18_num_vc (a0_e : Int) (w : World) (R : Ending → World → Prop)
    
    (h : R (.returned (Value.int .i64 a0_e)) w) :
    Calls Try.prog 11 #[Value.int .i64 a0_e] w R := by
  refine calls_of_vc (fun _ => none) (by kernel_rfl) Try.func11 rfl ?_ ?_
  · refine kcast h ?_; kernel_rfl
  · exact (obl_seq (obl_reg (obl_seq (obl_reg (obl_ret trivial)))))

def surdlaw18_alike_cut (J0 : Slc → Slc → Int → Int → World → Prop) (m0 : Slc → Slc → Int → Int → World → Nat) : Nat → Option ((Act → World → Prop) × (Act → World → Nat))
  | 0 => some (fun a_ w_ => atSz a_ 26 (atS a_ 0 fun t0_a => atS a_ 1 fun t1_b => atI .i64 a_ 12 fun t12 => atI .i64 a_ 13 fun t13 => J0 t0_a t1_b t12 t13 w_), fun a_ w_ => mS a_ 0 fun t0_a => mS a_ 1 fun t1_b => mI a_ 12 fun t12 => mI a_ 13 fun t13 => m0 t0_a t1_b t12 t13 w_)
  | _ => none

set_option maxRecDepth 100000 in
/-- surd/surdlaw18.alike: function 21. -/
theorem surdlaw18_alike_vc (a0_a : Slc) (a1_b : Slc) (w : World) (R : Ending → World → Prop)
    (J0 : Slc → Slc → Int → Int → World → Prop) (m0 : Slc → Slc → Int → Int → World → Nat)
    (h : br ((a0_a.n : Int) != (a1_b.n : Int))
    (R (.returned (Value.bool false)) w)
    (J0 a0_a a1_b (a0_a.n : Int) 0 w))
    (h0 : ∀ (t0_a : Slc) (t1_b : Slc) (t12 : Int) (t13 : Int) (w_ : World), J0 t0_a t1_b t12 t13 w_ → 
    br (decide (t13 < t12))
    (fixA Try.prog (Instr.indexAt 38 t0_a.v (Value.int .i64 t13)) w_ fun ad1 =>
      ldI .i64 ad1 w_ fun x1 =>
      fixA Try.prog (Instr.indexAt 38 t1_b.v (Value.int .i64 t13)) w_ fun ad2 =>
      ldI .i64 ad2 w_ fun x2 =>
      ∀ w1, Ahead w_ w1 →
      (br (x1 != x2)
        (R (.returned (Value.bool false)) w1)
        (J0 t0_a t1_b t12 (IntKind.i64.wrap (t13 + 1)) w1 ∧
          m0 t0_a t1_b t12 (IntKind.i64.wrap (t13 + 1)) w1 < m0 t0_a t1_b t12 t13 w_)))
    (R (.returned (Value.bool true)) w_)) :
    Calls Try.prog 21 #[a0_a.v, a1_b.v] w R := by
  refine calls_of_vc (surdlaw18_alike_cut J0 m0) (by kernel_rfl) Try.func21 rfl ?_ ?_
  · refine kcast h ?_; kernel_rfl
  · exact (obl_seq (obl_reg (obl_seq (obl_seq (obl_reg (obl_cond (obl_seq (obl_reg (obl_ret (obl_skip (obl_seq (obl_seq (obl_reg (obl_loop _ rfl (fun a_ w_ hL_ => (by
    obtain ⟨hz_, hd_, hL_⟩ := atSz_out hL_
    obtain ⟨t0_a, h0_, hL_⟩ := atS_out hL_
    obtain ⟨t1_b, h1_, hL_⟩ := atS_out hL_
    obtain ⟨t12, h12_, hL_⟩ := atI_out hL_
    obtain ⟨t13, h13_, hL_⟩ := atI_out hL_
    obtain ⟨g0, rfl⟩ : ∃ g, a_ = Fr 26 [(0, t0_a.v), (1, t1_b.v), (12, Value.int .i64 t12), (13, Value.int .i64 t13)] g := ⟨_, fr_of hz_ hd_ [(0, t0_a.v), (1, t1_b.v), (12, Value.int .i64 t12), (13, Value.int .i64 t13)] (sel_cons h0_ (sel_cons h1_ (sel_cons h12_ (sel_cons h13_ sel_nil))))⟩
    clear hz_ hd_ h0_ h1_ h12_ h13_
    have hJ0_ := hL_
    refine ⟨(fun _ => none), kcast (h0 t0_a t1_b t12 t13 w_ hJ0_) ?_, ?_⟩
    · kernel_rfl
    · exact (obl_seq (obl_reg (obl_seq (obl_cond (obl_skip (obl_exit (obl_seq (obl_blk rfl (obl_seq (obl_reg (obl_seq (obl_quiet (by kernel_rfl) (by kernel_rfl) (by kernel_rfl) (obl_cond (obl_seq (obl_reg (obl_ret (obl_skip (obl_reg trivial)))))))))))))))))))) (obl_seq (obl_reg (obl_ret trivial)))))))))))))))))

set_option maxRecDepth 100000 in
/-- surd/surdlaw18.awake: function 12. -/
theorem surdlaw18_awake_vc  (w : World) (R : Ending → World → Prop)
    
    (h : newC w #[Value.int .u64 1000] 49 fun ad1 w1 =>
    Calls Try.prog 20 #[(⟨some ad1, 1, 1⟩ : Slc).v] w1 fun e1 w2 =>
    ∃ s1 : Slc, e1 = .returned s1.v ∧
    (newC w2 #[Value.int .i64 64, Value.int .i64 128, Value.int .i64 256, Value.int .i64 512] 3 fun ad2 w3 =>
      Calls Try.prog 21 #[s1.v, (⟨some ad2, 4, 4⟩ : Slc).v] w3 fun e2 w4 =>
      ∃ b1 : Bool, e2 = .returned (Value.bool b1) ∧
      (R (.returned (Value.bool b1)) w4))) :
    Calls Try.prog 12 #[] w R := by
  refine calls_of_vc (fun _ => none) (by kernel_rfl) Try.func12 rfl ?_ ?_
  · refine kcast h ?_; kernel_rfl
  · exact (obl_seq (obl_reg (obl_seq (obl_reg (obl_ret trivial)))))

set_option maxRecDepth 100000 in
/-- surd/surdlaw18.FuelNames: function 3. -/
theorem surdlaw18_FuelNames_vc  (w : World) (R : Ending → World → Prop)
    
    (h : Calls Try.prog 11 #[Value.int .i64 180] w fun e1 w1 =>
    ∃ x1 : Int, e1 = .returned (Value.int .i64 x1) ∧
    (br (x1 == 180)
      (Calls Try.prog 11 #[Value.int .i64 2] w1 fun e2 w2 =>
        ∃ x2 : Int, e2 = .returned (Value.int .i64 x2) ∧
        (br (x2 == 2)
          (Calls Try.prog 11 #[Value.int .i64 51] w2 fun e3 w3 =>
            ∃ x3 : Int, e3 = .returned (Value.int .i64 x3) ∧
            (br (x3 == 51)
              (Calls Try.prog 12 #[] w3 fun e4 w4 =>
                ∃ b1 : Bool, e4 = .returned (Value.bool b1) ∧
                (R (.returned (Value.bool b1)) w4))
              (R (.returned (Value.bool false)) w3)))
          (R (.returned (Value.bool false)) w2)))
      (R (.returned (Value.bool false)) w1))) :
    Calls Try.prog 3 #[] w R := by
  refine calls_of_vc (fun _ => none) (by kernel_rfl) Try.func3 rfl ?_ ?_
  · refine kcast h ?_; kernel_rfl
  · exact (obl_seq (obl_reg (obl_seq (obl_reg (obl_ret trivial)))))

set_option maxRecDepth 100000 in
/-- surd/surdlaw18.FuelReaches: function 4. -/
theorem surdlaw18_FuelReaches_vc (a0_p : Int) (w : World) (R : Ending → World → Prop)
    
    (h : Calls Try.prog 13 #[Value.int .i64 a0_p] w fun e1 w1 =>
    ∃ s1 : Slc, ∃ x1 : Int, e1 = .returned (Value.tuple #[s1.v, Value.int .i64 x1]) ∧
    (Calls Try.prog 14 #[Value.int .i64 a0_p] w1 fun e2 w2 =>
      ∃ s2 : Slc, ∃ x2 : Int, e2 = .returned (Value.tuple #[s2.v, Value.int .i64 x2]) ∧
      (br (x2 != 0)
        (Calls Try.prog 11 #[Value.int .i64 x1] w2 fun e3 w3 =>
          ∃ x3 : Int, e3 = .returned (Value.int .i64 x3) ∧
          (br (x3 == x2)
            (br ((s1.n : Int) == 0)
              (Calls Try.prog 12 #[] w3 fun e4 w4 =>
                ∃ b1 : Bool, e4 = .returned (Value.bool b1) ∧
                (R (.returned (Value.bool b1)) w4))
              (R (.returned (Value.bool false)) w3))
            (R (.returned (Value.bool false)) w3)))
        (Calls Try.prog 11 #[Value.int .i64 x1] w2 fun e5 w5 =>
          ∃ x4 : Int, e5 = .returned (Value.int .i64 x4) ∧
          (br (x4 == 0)
            (Calls Try.prog 15 #[s2.v, s1.v] w5 fun e6 w6 =>
              ∃ b2 : Bool, e6 = .returned (Value.bool b2) ∧
              (br b2
                (newC w6 #[s1.v] 25 fun ad1 w7 =>
                  Calls Try.prog 16 #[(⟨some ad1, 1, 1⟩ : Slc).v] w7 fun e7 w8 =>
                  ∃ b3 : Bool, e7 = .returned (Value.bool b3) ∧
                  (br b3
                    (Calls Try.prog 12 #[] w8 fun e8 w9 =>
                      ∃ b4 : Bool, e8 = .returned (Value.bool b4) ∧
                      (R (.returned (Value.bool b4)) w9))
                    (R (.returned (Value.bool false)) w8)))
                (R (.returned (Value.bool false)) w6)))
            (R (.returned (Value.bool false)) w5)))))) :
    Calls Try.prog 4 #[Value.int .i64 a0_p] w R := by
  refine calls_of_vc (fun _ => none) (by kernel_rfl) Try.func4 rfl ?_ ?_
  · refine kcast h ?_; kernel_rfl
  · exact (obl_seq (obl_reg (obl_seq (obl_reg (obl_seq (obl_reg (obl_seq (obl_seq (obl_reg (obl_cond (obl_seq (obl_reg (obl_ret (obl_skip (obl_seq (obl_reg (obl_ret trivial)))))))))))))))))

def surdref18_Reach_cut (J0 : Int → Int → World → Prop) (m0 : Int → Int → World → Nat) : Nat → Option ((Act → World → Prop) × (Act → World → Nat))
  | 0 => some (fun a_ w_ => atSz a_ 14 (atI .i64 a_ 0 fun t0_p => atI .i64 a_ 4 fun t4_q => J0 t0_p t4_q w_), fun a_ w_ => mI a_ 0 fun t0_p => mI a_ 4 fun t4_q => m0 t0_p t4_q w_)
  | _ => none

set_option maxRecDepth 100000 in
/-- surd/surdref18.Reach: function 14. -/
theorem surdref18_Reach_vc (a0_p : Int) (w : World) (R : Ending → World → Prop)
    (J0 : Int → Int → World → Prop) (m0 : Int → Int → World → Nat)
    (h : br (decide (a0_p > 2097152))
    (R (.returned (Value.tuple #[(⟨none, 0, 0⟩ : Slc).v, Value.int .i64 1])) w)
    (J0 a0_p 64 w))
    (h0 : ∀ (t0_p : Int) (t4_q : Int) (w_ : World), J0 t0_p t4_q w_ → 
    br (decide (t4_q < t0_p))
    (J0 t0_p (IntKind.i64.wrap (2 * t4_q)) w_ ∧
      m0 t0_p (IntKind.i64.wrap (2 * t4_q)) w_ < m0 t0_p t4_q w_)
    (Calls Try.prog 31 #[Value.int .i64 t4_q] w_ fun e1 w1 =>
      ∃ s1 : Slc, e1 = .returned s1.v ∧
      (R (.returned (Value.tuple #[s1.v, Value.int .i64 0])) w1))) :
    Calls Try.prog 14 #[Value.int .i64 a0_p] w R := by
  refine calls_of_vc (surdref18_Reach_cut J0 m0) (by kernel_rfl) Try.func14 rfl ?_ ?_
  · refine kcast h ?_; kernel_rfl
  · exact (obl_seq (obl_reg (obl_seq (obl_seq (obl_reg (obl_cond (obl_seq (obl_reg (obl_ret (obl_skip (obl_seq (obl_reg (obl_seq (obl_loop _ rfl (fun a_ w_ hL_ => (by
    obtain ⟨hz_, hd_, hL_⟩ := atSz_out hL_
    obtain ⟨t0_p, h0_, hL_⟩ := atI_out hL_
    obtain ⟨t4_q, h4_, hL_⟩ := atI_out hL_
    obtain ⟨g0, rfl⟩ : ∃ g, a_ = Fr 14 [(0, Value.int .i64 t0_p), (4, Value.int .i64 t4_q)] g := ⟨_, fr_of hz_ hd_ [(0, Value.int .i64 t0_p), (4, Value.int .i64 t4_q)] (sel_cons h0_ (sel_cons h4_ sel_nil))⟩
    clear hz_ hd_ h0_ h4_
    have hJ0_ := hL_
    refine ⟨(fun _ => none), kcast (h0 t0_p t4_q w_ hJ0_) ?_, ?_⟩
    · kernel_rfl
    · exact (obl_seq (obl_seq (obl_reg (obl_cond (obl_skip (obl_exit (obl_blk rfl (obl_reg trivial)))))))))) (obl_seq (obl_reg (obl_ret trivial)))))))))))))))))

def surdref18_Attempts_cut (J0 : Slc → Slc → Int → World → Prop) (m0 : Slc → Slc → Int → World → Nat) : Nat → Option ((Act → World → Prop) × (Act → World → Nat))
  | 0 => some (fun a_ w_ => atSz a_ 21 (atS a_ 0 fun t0_f => atS a_ 3 fun t3_l => atI .i64 a_ 4 fun t4_p => J0 t0_f t3_l t4_p w_), fun a_ w_ => mS a_ 0 fun t0_f => mS a_ 3 fun t3_l => mI a_ 4 fun t4_p => m0 t0_f t3_l t4_p w_)
  | _ => none

set_option maxRecDepth 100000 in
/-- surd/surdref18.Attempts: function 19. -/
theorem surdref18_Attempts_vc (a0_f : Slc) (w : World) (R : Ending → World → Prop)
    (J0 : Slc → Slc → Int → World → Prop) (m0 : Slc → Slc → Int → World → Nat)
    (h : J0 a0_f (⟨none, 0, 0⟩ : Slc) 64 w)
    (h0 : ∀ (t0_f : Slc) (t3_l : Slc) (t4_p : Int) (w_ : World), J0 t0_f t3_l t4_p w_ → 
    br (decide (t4_p ≤ 2097152))
    (Calls Try.prog 31 #[Value.int .i64 t4_p] w_ fun e1 w1 =>
      ∃ s1 : Slc, e1 = .returned s1.v ∧
      (Calls Try.prog 28 #[s1.v, t0_f.v] w1 fun e2 w2 =>
        ∃ x1 : Int, e2 = .returned (Value.int .i64 x1) ∧
        (br (decide (x1 ≤ 0))
          (newC w2 #[Value.int .i64 t4_p] 3 fun ad1 w3 =>
            semS Try.prog (Builtin.append_ #[38, 38] 38 #[t3_l.v, (⟨some ad1, 1, 1⟩ : Slc).v]) w3 fun s2 w4 =>
            J0 t0_f s2 (IntKind.i64.wrap (2 * t4_p)) w4 ∧
            m0 t0_f s2 (IntKind.i64.wrap (2 * t4_p)) w4 < m0 t0_f t3_l t4_p w_)
          (R (.returned t3_l.v) w2))))
    (R (.returned t3_l.v) w_)) :
    Calls Try.prog 19 #[a0_f.v] w R := by
  refine calls_of_vc (surdref18_Attempts_cut J0 m0) (by kernel_rfl) Try.func19 rfl ?_ ?_
  · refine kcast h ?_; kernel_rfl
  · exact (obl_seq (obl_reg (obl_seq (obl_reg (obl_seq (obl_seq (obl_reg (obl_loop _ rfl (fun a_ w_ hL_ => (by
    obtain ⟨hz_, hd_, hL_⟩ := atSz_out hL_
    obtain ⟨t0_f, h0_, hL_⟩ := atS_out hL_
    obtain ⟨t3_l, h3_, hL_⟩ := atS_out hL_
    obtain ⟨t4_p, h4_, hL_⟩ := atI_out hL_
    obtain ⟨g0, rfl⟩ : ∃ g, a_ = Fr 21 [(0, t0_f.v), (3, t3_l.v), (4, Value.int .i64 t4_p)] g := ⟨_, fr_of hz_ hd_ [(0, t0_f.v), (3, t3_l.v), (4, Value.int .i64 t4_p)] (sel_cons h0_ (sel_cons h3_ (sel_cons h4_ sel_nil)))⟩
    clear hz_ hd_ h0_ h3_ h4_
    have hJ0_ := hL_
    refine ⟨(fun _ => none), kcast (h0 t0_f t3_l t4_p w_ hJ0_) ?_, ?_⟩
    · kernel_rfl
    · exact (obl_seq (obl_seq (obl_reg (obl_cond (obl_skip (obl_exit (obl_seq (obl_blk rfl (obl_reg (obl_reg trivial)))))))))))) (obl_seq (obl_reg (obl_ret trivial)))))))))))

set_option maxRecDepth 100000 in
/-- surd/surdref18.Enough: function 25. -/
theorem surdref18_Enough_vc (a0_f : Slc) (a1_p : Int) (w : World) (R : Ending → World → Prop)
    
    (h : Calls Try.prog 19 #[a0_f.v] w fun e1 w1 =>
    ∃ s1 : Slc, e1 = .returned s1.v ∧
    (br (decide ((s1.n : Int) > 0))
      (semA Try.prog (Instr.indexAt 38 s1.v (Value.int .i64 (IntKind.i64.wrap ((s1.n : Int) - 1)))) w1 fun ad1 w2 =>
        ldI .i64 ad1 w2 fun x1 =>
        R (.returned (Value.bool (decide (x1 ≥ a1_p)))) w2)
      (R (.returned (Value.bool false)) w1))) :
    Calls Try.prog 25 #[a0_f.v, Value.int .i64 a1_p] w R := by
  refine calls_of_vc (fun _ => none) (by kernel_rfl) Try.func25 rfl ?_ ?_
  · refine kcast h ?_; kernel_rfl
  · exact (obl_seq (obl_reg (obl_seq (obl_reg (obl_seq (obl_reg (obl_ret trivial)))))))

end Go.Proofs.Ytflipimlpgbnmaa
