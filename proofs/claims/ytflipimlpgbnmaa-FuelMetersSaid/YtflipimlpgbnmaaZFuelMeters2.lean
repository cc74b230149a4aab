/- What the law leans on, part 2. No condition. -/
import Derived.Test.YtflipimlpgbnmaaZFuelMeters1
namespace Go.Proofs.Ytflipimlpgbnmaa
open Go Go.RowKit Eng
set_option linter.unusedVariables false

set_option maxRecDepth 100000 in
/-- (*surd/fuel.Meter).Next: function 34. -/
theorem fuel_Meter_Next_vc (a0_m : Option Addr) (w : World) (R : Ending → World → Prop)
    
    (h : Calls Try.prog 53 #[Value.pointer a0_m] w fun e1 w1 =>
    ∃ b1 : Bool, e1 = .returned (Value.bool b1) ∧
    (br (!b1)
     (R (.returned (Value.tuple #[Value.int .i64 0, Value.int .i64 2])) w1)
     (onSome a0_m fun ad1 =>
      Calls Try.prog 54 #[Value.pointer (some ad1)] w1 fun e2 w2 =>
      ∃ s1 : Slc, e2 = .returned s1.v ∧
      (br ((s1.n : Int) == 0)
       (R (.returned (Value.tuple #[Value.int .i64 0, Value.int .i64 180])) w2)
       (onSome a0_m fun ad2 =>
        ldI .i64 (ad2.add 1) w2 fun x1 =>
        onSome a0_m fun ad3 =>
        stC (ad3.add 1) (Value.int .i64 (IntKind.i64.wrap (x1 + 1))) w2 fun w3 =>
        semA Try.prog (Instr.indexAt 38 s1.v (Value.int .i64 0)) w3 fun ad4 w4 =>
        ldI .i64 ad4 w4 fun x2 =>
        R (.returned (Value.tuple #[Value.int .i64 x2, Value.int .i64 0])) w4))))) :
    Calls Try.prog 34 #[Value.pointer a0_m] w R := by
  refine calls_of_vc (fun _ => none) (by kernel_rfl) Try.func34 rfl ?_ ?_
  · refine kcast h ?_; kernel_rfl
  · exact (obl_seq rfl (obl_reg (obl_seq rfl (obl_seq rfl (obl_reg (obl_cond (obl_seq rfl (obl_reg (obl_ret (obl_skip (obl_seq rfl (obl_reg (obl_seq rfl (obl_seq rfl (obl_reg (obl_cond (obl_seq rfl (obl_reg (obl_ret (obl_skip (obl_seq rfl (obl_reg (obl_seq rfl (obl_reg (obl_ret trivial)))))))))))))))))))))))))

set_option maxRecDepth 100000 in
/-- (*surd/fuel.Meter).is: function 53. -/
theorem fuel_Meter_is_vc (a0_m : Option Addr) (w : World) (R : Ending → World → Prop)
    
    (h : br a0_m.isSome
    (onSome a0_m fun ad1 =>
     ldB (ad1.add 2) w fun b1 =>
     R (.returned (Value.bool b1)) w)
    (R (.returned (Value.bool false)) w)) :
    Calls Try.prog 53 #[Value.pointer a0_m] w R := by
  refine calls_of_vc (fun _ => none) (by kernel_rfl) Try.func53 rfl ?_ ?_
  · refine kcast h ?_; kernel_rfl
  · exact (obl_seq rfl (obl_reg (obl_seq rfl (obl_reg (obl_ret trivial)))))

set_option maxRecDepth 100000 in
/-- (*surd/fuel.Meter).Told: function 38. -/
theorem fuel_Meter_Told_vc (a0_m : Option Addr) (w : World) (R : Ending → World → Prop)
    
    (h : Calls Try.prog 53 #[Value.pointer a0_m] w fun e1 w1 =>
    ∃ b1 : Bool, e1 = .returned (Value.bool b1) ∧
    (br (!b1)
     (R (.returned (Value.int .i64 0)) w1)
     (onSome a0_m fun ad1 =>
      ldI .i64 (ad1.add 1) w1 fun x1 =>
      R (.returned (Value.int .i64 x1)) w1))) :
    Calls Try.prog 38 #[Value.pointer a0_m] w R := by
  refine calls_of_vc (fun _ => none) (by kernel_rfl) Try.func38 rfl ?_ ?_
  · refine kcast h ?_; kernel_rfl
  · exact (obl_seq rfl (obl_reg (obl_seq rfl (obl_seq rfl (obl_reg (obl_cond (obl_seq rfl (obl_reg (obl_ret (obl_skip (obl_seq rfl (obl_reg (obl_ret trivial)))))))))))))

set_option maxRecDepth 100000 in
/-- (*surd/fuel.Meter).Left: function 37. -/
theorem fuel_Meter_Left_vc (a0_m : Option Addr) (w : World) (R : Ending → World → Prop)
    
    (h : Calls Try.prog 53 #[Value.pointer a0_m] w fun e1 w1 =>
    ∃ b1 : Bool, e1 = .returned (Value.bool b1) ∧
    (br (!b1)
     (R (.returned ((⟨none, 0, 0⟩ : Slc).v)) w1)
     (onSome a0_m fun ad1 =>
      Calls Try.prog 54 #[Value.pointer (some ad1)] w1 fun e2 w2 =>
      ∃ s1 : Slc, e2 = .returned s1.v ∧
      (R (.returned s1.v) w2)))) :
    Calls Try.prog 37 #[Value.pointer a0_m] w R := by
  refine calls_of_vc (fun _ => none) (by kernel_rfl) Try.func37 rfl ?_ ?_
  · refine kcast h ?_; kernel_rfl
  · exact (obl_seq rfl (obl_reg (obl_seq rfl (obl_seq rfl (obl_reg (obl_cond (obl_seq rfl (obl_reg (obl_ret (obl_skip (obl_seq rfl (obl_reg (obl_ret trivial)))))))))))))

set_option maxRecDepth 100000 in
/-- (*surd/fuel.Meter).Reset: function 39. -/
theorem fuel_Meter_Reset_vc (a0_m : Option Addr) (w : World) (R : Ending → World → Prop)
    
    (h : Calls Try.prog 53 #[Value.pointer a0_m] w fun e1 w1 =>
    ∃ b1 : Bool, e1 = .returned (Value.bool b1) ∧
    (br (!b1)
     (R (.returned (Value.int .i64 2)) w1)
     (onSome a0_m fun ad1 =>
      stC (ad1.add 1) (Value.int .i64 0) w1 fun w2 =>
      R (.returned (Value.int .i64 0)) w2))) :
    Calls Try.prog 39 #[Value.pointer a0_m] w R := by
  refine calls_of_vc (fun _ => none) (by kernel_rfl) Try.func39 rfl ?_ ?_
  · refine kcast h ?_; kernel_rfl
  · exact (obl_seq rfl (obl_reg (obl_seq rfl (obl_seq rfl (obl_reg (obl_cond (obl_seq rfl (obl_reg (obl_ret (obl_skip (obl_seq rfl (obl_reg (obl_seq rfl (obl_reg (obl_ret trivial)))))))))))))))

def fuel_Meter_Skip_cut (J0 : Option Addr → Int → Slc → Int → Int → World → Prop) (m0 : Option Addr → Int → Slc → Int → Int → World → Nat) : Nat → Option ((Act → World → Prop) × (Act → World → Nat))
  | 0 => some (fun a_ w_ => atSz a_ 32 (atP a_ 0 fun t0_m => atI .i64 a_ 1 fun t1_p => atS a_ 13 fun t13 => atI .i64 a_ 14 fun t14 => atI .i64 a_ 15 fun t15 => J0 t0_m t1_p t13 t14 t15 w_), fun a_ w_ => mP a_ 0 fun t0_m => mI a_ 1 fun t1_p => mS a_ 13 fun t13 => mI a_ 14 fun t14 => mI a_ 15 fun t15 => m0 t0_m t1_p t13 t14 t15 w_)
  | _ => none

set_option maxRecDepth 100000 in
/-- (*surd/fuel.Meter).Skip: function 40. -/
theorem fuel_Meter_Skip_vc (a0_m : Option Addr) (a1_p : Int) (w : World) (R : Ending → World → Prop)
    (J0 : Option Addr → Int → Slc → Int → Int → World → Prop) (m0 : Option Addr → Int → Slc → Int → Int → World → Nat)
    (h : Calls Try.prog 53 #[Value.pointer a0_m] w fun e1 w1 =>
    ∃ b1 : Bool, e1 = .returned (Value.bool b1) ∧
    (br (!b1)
     (R (.returned (Value.int .i64 2)) w1)
     (onSome a0_m fun ad1 =>
      Calls Try.prog 54 #[Value.pointer (some ad1)] w1 fun e2 w2 =>
      ∃ s1 : Slc, e2 = .returned s1.v ∧
      (J0 a0_m a1_p s1 (s1.n : Int) 0 w2))))
    (h0 : ∀ (t0_m : Option Addr) (t1_p : Int) (t13 : Slc) (t14 : Int) (t15 : Int) (w_ : World), J0 t0_m t1_p t13 t14 t15 w_ → 
    br (decide (t15 < t14))
    (semA Try.prog (Instr.indexAt 38 t13.v (Value.int .i64 t15)) w_ fun ad2 w3 =>
     ldI .i64 ad2 w3 fun x1 =>
     br (decide (x1 < t1_p))
     (onSome t0_m fun ad3 =>
      ldI .i64 (ad3.add 1) w3 fun x2 =>
      onSome t0_m fun ad4 =>
      stC (ad4.add 1) (Value.int .i64 (IntKind.i64.wrap (x2 + 1))) w3 fun w4 =>
      J0 t0_m t1_p t13 t14 (IntKind.i64.wrap (t15 + 1)) w4 ∧
      m0 t0_m t1_p t13 t14 (IntKind.i64.wrap (t15 + 1)) w4 < m0 t0_m t1_p t13 t14 t15 w_)
     (J0 t0_m t1_p t13 t14 (IntKind.i64.wrap (t15 + 1)) w3 ∧
      m0 t0_m t1_p t13 t14 (IntKind.i64.wrap (t15 + 1)) w3 < m0 t0_m t1_p t13 t14 t15 w_))
    (R (.returned (Value.int .i64 0)) w_)) :
    Calls Try.prog 40 #[Value.pointer a0_m, Value.int .i64 a1_p] w R := by
  refine calls_of_vc (fuel_Meter_Skip_cut J0 m0) (by kernel_rfl) Try.func40 rfl ?_ ?_
  · refine kcast h ?_; kernel_rfl
  · exact (obl_seq rfl (obl_reg (obl_seq rfl (obl_seq rfl (obl_reg (obl_cond (obl_seq rfl (obl_reg (obl_ret (obl_skip (obl_seq rfl (obl_seq rfl (obl_reg (obl_loop _ rfl (fun a_ w_ hL_ => (by
    obtain ⟨hz_, hd_, hL_⟩ := atSz_out hL_
    obtain ⟨t0_m, h0_, hL_⟩ := atP_out hL_
    obtain ⟨t1_p, h1_, hL_⟩ := atI_out hL_
    obtain ⟨t13, h13_, hL_⟩ := atS_out hL_
    obtain ⟨t14, h14_, hL_⟩ := atI_out hL_
    obtain ⟨t15, h15_, hL_⟩ := atI_out hL_
    obtain ⟨g0, rfl⟩ : ∃ g, a_ = Fr 32 [(0, Value.pointer t0_m), (1, Value.int .i64 t1_p), (13, t13.v), (14, Value.int .i64 t14), (15, Value.int .i64 t15)] g := ⟨_, fr_of hz_ hd_ [(0, Value.pointer t0_m), (1, Value.int .i64 t1_p), (13, t13.v), (14, Value.int .i64 t14), (15, Value.int .i64 t15)] (sel_cons h0_ (sel_cons h1_ (sel_cons h13_ (sel_cons h14_ (sel_cons h15_ sel_nil)))))⟩
    clear hz_ hd_ h0_ h1_ h13_ h14_ h15_
    have hJ0_ := hL_
    refine ⟨(fun _ => none), kcast (h0 t0_m t1_p t13 t14 t15 w_ hJ0_) ?_, ?_⟩
    · kernel_rfl
    · exact (obl_seq rfl (obl_reg (obl_seq rfl (obl_cond (obl_skip (obl_exit (obl_seq rfl (obl_blk rfl (obl_seq rfl (obl_reg (obl_seq rfl (obl_reg (obl_cond (obl_reg (obl_skip (obl_reg trivial)))))))))))))))))) (obl_seq rfl (obl_reg (obl_ret trivial)))))))))))))))))

set_option maxRecDepth 100000 in
/-- (*surd/fuel.Meter).Add: function 35. -/
theorem fuel_Meter_Add_vc (a0_m : Option Addr) (a1_f : Slc) (w : World) (R : Ending → World → Prop)
    
    (h : Calls Try.prog 53 #[Value.pointer a0_m] w fun e1 w1 =>
    ∃ b1 : Bool, e1 = .returned (Value.bool b1) ∧
    (br (!b1)
     (R (.returned (Value.int .i64 2)) w1)
     (onSome a0_m fun ad1 =>
      ldS ad1 w1 fun s1 =>
      Calls Try.prog 55 #[s1.v, a1_f.v] w1 fun e2 w2 =>
      ∃ s2 : Slc, ∃ x1 : Int, e2 = .returned (Value.tuple #[s2.v, Value.int .i64 x1]) ∧
      (br (x1 != 0)
       (R (.returned (Value.int .i64 x1)) w2)
       (onSome a0_m fun ad2 =>
        stC ad2 s2.v w2 fun w3 =>
        R (.returned (Value.int .i64 0)) w3))))) :
    Calls Try.prog 35 #[Value.pointer a0_m, a1_f.v] w R := by
  refine calls_of_vc (fun _ => none) (by kernel_rfl) Try.func35 rfl ?_ ?_
  · refine kcast h ?_; kernel_rfl
  · exact (obl_seq rfl (obl_reg (obl_seq rfl (obl_seq rfl (obl_reg (obl_cond (obl_seq rfl (obl_reg (obl_ret (obl_skip (obl_seq rfl (obl_reg (obl_seq rfl (obl_seq rfl (obl_reg (obl_cond (obl_seq rfl (obl_reg (obl_ret (obl_skip (obl_seq rfl (obl_reg (obl_seq rfl (obl_reg (obl_ret trivial)))))))))))))))))))))))))

set_option maxRecDepth 100000 in
/-- (*surd/fuel.Meter).Fork: function 41. -/
theorem fuel_Meter_Fork_vc (a0_m : Option Addr) (w : World) (R : Ending → World → Prop)
    
    (h : Calls Try.prog 53 #[Value.pointer a0_m] w fun e1 w1 =>
    ∃ b1 : Bool, e1 = .returned (Value.bool b1) ∧
    (br (!b1)
     (R (.returned (Value.pointer none)) w1)
     (onSome a0_m fun ad1 =>
      ldS ad1 w1 fun s1 =>
      ldI .i64 (ad1.add 1) w1 fun x1 =>
      ldB (ad1.add 2) w1 fun b2 =>
      newC w1 #[(⟨none, 0, 0⟩ : Slc).v, Value.int .i64 0, Value.bool false] 65 fun ad2 w2 =>
      stC ad2 s1.v w2 fun w3 =>
      stC (ad2.add 1) (Value.int .i64 x1) w3 fun w4 =>
      stC (ad2.add 2) (Value.bool b2) w4 fun w5 =>
      R (.returned (Value.pointer (some ad2))) w5))) :
    Calls Try.prog 41 #[Value.pointer a0_m] w R := by
  refine calls_of_vc (fun _ => none) (by kernel_rfl) Try.func41 rfl ?_ ?_
  · refine kcast h ?_; kernel_rfl
  · exact (obl_seq rfl (obl_reg (obl_seq rfl (obl_seq rfl (obl_reg (obl_cond (obl_seq rfl (obl_reg (obl_ret (obl_skip (obl_seq rfl (obl_reg (obl_seq rfl (obl_reg (obl_ret trivial)))))))))))))))

set_option maxRecDepth 100000 in
/-- surd/fuel.New: function 33. -/
theorem fuel_New_vc (a0_f : Slc) (w : World) (R : Ending → World → Prop)
    
    (h : Calls Try.prog 52 #[a0_f.v] w fun e1 w1 =>
    ∃ s1 : Slc, e1 = .returned s1.v ∧
    (newC w1 #[s1.v, Value.int .i64 0, Value.bool true] 65 fun ad1 w2 =>
     R (.returned (Value.pointer (some ad1))) w2)) :
    Calls Try.prog 33 #[a0_f.v] w R := by
  refine calls_of_vc (fun _ => none) (by kernel_rfl) Try.func33 rfl ?_ ?_
  · refine kcast h ?_; kernel_rfl
  · exact (obl_seq rfl (obl_reg (obl_seq rfl (obl_reg (obl_ret trivial)))))

set_option maxRecDepth 100000 in
/-- (*surd/fuel.state).left: function 54. -/
theorem fuel_state_left_vc (a0_s : Option Addr) (w : World) (R : Ending → World → Prop)
    
    (h : onSome a0_s fun ad1 =>
    ldS ad1 w fun s1 =>
    Calls Try.prog 20 #[s1.v] w fun e1 w1 =>
    ∃ s2 : Slc, e1 = .returned s2.v ∧
    (onSome a0_s fun ad2 =>
     ldI .i64 (ad2.add 1) w1 fun x1 =>
     semS Try.prog (Instr.sliceAt 38 s2.v (some (Value.int .i64 (minI x1 (s2.n : Int)))) none none) w1 fun s3 w2 =>
     R (.returned s3.v) w2)) :
    Calls Try.prog 54 #[Value.pointer a0_s] w R := by
  refine calls_of_vc (fun _ => none) (by kernel_rfl) Try.func54 rfl ?_ ?_
  · refine kcast h ?_; kernel_rfl
  · exact (obl_seq rfl (obl_reg (obl_seq rfl (obl_reg (obl_seq rfl (obl_reg (obl_ret trivial)))))))

end Go.Proofs.Ytflipimlpgbnmaa
namespace Go.Proofs.Ytflipimlpgbnmaa
open Go Go.RowKit Eng Sp Dg
set_option linter.unusedVariables false
set_option linter.unusedSimpArgs false
set_option maxRecDepth 100000
namespace Mul
open _root_.Go.Proofs.Ytflipimlpgbnmaa.Nat (ldN ldNf stN mkN Fill mkF stF Num OwnNil add64)

/-- No block but k has changed. -/
def Only (k : Nat) (w w' : World) : Prop := w'.os = w.os ∧ w'.tape = w.tape ∧ w'.output = w.output ∧ w'.heap.size = w.heap.size ∧ ∀ j, j ≠ k → w'.heap[j]? = w.heap[j]?
theorem Only.refl (k : Nat) (w : World) : Only k w w := ⟨rfl, rfl, rfl, rfl, fun _ _ => rfl⟩
theorem Only.trans {k : Nat} {a b c : World} (h : Only k a b) (h' : Only k b c) : Only k a c :=
  ⟨h'.1.trans h.1, h'.2.1.trans h.2.1, h'.2.2.1.trans h.2.2.1, h'.2.2.2.1.trans h.2.2.2.1, fun j hj => (h'.2.2.2.2 j hj).trans (h.2.2.2.2 j hj)⟩
theorem Only.setCell (k i : Nat) (w : World) (v : Value) : Only k w (w.setCell ⟨k, i, none⟩ v) :=
  ⟨rfl, rfl, rfl, by simp [World.setCell], fun j hj => Below.heap_setCell _ _ _ _ (by simpa using hj)⟩
theorem Only.setRow (k : Nat) (w : World) (c : Array Value) : Only k w (w.setRow k c) :=
  ⟨rfl, rfl, rfl, by simp [World.setRow], fun j hj => setRow_other w k j _ hj⟩
theorem Only.ahead {k : Nat} {w0 w w' : World} (h : Only k w w') (ha : Ahead w0 w) (hk : w0.heap.size ≤ k) : Ahead w0 w' :=
  Below.trans ha ⟨h.1, h.2.1, h.2.2.1, by rw [h.2.2.2.1]; exact Nat.le_refl _, fun j hj => h.2.2.2.2 j (by omega)⟩
/-- The slice's cells lie outside the block. -/
def Off (k : Nat) (s : Slc) : Prop := ∀ ad, s.A = some ad → 0 < s.n → ad.block ≠ k
theorem add_block (a : Addr) (i : Nat) : (a.add i).block = a.block := by unfold Addr.add; split <;> rfl
theorem Only.rd {k : Nat} {w w' : World} (h : Only k w w') {s : Slc} {l : List Int} {kd : IntKind} (hr : Rd kd w s l) (ho : Off k s) : Rd kd w' s l :=
  ⟨hr.n, hr.c, fun i hi => by
    obtain ⟨ad, e, hc⟩ := hr.get i hi
    refine ⟨ad, e, ?_⟩
    rw [World.cell?_of_block (w := w)]
    · exact hc
    · rw [add_block]; exact h.2.2.2.2 _ (ho ad e (by rw [hr.n]; omega))⟩
theorem Only.own {k : Nat} {w w' : World} (h : Only k w w') {s : Slc} {l : List Int} {kd : IntKind} {t : TypeId} {b : Nat} (hr : Own kd t w s l b) (ho : b ≠ k) : Own kd t w' s l b := by
  obtain ⟨sp, hc, hm⟩ := hr.mem
  exact ⟨hr.hd, sp, hc, by rw [h.2.2.2.2 b ho]; exact hm⟩
theorem Only.ownNil {k base : Nat} {w w' : World} (h : Only k w w') {s : Slc} {l : List Nat} (hr : OwnNil base w s l) (ho : k < base) : OwnNil base w' s l := by
  rcases hr with h1 | ⟨b, h1, h2, h3⟩
  · exact .inl h1
  · exact .inr ⟨b, h1, h2, h.own h3 (by omega)⟩

end Mul
end Go.Proofs.Ytflipimlpgbnmaa
namespace Go.Proofs.Ytflipimlpgbnmaa
open Go Go.RowKit Eng Sp Dg
set_option linter.unusedVariables false
set_option linter.unusedSimpArgs false
set_option maxRecDepth 100000
namespace Mul
open _root_.Go.Proofs.Ytflipimlpgbnmaa.Nat (ldN ldNf stN mkN Fill mkF stF Num OwnNil add64)

theorem rd_off {w : World} {s : Slc} {l : List Int} {kd : IntKind} (hr : Rd kd w s l) {k : Nat} (hk : w.heap.size ≤ k) : Off k s := by
  intro ad e hp
  obtain ⟨ad', e', hc⟩ := hr.get 0 (by have := hr.n; omega)
  rw [e] at e'
  obtain rfl := Option.some.inj e'
  intro hb
  have hnone : w.heap[k]? = none := by simp [hk]
  have : (ad.add 0).block = k := by rw [add_block]; exact hb
  simp [World.cell?, this, hnone] at hc

end Mul
end Go.Proofs.Ytflipimlpgbnmaa
namespace Go.Proofs.Ytflipimlpgbnmaa
open Go Go.RowKit Eng Sp Dg
set_option linter.unusedVariables false
set_option linter.unusedSimpArgs false
set_option maxRecDepth 100000
namespace Sb
open _root_.Go.Proofs.Ytflipimlpgbnmaa.Nat (OwnNil)
open _root_.Go.Proofs.Ytflipimlpgbnmaa.Mul (Only Off)

/-- The block's cells. -/
def Blk (w : World) (b : Nat) (cs : Array Value) : Prop := ∃ t, w.heap[b]? = some (.cells cs t (0, 0))
theorem Blk.lt {w : World} {b : Nat} {cs : Array Value} (h : Blk w b cs) : b < w.heap.size := by
  obtain ⟨t, h⟩ := h; exact (Array.getElem?_eq_some_iff.1 h).1
theorem Blk.ahead {w w' : World} {b : Nat} {cs : Array Value} (h : Blk w b cs) (ha : Ahead w w') : Blk w' b cs := by
  have hl := h.lt
  obtain ⟨t, h⟩ := h; exact ⟨t, by rw [Below.block ha b hl]; exact h⟩
theorem Blk.only {w w' : World} {b k : Nat} {cs : Array Value} (h : Blk w b cs) (ho : Only k w w') (hne : b ≠ k) : Blk w' b cs := by
  obtain ⟨t, h⟩ := h; exact ⟨t, by rw [ho.2.2.2.2 b hne]; exact h⟩
theorem Blk.cell {w : World} {b i : Nat} {cs : Array Value} {v : Value} (h : Blk w b cs) (hc : cs[i]? = some v) : w.cell? ⟨b, i, none⟩ = some v := by
  obtain ⟨t, h⟩ := h
  simp [World.cell?, h, hc]

theorem newC_b {w : World} {cs : Array Value} {t : TypeId} {K : Addr → World → Prop} (h : ∀ b w', b = w.heap.size → Ahead w w' → w'.heap.size = b + 1 → Blk w' b cs → K ⟨b, 0, none⟩ w') : newC w cs t K :=
  h _ _ rfl (Ahead.alloc _ _) (size_alloc _ _) ⟨t, get_alloc _ _⟩

/-- Nothing but the block, which holds no limb, has changed. -/
structure Upd (b : Nat) (w w' : World) : Prop where
  only : Only b w w'
  rd : ∀ s l, Rd .u64 w s l → Rd .u64 w' s l
theorem Upd.trans {b : Nat} {w w' w'' : World} (h : Upd b w w') (h' : Upd b w' w'') : Upd b w w'' := ⟨h.only.trans h'.only, fun s l hr => h'.rd s l (h.rd s l hr)⟩
theorem Upd.ahead {b : Nat} {w0 w w' : World} (h : Upd b w w') (ha : Ahead w0 w) (hb : w0.heap.size ≤ b) : Ahead w0 w' := h.only.ahead ha hb
theorem Upd.size {b : Nat} {w w' : World} (h : Upd b w w') : w'.heap.size = w.heap.size := h.only.2.2.2.1
theorem Upd.own {b base : Nat} {w w' : World} (h : Upd b w w') {s : Slc} {l : List Nat} (hr : OwnNil base w s l) (ho : b < base) : OwnNil base w' s l := h.only.ownNil hr ho
theorem Upd.blk {b k : Nat} {w w' : World} {cs : Array Value} (h : Upd k w w') (hr : Blk w b cs) (hne : b ≠ k) : Blk w' b cs := hr.only h.only hne
theorem Upd.cell {b : Nat} {w w' : World} (h : Upd b w w') {ad : Addr} {v : Value} (hne : ad.block ≠ b) (hc : w.cell? ad = some v) : w'.cell? ad = some v := by
  rw [World.cell?_of_block (h.only.2.2.2.2 _ hne)]; exact hc

def noU (cs : Array Value) : Bool := cs.toList.all fun v => match v with
  | .int .u64 _ => false
  | _ => true
theorem off_blk {w : World} {b : Nat} {cs : Array Value} {s : Slc} {l : List Int} (h : Blk w b cs) (hn : noU cs = true) (hr : Rd .u64 w s l) : Off b s := by
  intro ad e hp hb
  obtain ⟨ad', e', hc⟩ := hr.get 0 (by have := hr.n; omega)
  rw [e] at e'
  obtain rfl := Option.some.inj e'
  obtain ⟨t, h⟩ := h
  have hadd : ad.add 0 = ad := by simp [Addr.add]
  rw [hadd, World.cell?, hb, h] at hc
  simp only at hc
  split at hc
  · cases hc
  · have hm := Array.mem_of_getElem? hc
    unfold noU at hn
    have := List.all_eq_true.1 hn _ (Array.mem_toList_iff.2 hm)
    simp at this

theorem stC_b (i : Nat) {w : World} {b : Nat} {cs : Array Value} {ad : Addr} {v : Value} {K : World → Prop} (h : Blk w b cs) (hi : i < cs.size) (hn : noU cs = true)
    (hk : ∀ w', Upd b w w' → Blk w' b (cs.setIfInBounds i v) → K w') (hA : ad = ⟨b, i, none⟩ := by first | rfl | exact add_off) : stC ad v w K := by
  subst hA
  obtain ⟨t, hh⟩ := h
  have ho : Only b w (w.setCell ⟨b, i, none⟩ v) := Only.setCell b i w v
  refine ⟨⟨cs[i], by simp [World.cell?, hh, hi]⟩, by simp [World.frozen?, hh], hk _ ⟨ho, fun s l hr => ho.rd hr (off_blk ⟨t, hh⟩ hn hr)⟩ ⟨t, ?_⟩⟩
  have hlt := (Array.getElem?_eq_some_iff.1 hh).1
  have hget := (Array.getElem?_eq_some_iff.1 hh).2
  simp [World.setCell, Array.getElem?_modify, hh]
theorem ldB_b (i : Nat) {w : World} {b : Nat} {cs : Array Value} {ad : Addr} {x : Bool} {K : Bool → Prop} (h : Blk w b cs) (hc : cs[i]? = some (.bool x)) (hk : K x) (hA : ad = ⟨b, i, none⟩ := by first | rfl | exact add_off) : ldB ad w K := by
  subst hA; exact ⟨x, h.cell hc, hk⟩
theorem ldS_b (i : Nat) {w : World} {b : Nat} {cs : Array Value} {ad : Addr} {x : Slc} {K : Slc → Prop} (h : Blk w b cs) (hc : cs[i]? = some x.v) (hk : K x) (hA : ad = ⟨b, i, none⟩ := by first | rfl | exact add_off) : ldS ad w K := by
  subst hA; exact ⟨x, h.cell hc, hk⟩
theorem ldI_b (i : Nat) {w : World} {b : Nat} {cs : Array Value} {ad : Addr} {k : IntKind} {x : Int} {K : Int → Prop} (h : Blk w b cs) (hc : cs[i]? = some (.int k x)) (hk : K x) (hA : ad = ⟨b, i, none⟩ := by first | rfl | exact add_off) : ldI k ad w K := by
  subst hA; exact ⟨x, h.cell hc, hk⟩

abbrev c3 (x : Bool) (s : Slc) (e : Int) : Array Value := #[.bool x, s.v, .int .i64 e]
abbrev c2 (x : Bool) (s : Slc) : Array Value := #[.bool x, s.v]

end Sb
end Go.Proofs.Ytflipimlpgbnmaa
namespace Go.Proofs.Ytflipimlpgbnmaa
open Go Go.RowKit Eng Sp Dg
set_option linter.unusedVariables false
set_option linter.unusedSimpArgs false
set_option maxRecDepth 100000
namespace Fuel
open _root_.Go.Proofs.Ytflipimlpgbnmaa.Nat (Yes num_spec end_awake Num Num.ahead OwnNil OwnNil.rd OwnNil.ahead OwnI OwnI.rd OwnI.ahead OwnI.mono atts tw tw_length tw_getD atts_le atts_lt pow16 Attempts_spec alike_spec Norm_spec Add_spec bigC num_of)

open Sb

theorem cutLoG {k : IntKind} {t e : TypeId} (hT : isSl pr t k = some e) {w : World} {s : Slc} {h : Int} (h0 : 0 ≤ h) (h1 : h ≤ s.n) {K : Slc → World → Prop} (hk : K ⟨if s.c = h.toNat then s.A else s.A.map (·.add h.toNat), s.n - h.toNat, s.c - h.toNat⟩ w) :
    semS pr (Instr.sliceAt t s.v (some (.int .i64 h)) none none) w fun s' w' => K s' w' := by
  unfold semS; rw [Sem.wp_iff_run, run_slice_lo hT w s h0 h1]; exact ⟨_, rfl, hk⟩
theorem fixLoG {k : IntKind} {t e : TypeId} (hT : isSl pr t k = some e) {w : World} {s : Slc} {h : Int} (h0 : 0 ≤ h) (h1 : h ≤ s.n) {K : Slc → Prop} (hk : K ⟨if s.c = h.toNat then s.A else s.A.map (·.add h.toNat), s.n - h.toNat, s.c - h.toNat⟩) :
    fixS pr (Instr.sliceAt t s.v (some (.int .i64 h)) none none) w fun s' => K s' :=
  ⟨_, fun w' _ => run_slice_lo hT w' s h0 h1, hk⟩

/-- The meter lies in block b: its fuel is N, k attempts have been told. -/
def Mt (w : World) (b : Nat) (N k : Nat) : Prop := ∃ s : Slc, Blk w b #[s.v, .int .i64 (k : Int), .bool true] ∧ Num w s N
theorem Mt.ahead {w w' : World} {b N k : Nat} (h : Mt w b N k) (ha : Ahead w w') : Mt w' b N k := by
  obtain ⟨s, h1, h2⟩ := h; exact ⟨s, h1.ahead ha, h2.ahead ha⟩
theorem Mt.lt {w : World} {b N k : Nat} (h : Mt w b N k) : b < w.heap.size := by obtain ⟨s, h1, _⟩ := h; exact h1.lt
/-- Only the meter's block, and new memory. -/
structure Stp (b : Nat) (w w' : World) : Prop where
  bar : Bar (fun k => k = b) w w'
  rd : ∀ s l, Rd .u64 w s l → Rd .u64 w' s l
theorem Stp.of_ahead {b : Nat} {w w' : World} (h : Ahead w w') : Stp b w w' := ⟨Bar.of_ahead h, fun _ _ hr => hr.ahead h⟩
theorem Stp.trans {b : Nat} {x y z : World} (h : Stp b x y) (k : Stp b y z) : Stp b x z := ⟨h.bar.trans k.bar, fun s l hr => k.rd s l (h.rd s l hr)⟩
theorem Stp.of_upd {b : Nat} {w w' : World} (h : Upd b w w') : Stp b w w' :=
  ⟨⟨h.only.1, h.only.2.1, h.only.2.2.1, Nat.le_of_eq h.only.2.2.2.1.symm, fun k _ hk => h.only.2.2.2.2 k hk⟩, h.rd⟩
theorem Stp.ahead {b : Nat} {w0 w w' : World} (h : Stp b w w') (ha : Ahead w0 w) (hb : w0.heap.size ≤ b) : Ahead w0 w' :=
  ⟨h.bar.os.trans ha.os, h.bar.tape.trans ha.tape, h.bar.output.trans ha.output, Nat.le_trans ha.size h.bar.size, fun k hk => (h.bar.block k (Nat.lt_of_lt_of_le hk ha.size) (by omega)).trans (Below.block ha k hk)⟩
theorem Stp.num {b : Nat} {w w' : World} {s : Slc} {N : Nat} (h : Stp b w w') (hn : Num w s N) : Num w' s N := by
  obtain ⟨l, h1, h2⟩ := hn; exact ⟨l, h.rd _ _ h1, h2⟩

theorem is_yes {w : World} {b N k : Nat} (h : Mt w b N k) : Calls pr fuel_Meter_is_id #[.pointer (some ⟨b, 0, none⟩)] w fun e w' => w' = w ∧ e = .returned (.bool true) := by
  obtain ⟨s, h1, _⟩ := h
  exact fuel_Meter_is_vc _ w _ (br_true rfl (ldB_b 2 h1 rfl ⟨rfl, rfl⟩))
theorem left_spec {w : World} {b N k : Nat} (h : Mt w b N k) : Calls pr fuel_state_left_id #[.pointer (some ⟨b, 0, none⟩)] w fun e w' => Ahead w w' ∧ ∃ s, e = .returned (Slc.v s) ∧ Rd .i64 w' s ((tw (atts N)).drop (min k (atts N))) ∧ ∀ ad, s.A = some ad → w.heap.size ≤ ad.block := by
  obtain ⟨s, h1, h2⟩ := h
  have hle := atts_le N
  refine fuel_state_left_vc _ w _ (ldS_b 0 h1 rfl (Calls.mono (Attempts_spec h2) ?_))
  rintro e w1 ⟨a1, t, rfl, ot⟩
  refine ⟨_, rfl, ldI_b 1 (h1.ahead a1) rfl ?_⟩
  have rt := ot.rd
  have hn : t.n = atts N := by rw [rt.n, tw_length]
  have hm : minI (k : Int) (t.n : Int) = ((min k (atts N) : Nat) : Int) := by unfold minI; split <;> omega
  rw [hm]
  refine cutLoG (k := .i64) (e := tInt) (by kernel_rfl) (by omega) (by omega) ⟨a1, _, rfl, ?_, ?_⟩
  · rw [Int.toNat_natCast]; exact rt.drop (by rw [tw_length]; omega)
  · intro ad had
    rw [Int.toNat_natCast] at had
    rcases ot with ⟨rfl, _⟩ | ⟨b', q1, _, q3⟩
    · exfalso
      simp only at had
      split at had <;> simp at had
    · rw [q3.A] at had
      split at had
      · have := Option.some.inj had
        subst this; exact q1
      · simp only [Option.map_some] at had
        have := Option.some.inj had
        subst this
        rw [Eng.add_block]; exact q1

def enough (N : Nat) (p : Int) : Prop := 0 < atts N ∧ p ≤ ((64 * 2 ^ (atts N - 1) : Nat) : Int)
instance (N : Nat) (p : Int) : Decidable (enough N p) := inferInstanceAs (Decidable (_ ∧ _))

end Fuel
end Go.Proofs.Ytflipimlpgbnmaa
namespace Go.Proofs.Ytflipimlpgbnmaa
open Go Go.RowKit Eng Sp Dg
set_option linter.unusedVariables false
set_option linter.unusedSimpArgs false
set_option maxRecDepth 100000
namespace Fuel
open _root_.Go.Proofs.Ytflipimlpgbnmaa.Nat (Yes num_spec end_awake Num Num.ahead OwnNil OwnNil.rd OwnNil.ahead OwnI OwnI.rd OwnI.ahead OwnI.mono atts tw tw_length tw_getD tw_succ atts_le atts_lt pow16 Attempts_spec alike_spec bigC num_of add_num own_num digs_len_bl)
open _root_.Go.Proofs.Ytflipimlpgbnmaa.Ref (RN RN.ahead Of_spec Cmp_spec Int_spec len32 bl_len32)
open Sb

theorem atts_mono {N M : Nat} (h : N ≤ M) : atts N ≤ atts M := by
  have := bl_mono h
  unfold atts; omega
theorem pow_le {i j : Nat} (h : i ≤ j) : 64 * 2 ^ i ≤ 64 * 2 ^ j := Nat.mul_le_mul_left _ (Nat.pow_le_pow_right (by omega) h)

end Fuel
end Go.Proofs.Ytflipimlpgbnmaa
namespace Go.Proofs.Ytflipimlpgbnmaa
open Go Go.RowKit Eng
set_option linter.unusedVariables false

def surdlaw18_FuelMeters_cut (J0 : Slc → Slc → Slc → Int → Int → World → Prop) (m0 : Slc → Slc → Slc → Int → Int → World → Nat) (J2 : Slc → Slc → Slc → Int → Int → World → Slc → Slc → Addr → Slc → Option Addr → Slc → Int → Int → Int → Int → World → Prop) (m2 : Slc → Slc → Slc → Int → Int → World → Slc → Slc → Addr → Slc → Option Addr → Slc → Int → Int → Int → Int → World → Nat) (J4 : Slc → Slc → Int → Int → World → Prop) (m4 : Slc → Slc → Int → Int → World → Nat) (K8 : Slc → Slc → Slc → Int → Int → World → Slc → Slc → Addr → Slc → Int → Int → Bool → World → Prop) : Nat → Option ((Act → World → Prop) × (Act → World → Nat))
  | 0 => some (fun a_ w_ => atSz a_ 153 (atS a_ 3 fun t3 => atS a_ 4 fun t4 => atS a_ 15 fun t15 => atI .i64 a_ 16 fun t16 => atI .i64 a_ 17 fun t17 => J0 t3 t4 t15 t16 t17 w_), fun a_ w_ => mS a_ 3 fun t3 => mS a_ 4 fun t4 => mS a_ 15 fun t15 => mI a_ 16 fun t16 => mI a_ 17 fun t17 => m0 t3 t4 t15 t16 t17 w_)
  | 4 => some (fun a_ w_ => atSz a_ 153 (atS a_ 4 fun t4 => atS a_ 123 fun t123 => atI .i64 a_ 124 fun t124 => atI .i64 a_ 125 fun t125 => J4 t4 t123 t124 t125 w_), fun a_ w_ => mS a_ 4 fun t4 => mS a_ 123 fun t123 => mI a_ 124 fun t124 => mI a_ 125 fun t125 => m4 t4 t123 t124 t125 w_)
  | _ => none

def surdlaw18_FuelMeters_cut_0 (J0 : Slc → Slc → Slc → Int → Int → World → Prop) (m0 : Slc → Slc → Slc → Int → Int → World → Nat) (J2 : Slc → Slc → Slc → Int → Int → World → Slc → Slc → Addr → Slc → Option Addr → Slc → Int → Int → Int → Int → World → Prop) (m2 : Slc → Slc → Slc → Int → Int → World → Slc → Slc → Addr → Slc → Option Addr → Slc → Int → Int → Int → Int → World → Nat) (J4 : Slc → Slc → Int → Int → World → Prop) (m4 : Slc → Slc → Int → Int → World → Nat) (K8 : Slc → Slc → Slc → Int → Int → World → Slc → Slc → Addr → Slc → Int → Int → Bool → World → Prop) (o_t3 : Slc) (o_t4 : Slc) (o_t15 : Slc) (o_t16 : Int) (o_t17 : Int) (o_w_ : World) : Nat → Option ((Act → World → Prop) × (Act → World → Nat))
  | 2 => some (fun a_ w_ => atSz a_ 153 (atS a_ 3 fun t3 => atS a_ 4 fun t4 => atA a_ 6 fun t6 => atS a_ 8 fun t8 => atP a_ 9 fun t9 => atS a_ 15 fun t15 => atI .i64 a_ 16 fun t16 => atI .i64 a_ 17 fun t17 => atI .i64 a_ 47 fun t47 => atI .i64 a_ 48 fun t48 => J2 o_t3 o_t4 o_t15 o_t16 o_t17 o_w_ t3 t4 t6 t8 t9 t15 t16 t17 t47 t48 w_), fun a_ w_ => mS a_ 3 fun t3 => mS a_ 4 fun t4 => mA a_ 6 fun t6 => mS a_ 8 fun t8 => mP a_ 9 fun t9 => mS a_ 15 fun t15 => mI a_ 16 fun t16 => mI a_ 17 fun t17 => mI a_ 47 fun t47 => mI a_ 48 fun t48 => m2 o_t3 o_t4 o_t15 o_t16 o_t17 o_w_ t3 t4 t6 t8 t9 t15 t16 t17 t47 t48 w_)
  | 3000008 => some (fun a_ w_ => atSz a_ 153 (atS a_ 3 fun t3 => atS a_ 4 fun t4 => atA a_ 6 fun t6 => atS a_ 15 fun t15 => atI .i64 a_ 16 fun t16 => atI .i64 a_ 17 fun t17 => atB a_ 28 fun t28 => K8 o_t3 o_t4 o_t15 o_t16 o_t17 o_w_ t3 t4 t6 t15 t16 t17 t28 w_), fun _ _ => 0)
  | _ => none

set_option maxRecDepth 100000 in
/-- surd/surdlaw18.FuelMeters: function 8. -/
theorem surdlaw18_FuelMeters_vc (a0 : Slc) (w : World) (R : Ending → World → Prop)
    (J0 : Slc → Slc → Slc → Int → Int → World → Prop) (m0 : Slc → Slc → Slc → Int → Int → World → Nat) (J2 : Slc → Slc → Slc → Int → Int → World → Slc → Slc → Addr → Slc → Option Addr → Slc → Int → Int → Int → Int → World → Prop) (m2 : Slc → Slc → Slc → Int → Int → World → Slc → Slc → Addr → Slc → Option Addr → Slc → Int → Int → Int → Int → World → Nat) (J4 : Slc → Slc → Int → Int → World → Prop) (m4 : Slc → Slc → Int → Int → World → Nat) (K8 : Slc → Slc → Slc → Int → Int → World → Slc → Slc → Addr → Slc → Int → Int → Bool → World → Prop)
    (h : J0 (⟨none, 0, 0⟩ : Slc) (⟨none, 0, 0⟩ : Slc) a0 (a0.n : Int) 0 w)
    (h0 : ∀ (t3 : Slc) (t4 : Slc) (t15 : Slc) (t16 : Int) (t17 : Int) (w_ : World), J0 t3 t4 t15 t16 t17 w_ → 
    br (decide (t17 < t16))
    (semA Try.prog (Instr.indexAt 72 t15.v (Value.int .i64 t17)) w_ fun ad1 w1 =>
     ldI .i64 ad1 w1 fun x1 =>
     ldI .i64 (ad1.add 1) w1 fun x2 =>
     ldI .i64 (ad1.add 2) w1 fun x3 =>
     ldS (ad1.add 3) w1 fun s1 =>
     newC w1 #[Value.int .i64 0, Value.int .i64 0, Value.int .i64 0, (⟨none, 0, 0⟩ : Slc).v] 75 fun ad2 w2 =>
     stC ad2 (Value.int .i64 x1) w2 fun w3 =>
     stC (ad2.add 1) (Value.int .i64 x2) w3 fun w4 =>
     stC (ad2.add 2) (Value.int .i64 x3) w4 fun w5 =>
     stC (ad2.add 3) s1.v w5 fun w6 =>
     ldI .i64 ad2 w6 fun x4 =>
     br (x4 == 7)
     (K8 t3 t4 t15 t16 t17 w_ t3 t4 ad2 t15 t16 t17 true w6)
     (K8 t3 t4 t15 t16 t17 w_ t3 t4 ad2 t15 t16 t17 ((t3.n : Int) == 0) w6))
    (J4 t4 t3 (t3.n : Int) 0 w_))
    (h2 : ∀ (t3 : Slc) (t4 : Slc) (t15 : Slc) (t16 : Int) (t17 : Int) (w_ : World), J0 t3 t4 t15 t16 t17 w_ → ∀ (t3' : Slc) (t4' : Slc) (t6' : Addr) (t8' : Slc) (t9' : Option Addr) (t15' : Slc) (t16' : Int) (t17' : Int) (t47' : Int) (t48' : Int) (w__ : World), J2 t3 t4 t15 t16 t17 w_ t3' t4' t6' t8' t9' t15' t16' t17' t47' t48' w__ → 
    br (decide (t48' < t47'))
    (semA Try.prog (Instr.indexAt 25 t8'.v (Value.int .i64 t48')) w__ fun ad3 w10 =>
     stC ad3 (Value.int .u64 1) w10 fun w11 =>
     J2 t3 t4 t15 t16 t17 w_ t3' t4' t6' t8' t9' t15' t16' t17' t47' (IntKind.i64.wrap (t48' + 1)) w11 ∧
     m2 t3 t4 t15 t16 t17 w_ t3' t4' t6' t8' t9' t15' t16' t17' t47' (IntKind.i64.wrap (t48' + 1)) w11 < m2 t3 t4 t15 t16 t17 w_ t3' t4' t6' t8' t9' t15' t16' t17' t47' t48' w__)
    (newC w__ #[Value.pointer t9'] 55 fun ad4 w12 =>
     semS Try.prog (Builtin.append_ #[66, 66] 66 #[t3'.v, (⟨some ad4, 1, 1⟩ : Slc).v]) w12 fun s6 w13 =>
     ldS (t6'.add 3) w13 fun s7 =>
     Calls Try.prog 18 #[s7.v] w13 fun e4 w14 =>
     ∃ s8 : Slc, e4 = .returned s8.v ∧
     (newC w14 #[s8.v, Value.int .i64 0] 78 fun ad5 w15 =>
      newC w15 #[Value.pointer (some ad5)] 76 fun ad6 w16 =>
      semS Try.prog (Builtin.append_ #[73, 73] 73 #[t4'.v, (⟨some ad6, 1, 1⟩ : Slc).v]) w16 fun s9 w17 =>
      J0 s6 s9 t15' t16' (IntKind.i64.wrap (t17' + 1)) w17 ∧
      m0 s6 s9 t15' t16' (IntKind.i64.wrap (t17' + 1)) w17 < m0 t3 t4 t15 t16 t17 w_)))
    (h4 : ∀ (t4 : Slc) (t123 : Slc) (t124 : Int) (t125 : Int) (w_ : World), J4 t4 t123 t124 t125 w_ → 
    br (decide (t125 < t124))
    (semA Try.prog (Instr.indexAt 66 t123.v (Value.int .i64 t125)) w_ fun ad17 w28 =>
     ldP ad17 w28 fun p8 =>
     fixA Try.prog (Instr.indexAt 73 t4.v (Value.int .i64 t125)) w28.drew fun ad18 =>
     ldP ad18 w28.drew fun p9 =>
     Calls Try.prog 37 #[Value.pointer p8] w28.drew fun e7 w29 =>
     ∃ s14 : Slc, e7 = .returned s14.v ∧
     (Ahead w28.drew w29 ∧
      (Calls Try.prog 43 #[Value.pointer p9] w29 fun e8 w30 =>
       ∃ s15 : Slc, e8 = .returned s15.v ∧
       (Ahead w29 w30 ∧
        (Calls Try.prog 21 #[s14.v, s15.v] w30 fun e9 w31 =>
         ∃ b3 : Bool, e9 = .returned (Value.bool b3) ∧
         (Ahead w30 w31 ∧
          (br (!b3)
           (R (.returned (Value.bool false)) w31)
           (fixA Try.prog (Instr.indexAt 73 t4.v (Value.int .i64 t125)) w31 fun ad19 =>
            ldP ad19 w31 fun p10 =>
            onSome p10 fun ad20 =>
            ldI .i64 (ad20.add 1) w31 fun x13 =>
            Calls Try.prog 38 #[Value.pointer p8] w31 fun e10 w32 =>
            ∃ x14 : Int, e10 = .returned (Value.int .i64 x14) ∧
            (Ahead w31 w32 ∧
             (br (x14 != x13)
              (R (.returned (Value.bool false)) w32)
              (J4 t4 t123 t124 (IntKind.i64.wrap (t125 + 1)) w32 ∧
               m4 t4 t123 t124 (IntKind.i64.wrap (t125 + 1)) w32 < m4 t4 t123 t124 t125 w_)))))))))))
    (Calls Try.prog 12 #[] w_ fun e11 w33 =>
     ∃ b4 : Bool, e11 = .returned (Value.bool b4) ∧
     (R (.returned (Value.bool b4)) w33)))
    (h3000008 : ∀ (t3 : Slc) (t4 : Slc) (t15 : Slc) (t16 : Int) (t17 : Int) (w_ : World), J0 t3 t4 t15 t16 t17 w_ → ∀ (t3' : Slc) (t4' : Slc) (t6' : Addr) (t15' : Slc) (t16' : Int) (t17' : Int) (t28' : Bool) (w__ : World), K8 t3 t4 t15 t16 t17 w_ t3' t4' t6' t15' t16' t17' t28' w__ → 
    br t28'
    (ldS (t6'.add 3) w__ fun s2 =>
     Calls Try.prog 17 #[s2.v] w__ fun e1 w7 =>
     ∃ s3 : Slc, ∃ s4 : Slc, e1 = .returned (Value.tuple #[s3.v, s4.v]) ∧
     (Calls Try.prog 33 #[s4.v] w7 fun e2 w8 =>
      ∃ p1 : Option Addr, e2 = .returned (Value.pointer p1) ∧
      (br p1.isNone
       (R (.returned (Value.bool false)) w8)
       (ldS (t6'.add 3) w8 fun s5 =>
        Calls Try.prog 27 #[s3.v, s5.v] w8 fun e3 w9 =>
        ∃ b1 : Bool, e3 = .returned (Value.bool b1) ∧
        (br (!b1)
         (R (.returned (Value.bool false)) w9)
         (J2 t3 t4 t15 t16 t17 w_ t3' t4' t6' s4 p1 t15' t16' t17' (s4.n : Int) 0 w9))))))
    (ldI .i64 (t6'.add 1) w__ fun x5 =>
     semI Try.prog .i64 (binOp .rem 3 (Value.int .i64 x5) (Value.int .i64 (t3'.n : Int))) w__ fun x6 w18 =>
     semI Try.prog .i64 (binOp .rem 3 (Value.int .i64 (IntKind.i64.wrap (x6 + (t3'.n : Int)))) (Value.int .i64 (t3'.n : Int))) w18 fun x7 w19 =>
     ldI .i64 t6' w19 fun x8 =>
     br (x8 == 6)
     (semA Try.prog (Instr.indexAt 66 t3'.v (Value.int .i64 x7)) w19 fun ad7 w20 =>
      ldP ad7 w20 fun p2 =>
      Calls Try.prog 41 #[Value.pointer p2] w20 fun e5 w21 =>
      ∃ p3 : Option Addr, e5 = .returned (Value.pointer p3) ∧
      (br p3.isNone
       (R (.returned (Value.bool false)) w21)
       (newC w21 #[Value.pointer p3] 55 fun ad8 w22 =>
        semS Try.prog (Builtin.append_ #[66, 66] 66 #[t3'.v, (⟨some ad8, 1, 1⟩ : Slc).v]) w22 fun s10 w23 =>
        ∃ V1 : Nat → Nat → Prop, anyA Try.prog (Instr.indexAt 73 t4'.v (Value.int .i64 x7)) fun ad9 =>
        Out (V1 4) ad9 (ldP ad9 w23.drew fun p4 =>
         onSome p4 fun ad10 =>
         Out (V1 7) ad10 (ldS ad10 w23.drew fun s11 =>
          anyA Try.prog (Instr.indexAt 73 t4'.v (Value.int .i64 x7)) fun ad11 =>
          Out (V1 11) ad11 (ldP ad11 w23.drew fun p5 =>
           onSome p5 fun ad12 =>
           Out (V1 14) (ad12.add 1) (ldI .i64 (ad12.add 1) w23.drew fun x9 =>
            newC w23.drew #[s11.v, Value.int .i64 x9] 78 fun ad13 w24 =>
            newC w24 #[Value.pointer (some ad13)] 76 fun ad14 w25 =>
            semS Try.prog (Builtin.append_ #[73, 73] 73 #[t4'.v, (⟨some ad14, 1, 1⟩ : Slc).v]) w25 fun s12 w26 =>
            J0 s10 s12 t15' t16' (IntKind.i64.wrap (t17' + 1)) w26 ∧
            m0 s10 s12 t15' t16' (IntKind.i64.wrap (t17' + 1)) w26 < m0 t3 t4 t15 t16 t17 w_)))))))
     (∃ V2 : Nat → Prop, anyA Try.prog (Instr.indexAt 66 t3'.v (Value.int .i64 x7)) fun ad15 =>
      Out V2 ad15 (ldP ad15 w19.drew fun p6 =>
       anyA Try.prog (Instr.indexAt 73 t4'.v (Value.int .i64 x7)) fun ad16 =>
       Out V2 ad16 (ldP ad16 w19.drew fun p7 =>
        Out V2 t6' (ldI .i64 t6' w19.drew fun x10 =>
         ldI .i64 (t6'.add 1) w19.drew fun x11 =>
         ldI .i64 (t6'.add 2) w19.drew fun x12 =>
         ldS (t6'.add 3) w19.drew fun s13 =>
         Calls Try.prog 42 #[Value.pointer p6, Value.pointer p7, Value.agg #[Value.int .i64 x10, Value.int .i64 x11, Value.int .i64 x12, s13.v]] w19.drew fun e6 w27 =>
         ∃ b2 : Bool, e6 = .returned (Value.bool b2) ∧
         (Bar V2 w19.drew w27 ∧
          (br (!b2)
           (R (.returned (Value.bool false)) w27)
           (J0 t3' t4' t15' t16' (IntKind.i64.wrap (t17' + 1)) w27 ∧
            m0 t3' t4' t15' t16' (IntKind.i64.wrap (t17' + 1)) w27 < m0 t3 t4 t15 t16 t17 w_))))))))) :
    Calls Try.prog 8 #[a0.v] w R := by
  refine calls_of_vc (marks [1000025, 2000024] (surdlaw18_FuelMeters_cut J0 m0 J2 m2 J4 m4 K8)) (by kernel_rfl) Try.func8 rfl ?_ ?_
  · refine kcast h ?_; kernel_rfl
  · exact (obl_seq rfl (obl_reg (obl_seq rfl (obl_reg (obl_seq rfl (obl_reg (obl_seq rfl (obl_seq rfl (obl_reg (obl_loop _ rfl (fun a_ w_ hL_ => (by
    obtain ⟨hz_, hd_, hL_⟩ := atSz_out hL_
    obtain ⟨t3, h3_, hL_⟩ := atS_out hL_
    obtain ⟨t4, h4_, hL_⟩ := atS_out hL_
    obtain ⟨t15, h15_, hL_⟩ := atS_out hL_
    obtain ⟨t16, h16_, hL_⟩ := atI_out hL_
    obtain ⟨t17, h17_, hL_⟩ := atI_out hL_
    obtain ⟨g0, rfl⟩ : ∃ g, a_ = Fr 153 [(3, t3.v), (4, t4.v), (15, t15.v), (16, Value.int .i64 t16), (17, Value.int .i64 t17)] g := ⟨_, fr_of hz_ hd_ [(3, t3.v), (4, t4.v), (15, t15.v), (16, Value.int .i64 t16), (17, Value.int .i64 t17)] (sel_cons h3_ (sel_cons h4_ (sel_cons h15_ (sel_cons h16_ (sel_cons h17_ sel_nil)))))⟩
    clear hz_ hd_ h3_ h4_ h15_ h16_ h17_
    have hJ0_ := hL_
    refine ⟨(marks [1000025, 2000024] (surdlaw18_FuelMeters_cut_0 J0 m0 J2 m2 J4 m4 K8 t3 t4 t15 t16 t17 w_)), kcast (h0 t3 t4 t15 t16 t17 w_ hJ0_) ?_, ?_⟩
    · kernel_rfl
    · exact (obl_seq rfl (obl_reg (obl_seq rfl (obl_cond (obl_skip (obl_exit (obl_seq rfl (obl_blk rfl (obl_seq rfl (obl_reg (obl_seq rfl (obl_join _ rfl (obl_reg (obl_seq rfl (obl_reg (obl_seq rfl (obl_seq rfl (obl_reg (obl_cond (obl_seq rfl (obl_reg (obl_seq rfl (obl_seq rfl (obl_reg (obl_cond (obl_seq rfl (obl_reg (obl_ret (obl_skip (obl_seq rfl (obl_reg (obl_seq rfl (obl_store _ rfl (by kernel_rfl) (obl_exit (obl_skip (obl_seq rfl (obl_held (by kernel_rfl) (by kernel_rfl) (by kernel_rfl) (obl_cond (obl_seq rfl (obl_reg (obl_ret (obl_skip (obl_reg trivial))))))))))))))))))))))))))))))) (fun a_ w__ hL_ => (by
      obtain ⟨hz_, hd_, hL_⟩ := atSz_out hL_
      obtain ⟨t3', h3_, hL_⟩ := atS_out hL_
      obtain ⟨t4', h4_, hL_⟩ := atS_out hL_
      obtain ⟨t6', h6_, hL_⟩ := atA_out hL_
      obtain ⟨t15', h15_, hL_⟩ := atS_out hL_
      obtain ⟨t16', h16_, hL_⟩ := atI_out hL_
      obtain ⟨t17', h17_, hL_⟩ := atI_out hL_
      obtain ⟨t28', h28_, hL_⟩ := atB_out hL_
      obtain ⟨g3000008, rfl⟩ : ∃ g, a_ = Fr 153 [(3, t3'.v), (4, t4'.v), (6, Value.pointer (some t6')), (15, t15'.v), (16, Value.int .i64 t16'), (17, Value.int .i64 t17'), (28, Value.bool t28')] g := ⟨_, fr_of hz_ hd_ [(3, t3'.v), (4, t4'.v), (6, Value.pointer (some t6')), (15, t15'.v), (16, Value.int .i64 t16'), (17, Value.int .i64 t17'), (28, Value.bool t28')] (sel_cons h3_ (sel_cons h4_ (sel_cons h6_ (sel_cons h15_ (sel_cons h16_ (sel_cons h17_ (sel_cons h28_ sel_nil)))))))⟩
      clear hz_ hd_ h3_ h4_ h6_ h15_ h16_ h17_ h28_
      have hJ3000008_ := hL_
      refine ⟨(marks [1000025, 2000024] (surdlaw18_FuelMeters_cut_0 J0 m0 J2 m2 J4 m4 K8 t3 t4 t15 t16 t17 w_)), kcast (h3000008 t3 t4 t15 t16 t17 w_ hJ0_ t3' t4' t6' t15' t16' t17' t28' w__ hJ3000008_) ?_, ?_⟩
      · kernel_rfl
      · exact (obl_cond (obl_seq rfl (obl_reg (obl_seq rfl (obl_reg (obl_seq rfl (obl_seq rfl (obl_reg (obl_cond (obl_seq rfl (obl_reg (obl_ret (obl_skip (obl_seq rfl (obl_seq rfl (obl_reg (obl_loop _ rfl (fun a_ w__ hL_ => (by
        obtain ⟨hz_, hd_, hL_⟩ := atSz_out hL_
        obtain ⟨t3', h3_, hL_⟩ := atS_out hL_
        obtain ⟨t4', h4_, hL_⟩ := atS_out hL_
        obtain ⟨t6', h6_, hL_⟩ := atA_out hL_
        obtain ⟨t8', h8_, hL_⟩ := atS_out hL_
        obtain ⟨t9', h9_, hL_⟩ := atP_out hL_
        obtain ⟨t15', h15_, hL_⟩ := atS_out hL_
        obtain ⟨t16', h16_, hL_⟩ := atI_out hL_
        obtain ⟨t17', h17_, hL_⟩ := atI_out hL_
        obtain ⟨t47', h47_, hL_⟩ := atI_out hL_
        obtain ⟨t48', h48_, hL_⟩ := atI_out hL_
        obtain ⟨g2, rfl⟩ : ∃ g, a_ = Fr 153 [(3, t3'.v), (4, t4'.v), (6, Value.pointer (some t6')), (8, t8'.v), (9, Value.pointer t9'), (15, t15'.v), (16, Value.int .i64 t16'), (17, Value.int .i64 t17'), (47, Value.int .i64 t47'), (48, Value.int .i64 t48')] g := ⟨_, fr_of hz_ hd_ [(3, t3'.v), (4, t4'.v), (6, Value.pointer (some t6')), (8, t8'.v), (9, Value.pointer t9'), (15, t15'.v), (16, Value.int .i64 t16'), (17, Value.int .i64 t17'), (47, Value.int .i64 t47'), (48, Value.int .i64 t48')] (sel_cons h3_ (sel_cons h4_ (sel_cons h6_ (sel_cons h8_ (sel_cons h9_ (sel_cons h15_ (sel_cons h16_ (sel_cons h17_ (sel_cons h47_ (sel_cons h48_ sel_nil))))))))))⟩
        clear hz_ hd_ h3_ h4_ h6_ h8_ h9_ h15_ h16_ h17_ h47_ h48_
        have hJ2_ := hL_
        refine ⟨(marks [1000025, 2000024] (fun _ => none)), kcast (h2 t3 t4 t15 t16 t17 w_ hJ0_ t3' t4' t6' t8' t9' t15' t16' t17' t47' t48' w__ hJ2_) ?_, ?_⟩
        · kernel_rfl
        · exact (obl_seq rfl (obl_reg (obl_seq rfl (obl_cond (obl_skip (obl_exit (obl_seq rfl (obl_blk rfl (obl_seq rfl (obl_reg (obl_reg (obl_reg trivial)))))))))))))) (obl_seq rfl (obl_reg (obl_seq rfl (obl_reg (obl_exit (obl_skip trivial))))))))))))))))))))))))))))))))))))))) (obl_seq rfl (obl_seq rfl (obl_reg (obl_loop _ rfl (fun a_ w_ hL_ => (by
    obtain ⟨hz_, hd_, hL_⟩ := atSz_out hL_
    obtain ⟨t4, h4_, hL_⟩ := atS_out hL_
    obtain ⟨t123, h123_, hL_⟩ := atS_out hL_
    obtain ⟨t124, h124_, hL_⟩ := atI_out hL_
    obtain ⟨t125, h125_, hL_⟩ := atI_out hL_
    obtain ⟨g4, rfl⟩ : ∃ g, a_ = Fr 153 [(4, t4.v), (123, t123.v), (124, Value.int .i64 t124), (125, Value.int .i64 t125)] g := ⟨_, fr_of hz_ hd_ [(4, t4.v), (123, t123.v), (124, Value.int .i64 t124), (125, Value.int .i64 t125)] (sel_cons h4_ (sel_cons h123_ (sel_cons h124_ (sel_cons h125_ sel_nil))))⟩
    clear hz_ hd_ h4_ h123_ h124_ h125_
    have hJ4_ := hL_
    refine ⟨(marks [1000025, 2000024] (fun _ => none)), kcast (h4 t4 t123 t124 t125 w_ hJ4_) ?_, ?_⟩
    · kernel_rfl
    · exact (obl_seq rfl (obl_reg (obl_seq rfl (obl_cond (obl_skip (obl_exit (obl_seq rfl (obl_blk rfl (obl_seq rfl (obl_reg (obl_seq rfl (obl_held (by kernel_rfl) (by kernel_rfl) (by kernel_rfl) (obl_cond (obl_seq rfl (obl_reg (obl_ret (obl_skip (obl_reg trivial)))))))))))))))))))) (obl_seq rfl (obl_reg (obl_ret trivial)))))))))))))))))

def surdlaw18_acted_cut (J1 : Option Addr → Slc → Slc → Slc → Int → Int → World → Prop) (m1 : Option Addr → Slc → Slc → Slc → Int → Int → World → Nat) (J3 : Slc → Bool → Int → Int → World → Prop) (m3 : Slc → Bool → Int → Int → World → Nat) : Nat → Option ((Act → World → Prop) × (Act → World → Nat))
  | 1 => some (fun a_ w_ => atSz a_ 142 (atP a_ 0 fun t0 => atS a_ 11 fun t11 => atS a_ 12 fun t12 => atS a_ 13 fun t13 => atI .i64 a_ 67 fun t67 => atI .i64 a_ 68 fun t68 => J1 t0 t11 t12 t13 t67 t68 w_), fun a_ w_ => mP a_ 0 fun t0 => mS a_ 11 fun t11 => mS a_ 12 fun t12 => mS a_ 13 fun t13 => mI a_ 67 fun t67 => mI a_ 68 fun t68 => m1 t0 t11 t12 t13 t67 t68 w_)
  | 3 => some (fun a_ w_ => atSz a_ 142 (atS a_ 18 fun t18 => atB a_ 20 fun t20 => atI .i64 a_ 133 fun t133 => atI .i64 a_ 134 fun t134 => J3 t18 t20 t133 t134 w_), fun a_ w_ => mS a_ 18 fun t18 => mB a_ 20 fun t20 => mI a_ 133 fun t133 => mI a_ 134 fun t134 => m3 t18 t20 t133 t134 w_)
  | _ => none

set_option maxRecDepth 100000 in
/-- surd/surdlaw18.acted: function 42. -/
theorem surdlaw18_acted_vc (a0 : Option Addr) (a1 : Option Addr) (a2_0 : Int) (a2_1 : Int) (a2_2 : Int) (a2_3 : Slc) (w : World) (R : Ending → World → Prop)
    (J1 : Option Addr → Slc → Slc → Slc → Int → Int → World → Prop) (m1 : Option Addr → Slc → Slc → Slc → Int → Int → World → Nat) (J3 : Slc → Bool → Int → Int → World → Prop) (m3 : Slc → Bool → Int → Int → World → Nat)
    (h : newC w #[Value.int .i64 a2_0, Value.int .i64 a2_1, Value.int .i64 a2_2, a2_3.v] 75 fun ad1 w1 =>
    ldI .i64 ad1 w1 fun x1 =>
    br (x1 == 0)
    (Calls Try.prog 34 #[Value.pointer a0] w1 fun e1 w2 =>
     ∃ x2 : Int, ∃ x3 : Int, e1 = .returned (Value.tuple #[Value.int .i64 x2, Value.int .i64 x3]) ∧
     (Calls Try.prog 56 #[Value.pointer a1] w2 fun e2 w3 =>
      ∃ x4 : Int, ∃ x5 : Int, e2 = .returned (Value.tuple #[Value.int .i64 x4, Value.int .i64 x5]) ∧
      (br (x2 == x4)
       (Calls Try.prog 11 #[Value.int .i64 x3] w3 fun e3 w4 =>
        ∃ x6 : Int, e3 = .returned (Value.int .i64 x6) ∧
        (R (.returned (Value.bool (x6 == x5))) w4))
       (R (.returned (Value.bool false)) w3))))
    (br (x1 == 1)
     (onSome a1 fun ad2 =>
      ldI .i64 (ad2.add 1) w1.drew fun x7 =>
      Calls Try.prog 38 #[Value.pointer a0] w1.drew fun e4 w5 =>
      ∃ x8 : Int, e4 = .returned (Value.int .i64 x8) ∧
      (Ahead w1.drew w5 ∧
       (R (.returned (Value.bool (x8 == x7))) w5)))
     (br (x1 == 2)
      (Calls Try.prog 37 #[Value.pointer a0] w1 fun e5 w6 =>
       ∃ s1 : Slc, e5 = .returned s1.v ∧
       (Calls Try.prog 37 #[Value.pointer a0] w6 fun e6 w7 =>
        ∃ s2 : Slc, e6 = .returned s2.v ∧
        (Calls Try.prog 43 #[Value.pointer a1] w7 fun e7 w8 =>
         ∃ s3 : Slc, e7 = .returned s3.v ∧
         (Calls Try.prog 21 #[s1.v, s3.v] w8 fun e8 w9 =>
          ∃ b1 : Bool, e8 = .returned (Value.bool b1) ∧
          (br (!b1)
           (R (.returned (Value.bool false)) w9)
           (J1 a0 s1 s2 s3 (s1.n : Int) 0 w9))))))
      (br (x1 == 3)
       (Calls Try.prog 39 #[Value.pointer a0] w1 fun e12 w15 =>
        ∃ x9 : Int, e12 = .returned (Value.int .i64 x9) ∧
        (onSome a1 fun ad4 =>
         stC (ad4.add 1) (Value.int .i64 0) w15 fun w16 =>
         Calls Try.prog 11 #[Value.int .i64 x9] w16 fun e13 w17 =>
         ∃ x10 : Int, e13 = .returned (Value.int .i64 x10) ∧
         (R (.returned (Value.bool (x10 == 0))) w17)))
       (br (x1 == 4)
        (ldI .i64 (ad1.add 2) w1 fun x11 =>
         Calls Try.prog 40 #[Value.pointer a0, Value.int .i64 x11] w1 fun e14 w18 =>
         ∃ x12 : Int, e14 = .returned (Value.int .i64 x12) ∧
         (ldI .i64 (ad1.add 2) w18 fun x13 =>
          Calls Try.prog 57 #[Value.pointer a1, Value.int .i64 x13] w18 fun e15 w19 =>
          e15 = .returned (Value.tuple #[]) ∧
          (Calls Try.prog 11 #[Value.int .i64 x12] w19 fun e16 w20 =>
           ∃ x14 : Int, e16 = .returned (Value.int .i64 x14) ∧
           (R (.returned (Value.bool (x14 == 0))) w20))))
        (br (x1 == 5)
         (ldS (ad1.add 3) w1 fun s5 =>
          Calls Try.prog 17 #[s5.v] w1 fun e17 w21 =>
          ∃ s6 : Slc, ∃ s7 : Slc, e17 = .returned (Value.tuple #[s6.v, s7.v]) ∧
          (Calls Try.prog 35 #[Value.pointer a0, s7.v] w21 fun e18 w22 =>
           ∃ x15 : Int, e18 = .returned (Value.int .i64 x15) ∧
           (∃ V1 : Nat → Prop, Out V1 (ad1.add 3) (ldS (ad1.add 3) w22.drew fun s8 =>
             Calls Try.prog 11 #[Value.int .i64 x15] w22.drew fun e19 w23 =>
             ∃ x16 : Int, e19 = .returned (Value.int .i64 x16) ∧
             (Bar V1 w22.drew w23 ∧
              (Calls Try.prog 18 #[s8.v] w23 fun e20 w24 =>
               ∃ s9 : Slc, e20 = .returned s9.v ∧
               (Bar V1 w23 w24 ∧
                (Calls Try.prog 58 #[Value.pointer a1, s9.v] w24 fun e21 w25 =>
                 ∃ x17 : Int, e21 = .returned (Value.int .i64 x17) ∧
                 (Bar V1 w24 w25 ∧
                  (br (x16 == x17)
                   (Out V1 (ad1.add 3) (ldS (ad1.add 3) w25 fun s10 =>
                     Calls Try.prog 27 #[s6.v, s10.v] w25 fun e22 w26 =>
                     ∃ b4 : Bool, e22 = .returned (Value.bool b4) ∧
                     (Bar V1 w25 w26 ∧
                      (J3 s7 b4 (s7.n : Int) 0 w26))))
                   (J3 s7 false (s7.n : Int) 0 w25)))))))))))
         (R (.returned (Value.bool true)) w1)))))))
    (h1 : ∀ (t0 : Option Addr) (t11 : Slc) (t12 : Slc) (t13 : Slc) (t67 : Int) (t68 : Int) (w_ : World), J1 t0 t11 t12 t13 t67 t68 w_ → 
    br (decide (t68 < t67))
    (semA Try.prog (Instr.indexAt 38 t11.v (Value.int .i64 t68)) w_ fun ad3 w10 =>
     stC ad3 (Value.int .i64 0) w10 fun w11 =>
     J1 t0 t11 t12 t13 t67 (IntKind.i64.wrap (t68 + 1)) w11 ∧
     m1 t0 t11 t12 t13 t67 (IntKind.i64.wrap (t68 + 1)) w11 < m1 t0 t11 t12 t13 t67 t68 w_)
    (Calls Try.prog 21 #[t12.v, t13.v] w_ fun e9 w12 =>
     ∃ b2 : Bool, e9 = .returned (Value.bool b2) ∧
     (br b2
      (Calls Try.prog 37 #[Value.pointer t0] w12 fun e10 w13 =>
       ∃ s4 : Slc, e10 = .returned s4.v ∧
       (Calls Try.prog 21 #[s4.v, t13.v] w13 fun e11 w14 =>
        ∃ b3 : Bool, e11 = .returned (Value.bool b3) ∧
        (R (.returned (Value.bool b3)) w14)))
      (R (.returned (Value.bool false)) w12))))
    (h3 : ∀ (t18 : Slc) (t20 : Bool) (t133 : Int) (t134 : Int) (w_ : World), J3 t18 t20 t133 t134 w_ → 
    br (decide (t134 < t133))
    (semA Try.prog (Instr.indexAt 25 t18.v (Value.int .i64 t134)) w_ fun ad5 w27 =>
     stC ad5 (Value.int .u64 0) w27 fun w28 =>
     J3 t18 t20 t133 (IntKind.i64.wrap (t134 + 1)) w28 ∧
     m3 t18 t20 t133 (IntKind.i64.wrap (t134 + 1)) w28 < m3 t18 t20 t133 t134 w_)
    (R (.returned (Value.bool t20)) w_)) :
    Calls Try.prog 42 #[Value.pointer a0, Value.pointer a1, Value.agg #[Value.int .i64 a2_0, Value.int .i64 a2_1, Value.int .i64 a2_2, a2_3.v]] w R := by
  refine calls_of_vc (marks [1000030] (surdlaw18_acted_cut J1 m1 J3 m3)) (by kernel_rfl) Try.func42 rfl ?_ ?_
  · refine kcast h ?_; kernel_rfl
  · exact (obl_seq rfl (obl_reg (obl_seq rfl (obl_seq rfl (obl_reg (obl_blk rfl (obl_seq rfl (obl_reg (obl_cond (obl_seq rfl (obl_reg (obl_seq rfl (obl_reg (obl_seq rfl (obl_reg (obl_ret (obl_seq rfl (obl_reg (obl_cond (obl_seq rfl (obl_held (by kernel_rfl) (by kernel_rfl) (by kernel_rfl) (obl_ret (obl_seq rfl (obl_reg (obl_cond (obl_seq rfl (obl_reg (obl_seq rfl (obl_reg (obl_seq rfl (obl_seq rfl (obl_reg (obl_cond (obl_seq rfl (obl_reg (obl_ret (obl_skip (obl_seq rfl (obl_seq rfl (obl_reg (obl_loop _ rfl (fun a_ w_ hL_ => (by
    obtain ⟨hz_, hd_, hL_⟩ := atSz_out hL_
    obtain ⟨t0, h0_, hL_⟩ := atP_out hL_
    obtain ⟨t11, h11_, hL_⟩ := atS_out hL_
    obtain ⟨t12, h12_, hL_⟩ := atS_out hL_
    obtain ⟨t13, h13_, hL_⟩ := atS_out hL_
    obtain ⟨t67, h67_, hL_⟩ := atI_out hL_
    obtain ⟨t68, h68_, hL_⟩ := atI_out hL_
    obtain ⟨g1, rfl⟩ : ∃ g, a_ = Fr 142 [(0, Value.pointer t0), (11, t11.v), (12, t12.v), (13, t13.v), (67, Value.int .i64 t67), (68, Value.int .i64 t68)] g := ⟨_, fr_of hz_ hd_ [(0, Value.pointer t0), (11, t11.v), (12, t12.v), (13, t13.v), (67, Value.int .i64 t67), (68, Value.int .i64 t68)] (sel_cons h0_ (sel_cons h11_ (sel_cons h12_ (sel_cons h13_ (sel_cons h67_ (sel_cons h68_ sel_nil))))))⟩
    clear hz_ hd_ h0_ h11_ h12_ h13_ h67_ h68_
    have hJ1_ := hL_
    refine ⟨(marks [1000030] (fun _ => none)), kcast (h1 t0 t11 t12 t13 t67 t68 w_ hJ1_) ?_, ?_⟩
    · kernel_rfl
    · exact (obl_seq rfl (obl_reg (obl_seq rfl (obl_cond (obl_skip (obl_exit (obl_seq rfl (obl_blk rfl (obl_seq rfl (obl_reg (obl_reg (obl_reg trivial)))))))))))))) (obl_seq rfl (obl_reg (obl_ret (obl_seq rfl (obl_reg (obl_cond (obl_seq rfl (obl_reg (obl_seq rfl (obl_reg (obl_seq rfl (obl_reg (obl_ret (obl_seq rfl (obl_reg (obl_cond (obl_seq rfl (obl_reg (obl_seq rfl (obl_reg (obl_seq rfl (obl_reg (obl_ret (obl_seq rfl (obl_reg (obl_cond (obl_seq rfl (obl_reg (obl_seq rfl (obl_reg (obl_seq rfl (obl_held (by kernel_rfl) (by kernel_rfl) (by kernel_rfl) (obl_seq rfl (obl_seq rfl (obl_reg (obl_loop _ rfl (fun a_ w_ hL_ => (by
    obtain ⟨hz_, hd_, hL_⟩ := atSz_out hL_
    obtain ⟨t18, h18_, hL_⟩ := atS_out hL_
    obtain ⟨t20, h20_, hL_⟩ := atB_out hL_
    obtain ⟨t133, h133_, hL_⟩ := atI_out hL_
    obtain ⟨t134, h134_, hL_⟩ := atI_out hL_
    obtain ⟨g3, rfl⟩ : ∃ g, a_ = Fr 142 [(18, t18.v), (20, Value.bool t20), (133, Value.int .i64 t133), (134, Value.int .i64 t134)] g := ⟨_, fr_of hz_ hd_ [(18, t18.v), (20, Value.bool t20), (133, Value.int .i64 t133), (134, Value.int .i64 t134)] (sel_cons h18_ (sel_cons h20_ (sel_cons h133_ (sel_cons h134_ sel_nil))))⟩
    clear hz_ hd_ h18_ h20_ h133_ h134_
    have hJ3_ := hL_
    refine ⟨(marks [1000030] (fun _ => none)), kcast (h3 t18 t20 t133 t134 w_ hJ3_) ?_, ?_⟩
    · kernel_rfl
    · exact (obl_seq rfl (obl_reg (obl_seq rfl (obl_cond (obl_skip (obl_exit (obl_seq rfl (obl_blk rfl (obl_seq rfl (obl_reg (obl_reg (obl_reg trivial)))))))))))))) (obl_seq rfl (obl_reg (obl_ret (obl_skip (obl_seq rfl (obl_reg (obl_ret trivial))))))))))))))))))))))))))))))))))))))))))))))))))))))))))))))))))))))))))))))))))))

set_option maxRecDepth 100000 in
/-- (*surd/surdref18.Meter).Left: function 43. -/
theorem surdref18_Meter_Left_vc (a0_m : Option Addr) (w : World) (R : Ending → World → Prop)
    
    (h : onSome a0_m fun ad1 =>
    ldS ad1 w.drew fun s1 =>
    onSome a0_m fun ad2 =>
    ldI .i64 (ad2.add 1) w.drew fun x1 =>
    Calls Try.prog 19 #[s1.v] w.drew fun e1 w1 =>
    ∃ s2 : Slc, e1 = .returned s2.v ∧
    (Ahead w.drew w1 ∧
     (fixS Try.prog (Instr.sliceAt 38 s2.v (some (Value.int .i64 x1)) none none) w1 fun s3 =>
      R (.returned s3.v) w1))) :
    Calls Try.prog 43 #[Value.pointer a0_m] w R := by
  refine calls_of_vc (fun _ => none) (by kernel_rfl) Try.func43 rfl ?_ ?_
  · refine kcast h ?_; kernel_rfl
  · exact (obl_seq rfl (obl_reg (obl_seq rfl (obl_held (by kernel_rfl) (by kernel_rfl) (by kernel_rfl) (obl_ret trivial)))))

set_option maxRecDepth 100000 in
/-- (*surd/surdref18.Meter).Next: function 56. -/
theorem surdref18_Meter_Next_vc (a0_m : Option Addr) (w : World) (R : Ending → World → Prop)
    
    (h : onSome a0_m fun ad1 =>
    ldS ad1 w fun s1 =>
    Calls Try.prog 19 #[s1.v] w fun e1 w1 =>
    ∃ s2 : Slc, e1 = .returned s2.v ∧
    (onSome a0_m fun ad2 =>
     ldI .i64 (ad2.add 1) w1 fun x1 =>
     br (decide (x1 ≥ (s2.n : Int)))
     (R (.returned (Value.tuple #[Value.int .i64 0, Value.int .i64 180])) w1)
     (onSome a0_m fun ad3 =>
      ldI .i64 (ad3.add 1) w1 fun x2 =>
      onSome a0_m fun ad4 =>
      stC (ad4.add 1) (Value.int .i64 (IntKind.i64.wrap (x2 + 1))) w1 fun w2 =>
      onSome a0_m fun ad5 =>
      ldI .i64 (ad5.add 1) w2 fun x3 =>
      semA Try.prog (Instr.indexAt 38 s2.v (Value.int .i64 (IntKind.i64.wrap (x3 - 1)))) w2 fun ad6 w3 =>
      ldI .i64 ad6 w3 fun x4 =>
      R (.returned (Value.tuple #[Value.int .i64 x4, Value.int .i64 0])) w3))) :
    Calls Try.prog 56 #[Value.pointer a0_m] w R := by
  refine calls_of_vc (fun _ => none) (by kernel_rfl) Try.func56 rfl ?_ ?_
  · refine kcast h ?_; kernel_rfl
  · exact (obl_seq rfl (obl_reg (obl_seq rfl (obl_reg (obl_seq rfl (obl_seq rfl (obl_reg (obl_cond (obl_seq rfl (obl_reg (obl_ret (obl_skip (obl_seq rfl (obl_reg (obl_seq rfl (obl_reg (obl_ret trivial)))))))))))))))))

def surdref18_Meter_Skip_cut (J0 : Option Addr → Int → Slc → World → Prop) (m0 : Option Addr → Int → Slc → World → Nat) : Nat → Option ((Act → World → Prop) × (Act → World → Nat))
  | 0 => some (fun a_ w_ => atSz a_ 35 (atP a_ 0 fun t0_m => atI .i64 a_ 1 fun t1_p => atS a_ 4 fun t4_l => J0 t0_m t1_p t4_l w_), fun a_ w_ => mP a_ 0 fun t0_m => mI a_ 1 fun t1_p => mS a_ 4 fun t4_l => m0 t0_m t1_p t4_l w_)
  | _ => none

set_option maxRecDepth 100000 in
/-- (*surd/surdref18.Meter).Skip: function 57. -/
theorem surdref18_Meter_Skip_vc (a0_m : Option Addr) (a1_p : Int) (w : World) (R : Ending → World → Prop)
    (J0 : Option Addr → Int → Slc → World → Prop) (m0 : Option Addr → Int → Slc → World → Nat)
    (h : onSome a0_m fun ad1 =>
    ldS ad1 w fun s1 =>
    Calls Try.prog 19 #[s1.v] w fun e1 w1 =>
    ∃ s2 : Slc, e1 = .returned s2.v ∧
    (J0 a0_m a1_p s2 w1))
    (h0 : ∀ (t0_m : Option Addr) (t1_p : Int) (t4_l : Slc) (w_ : World), J0 t0_m t1_p t4_l w_ → 
    onSome t0_m fun ad2 =>
    ldI .i64 (ad2.add 1) w_ fun x1 =>
    br (decide (x1 < (t4_l.n : Int)))
    (onSome t0_m fun ad3 =>
     ldI .i64 (ad3.add 1) w_ fun x2 =>
     semA Try.prog (Instr.indexAt 38 t4_l.v (Value.int .i64 x2)) w_ fun ad4 w2 =>
     ldI .i64 ad4 w2 fun x3 =>
     br (decide (x3 < t1_p))
     (onSome t0_m fun ad5 =>
      ldI .i64 (ad5.add 1) w2 fun x4 =>
      onSome t0_m fun ad6 =>
      stC (ad6.add 1) (Value.int .i64 (IntKind.i64.wrap (x4 + 1))) w2 fun w3 =>
      J0 t0_m t1_p t4_l w3 ∧
      m0 t0_m t1_p t4_l w3 < m0 t0_m t1_p t4_l w_)
     (R (.returned (Value.tuple #[])) w2))
    (R (.returned (Value.tuple #[])) w_)) :
    Calls Try.prog 57 #[Value.pointer a0_m, Value.int .i64 a1_p] w R := by
  refine calls_of_vc (surdref18_Meter_Skip_cut J0 m0) (by kernel_rfl) Try.func57 rfl ?_ ?_
  · refine kcast h ?_; kernel_rfl
  · exact (obl_seq rfl (obl_reg (obl_loop _ rfl (fun a_ w_ hL_ => (by
    obtain ⟨hz_, hd_, hL_⟩ := atSz_out hL_
    obtain ⟨t0_m, h0_, hL_⟩ := atP_out hL_
    obtain ⟨t1_p, h1_, hL_⟩ := atI_out hL_
    obtain ⟨t4_l, h4_, hL_⟩ := atS_out hL_
    obtain ⟨g0, rfl⟩ : ∃ g, a_ = Fr 35 [(0, Value.pointer t0_m), (1, Value.int .i64 t1_p), (4, t4_l.v)] g := ⟨_, fr_of hz_ hd_ [(0, Value.pointer t0_m), (1, Value.int .i64 t1_p), (4, t4_l.v)] (sel_cons h0_ (sel_cons h1_ (sel_cons h4_ sel_nil)))⟩
    clear hz_ hd_ h0_ h1_ h4_
    have hJ0_ := hL_
    refine ⟨(fun _ => none), kcast (h0 t0_m t1_p t4_l w_ hJ0_) ?_, ?_⟩
    · kernel_rfl
    · exact (obl_seq rfl (obl_seq rfl (obl_reg (obl_cond (obl_skip (obl_exit (obl_blk rfl (obl_reg trivial)))))))))) trivial)))

set_option maxRecDepth 100000 in
/-- (*surd/surdref18.Meter).Add: function 58. -/
theorem surdref18_Meter_Add_vc (a0_m : Option Addr) (a1_f : Slc) (w : World) (R : Ending → World → Prop)
    
    (h : onSome a0_m fun ad1 =>
    ldS ad1 w fun s1 =>
    Calls Try.prog 36 #[s1.v, a1_f.v] w fun e1 w1 =>
    ∃ s2 : Slc, e1 = .returned s2.v ∧
    (Calls Try.prog 66 #[s2.v] w1 fun e2 w2 =>
     ∃ x1 : Int, e2 = .returned (Value.int .i64 x1) ∧
     (br (decide (x1 > 67108864))
      (R (.returned (Value.int .i64 3)) w2)
      (onSome a0_m fun ad2 =>
       stC ad2 s2.v w2 fun w3 =>
       R (.returned (Value.int .i64 0)) w3)))) :
    Calls Try.prog 58 #[Value.pointer a0_m, a1_f.v] w R := by
  refine calls_of_vc (fun _ => none) (by kernel_rfl) Try.func58 rfl ?_ ?_
  · refine kcast h ?_; kernel_rfl
  · exact (obl_seq rfl (obl_reg (obl_seq rfl (obl_reg (obl_seq rfl (obl_seq rfl (obl_reg (obl_cond (obl_seq rfl (obl_reg (obl_ret (obl_skip (obl_seq rfl (obl_reg (obl_seq rfl (obl_reg (obl_ret trivial)))))))))))))))))

end Go.Proofs.Ytflipimlpgbnmaa
namespace Go.Proofs.Ytflipimlpgbnmaa
open Go Go.RowKit Eng Sp Dg
set_option linter.unusedVariables false
set_option linter.unusedSimpArgs false
set_option maxRecDepth 100000
namespace Fuel
open _root_.Go.Proofs.Ytflipimlpgbnmaa.Nat (Yes num_spec end_awake Num Num.ahead OwnNil OwnNil.rd OwnNil.ahead OwnI OwnI.rd OwnI.ahead OwnI.mono OwnI.nil atts tw tw_length tw_getD tw_succ atts_le atts_lt pow16 Attempts_spec alike_spec bigC num_of add_num own_num digs_len_bl lit_rd)
open _root_.Go.Proofs.Ytflipimlpgbnmaa.Ref (RN RN.ahead Of_spec Cmp_spec Int_spec Add_specN Len_spec len32 bl_len32)
open Sb

structure Stq (V : Nat → Prop) (w w' : World) : Prop where
  bar : Bar V w w'
  rd : ∀ s l, Rd .u64 w s l → Rd .u64 w' s l
theorem Stq.of_ahead {V : Nat → Prop} {w w' : World} (h : Ahead w w') : Stq V w w' := ⟨Bar.of_ahead h, fun _ _ hr => hr.ahead h⟩
theorem Stq.trans {V : Nat → Prop} {x y z : World} (h : Stq V x y) (k : Stq V y z) : Stq V x z := ⟨h.bar.trans k.bar, fun s l hr => k.rd s l (h.rd s l hr)⟩
theorem Stq.of_stp {V : Nat → Prop} {b : Nat} {w w' : World} (h : Stp b w w') (hb : V b) : Stq V w w' :=
  ⟨⟨h.bar.os, h.bar.tape, h.bar.output, h.bar.size, fun k hk hv => h.bar.block k hk (fun e => hv (e ▸ hb))⟩, h.rd⟩
theorem Stq.blk {V : Nat → Prop} {w w' : World} {q : Nat} {cs : Array Value} (h : Stq V w w') (hb : Blk w q cs) (hq : ¬ V q) : Blk w' q cs := by
  have hl := hb.lt
  obtain ⟨t, hb⟩ := hb
  exact ⟨t, by rw [h.bar.block q hl hq]; exact hb⟩
theorem Stp.blk {b : Nat} {w w' : World} {q : Nat} {cs : Array Value} (h : Stp b w w') (hb : Blk w q cs) (hq : q ≠ b) : Blk w' q cs := by
  have hl := hb.lt
  obtain ⟨t, hb⟩ := hb
  exact ⟨t, by rw [h.bar.block q hl hq]; exact hb⟩

/-- The document's meter. -/
def Rt (Q : Slc → Prop) (w : World) (b : Nat) (N k : Nat) : Prop := ∃ s : Slc, Q s ∧ Blk w b #[s.v, .int .i64 (k : Int)] ∧ RN w s N
theorem Rt.ahead {Q : Slc → Prop} {w w' : World} {b N k : Nat} (h : Rt Q w b N k) (ha : Ahead w w') : Rt Q w' b N k := by
  obtain ⟨s, hq, h1, h2⟩ := h; exact ⟨s, hq, h1.ahead ha, h2.ahead ha⟩
theorem Rt.lt {Q : Slc → Prop} {w : World} {b N k : Nat} (h : Rt Q w b N k) : b < w.heap.size := by obtain ⟨s, _, h1, _⟩ := h; exact h1.lt
theorem Rt.mono {Q Q' : Slc → Prop} {w : World} {b N k : Nat} (h : Rt Q w b N k) (hq : ∀ s, Q s → Q' s) : Rt Q' w b N k := by obtain ⟨s, h0, h1, h2⟩ := h; exact ⟨s, hq s h0, h1, h2⟩
/-- A made meter whose fuel lies as Q says. -/
def Mq (Q : Slc → Prop) (w : World) (b N k : Nat) : Prop := ∃ s : Slc, Q s ∧ Blk w b #[s.v, .int .i64 (k : Int), .bool true] ∧ Num w s N
theorem Mq.mt {Q : Slc → Prop} {w : World} {b N k : Nat} (h : Mq Q w b N k) : Mt w b N k := by obtain ⟨s, _, h1, h2⟩ := h; exact ⟨s, h1, h2⟩
theorem Mq.ahead {Q : Slc → Prop} {w w' : World} {b N k : Nat} (h : Mq Q w b N k) (ha : Ahead w w') : Mq Q w' b N k := by
  obtain ⟨s, hq, h1, h2⟩ := h; exact ⟨s, hq, h1.ahead ha, h2.ahead ha⟩
theorem Mq.lt {Q : Slc → Prop} {w : World} {b N k : Nat} (h : Mq Q w b N k) : b < w.heap.size := h.mt.lt
theorem Mq.mono {Q Q' : Slc → Prop} {w : World} {b N k : Nat} (h : Mq Q w b N k) (hq : ∀ s, Q s → Q' s) : Mq Q' w b N k := by obtain ⟨s, h0, h1, h2⟩ := h; exact ⟨s, hq s h0, h1, h2⟩
theorem Stp.mt {Q : Slc → Prop} {b q : Nat} {w w' : World} {N k : Nat} (h : Stp b w w') (hm : Mq Q w q N k) (hq : q ≠ b) : Mq Q w' q N k := by
  obtain ⟨s, h0, h1, h2⟩ := hm; exact ⟨s, h0, h.blk h1 hq, h.num h2⟩
theorem Stp.rt {Q : Slc → Prop} {b q : Nat} {w w' : World} {N k : Nat} (h : Stp b w w') (hm : Rt Q w q N k) (hq : q ≠ b) : Rt Q w' q N k := by
  obtain ⟨s, h0, h1, h2⟩ := hm; exact ⟨s, h0, h.blk h1 hq, h.rd _ _ h2⟩

theorem Told_spec {w : World} {b N k : Nat} (h : Mt w b N k) : Calls pr fuel_Meter_Told_id #[.pointer (some ⟨b, 0, none⟩)] w fun e w' => w' = w ∧ e = .returned (.int .i64 (k : Int)) := by
  refine fuel_Meter_Told_vc _ w _ (Calls.mono (is_yes h) ?_)
  rintro e w1 ⟨rfl, rfl⟩
  obtain ⟨t, h1, h2⟩ := h
  exact ⟨_, rfl, br_false rfl (ldI_b 1 h1 rfl ⟨rfl, rfl⟩)⟩
theorem Reset_spec {Q : Slc → Prop} {w : World} {b N k : Nat} (h : Mq Q w b N k) : Calls pr fuel_Meter_Reset_id #[.pointer (some ⟨b, 0, none⟩)] w fun e w' => Stp b w w' ∧ e = .returned (.int .i64 0) ∧ Mq Q w' b N 0 := by
  refine fuel_Meter_Reset_vc _ w _ (Calls.mono (is_yes h.mt) ?_)
  rintro e w1 ⟨rfl, rfl⟩
  obtain ⟨t, hq, h1, h2⟩ := h
  refine ⟨_, rfl, br_false rfl (onSome_intro rfl (stC_b 1 h1 (by simp) rfl fun w2 u2 B2 => ?_))⟩
  exact ⟨Stp.of_upd u2, rfl, t, hq, by simpa using B2, (Stp.of_upd u2).num h2⟩
theorem Fork_spec {Q : Slc → Prop} {w : World} {b N k : Nat} (h : Mq Q w b N k) : Calls pr fuel_Meter_Fork_id #[.pointer (some ⟨b, 0, none⟩)] w fun e w' => Ahead w w' ∧ ∃ c, e = .returned (.pointer (some ⟨c, 0, none⟩)) ∧ w.heap.size ≤ c ∧ Mq Q w' c N k := by
  refine fuel_Meter_Fork_vc _ w _ (Calls.mono (is_yes h.mt) ?_)
  rintro e w1 ⟨rfl, rfl⟩
  obtain ⟨t, hq, h1, h2⟩ := h
  refine ⟨_, rfl, br_false rfl (ldS_b 0 h1 rfl (ldI_b 1 h1 rfl (ldB_b 2 h1 rfl (newC_b fun c w2 hc a2 hs2 B => ?_))))⟩
  refine stC_b 0 B (by simp) rfl fun w3 u3 B3 => stC_b 1 B3 (by simp) rfl fun w4 u4 B4 => stC_b 2 B4 (by simp) rfl fun w5 u5 B5 => ?_
  have u := (u3.trans u4).trans u5
  exact ⟨u.ahead a2 (by omega), c, rfl, by omega, t, hq, by simpa using B5, (Stp.of_upd u).num (h2.ahead a2)⟩
/-- Add, with the place of the new fuel. -/
theorem fuel_addL {w : World} {b N M k : Nat} {s t : Slc} (h1 : Blk w b #[t.v, .int .i64 (k : Int), .bool true]) (h2 : Num w t N) (hs : Num w s M) : Calls pr fuel_Meter_Add_id #[.pointer (some ⟨b, 0, none⟩), s.v] w fun e w' => Stp b w w' ∧ e = .returned (.int .i64 (bigC (N + M))) ∧
    ∃ u, Blk w' b #[u.v, .int .i64 (k : Int), .bool true] ∧ Num w' u (if bigC (N + M) = 0 then N + M else N) ∧ (u = t ∨ ∀ ad, u.A = some ad → w.heap.size ≤ ad.block) := by
  refine fuel_Meter_Add_vc _ s w _ (Calls.mono (is_yes ⟨t, h1, h2⟩) ?_)
  rintro e w1 ⟨rfl, rfl⟩
  refine ⟨_, rfl, br_false rfl (ldS_b 0 h1 rfl (Calls.mono (add_num h2 hs) ?_))⟩
  rintro e w2 ⟨a2, u, rfl, ou⟩
  refine ⟨_, _, rfl, br_intro (fun hc => ?_) (fun hc => ?_)⟩
  · have hc' : bigC (N + M) ≠ 0 := by simpa using hc
    exact ⟨Stp.of_ahead a2, rfl, t, h1.ahead a2, by rw [if_neg hc']; exact h2.ahead a2, .inl rfl⟩
  · have hc' : bigC (N + M) = 0 := by simpa using hc
    have hbl : bl (N + M) ≤ 67108864 := by
      unfold bigC at hc'
      split at hc' <;> omega
    rw [if_pos hc'] at ou
    have nu := own_num ou hbl
    refine onSome_intro rfl (stC_b 0 (h1.ahead a2) (by simp) rfl fun w3 u3 B3 => ?_)
    refine ⟨(Stp.of_ahead a2).trans (Stp.of_upd u3), by rw [hc'], u, by simpa using B3, by rw [if_pos hc']; exact (Stp.of_upd u3).num nu, .inr fun ad e => ?_⟩
    rcases ou with ⟨rfl, _⟩ | ⟨q, q1, _, q3⟩
    · cases e
    · have := Option.some.inj (q3.A.symm.trans e)
      subst this; exact q1

theorem NextQ_spec {Q : Slc → Prop} {w : World} {b N k : Nat} (h : Mq Q w b N k) : Calls pr fuel_Meter_Next_id #[.pointer (some ⟨b, 0, none⟩)] w fun e w' => Stp b w w' ∧
    e = .returned (.tuple #[.int .i64 (if k < atts N then ((64 * 2 ^ k : Nat) : Int) else 0), .int .i64 (if k < atts N then 0 else 180)]) ∧ Mq Q w' b N (if k < atts N then k + 1 else k) := by
  have hle := atts_le N
  refine fuel_Meter_Next_vc _ w _ (Calls.mono (is_yes h.mt) ?_)
  rintro e w1 ⟨rfl, rfl⟩
  refine ⟨_, rfl, br_false rfl (Calls.mono (left_spec h.mt) ?_)⟩
  rintro e w2 ⟨a2, t, rfl, rt, ht⟩
  have hn : t.n = atts N - min k (atts N) := by rw [rt.n, List.length_drop, tw_length]
  refine ⟨_, rfl, br_intro (fun hz => ?_) (fun hz => ?_)⟩
  · have hz' : t.n = 0 := by simpa using hz
    rw [if_neg (by omega), if_neg (by omega), if_neg (by omega)]
    exact ⟨Stp.of_ahead a2, rfl, h.ahead a2⟩
  · have hz' : t.n ≠ 0 := by simpa using hz
    have hk : k < atts N := by omega
    rw [if_pos hk, if_pos hk, if_pos hk]
    have hb := h.lt
    obtain ⟨s, hq, h1, h2⟩ := h
    refine ldI_b (x := (k : Int)) 1 (h1.ahead a2) rfl (stC_b 1 (h1.ahead a2) (by simp) rfl fun w3 u3 B3 => ?_)
    rw [wrap_i64 (by omega) (by omega)] at B3
    have st3 : Stp b w2 w3 := Stp.of_upd u3
    have rt3 : Rd .i64 w3 t ((tw (atts N)).drop (min k (atts N))) := ⟨rt.n, rt.c, fun i hi => by
      obtain ⟨ad, e, hc⟩ := rt.get i hi
      exact ⟨ad, e, u3.cell (by rw [Eng.add_block]; have := ht ad e; omega) hc⟩⟩
    refine ix_ld (e := tInt) (k := .i64) (by kernel_rfl) rt3 (by omega) (by rw [List.length_drop, tw_length]; omega) ?_
    refine ⟨(Stp.of_ahead a2).trans st3, ?_, s, hq, by simpa using B3, st3.num (h2.ahead a2)⟩
    have : ((tw (atts N)).drop (min k (atts N))).getD 0 0 = ((64 * 2 ^ k : Nat) : Int) := by
      rw [List.getD_eq_getElem?_getD, List.getElem?_drop, ← List.getD_eq_getElem?_getD, show min k (atts N) + 0 = k by omega, tw_getD hk]
    rw [show (0 : Int).toNat = 0 from rfl, this]

/-- How many of the next j are below p. -/
def cn (p : Int) (k : Nat) : Nat → Nat
  | 0 => 0
  | j + 1 => cn p k j + if ((64 * 2 ^ (k + j) : Nat) : Int) < p then 1 else 0
theorem cn_min {p : Int} {k j A : Nat} (h1 : ∀ i, i < j → ((64 * 2 ^ (k + i) : Nat) : Int) < p) (h2 : k + j = A ∨ ¬ ((64 * 2 ^ (k + j) : Nat) : Int) < p) : ∀ m, k + m ≤ A → cn p k m = min m j
  | 0, _ => by simp [cn]
  | m + 1, hm => by
    have ih := cn_min h1 h2 m (by omega)
    rw [cn, ih]
    rcases Nat.lt_or_ge m j with h | h
    · rw [if_pos (h1 m h)]; omega
    · have h3 : ¬ ((64 * 2 ^ (k + m) : Nat) : Int) < p := by
        rcases h2 with h2 | h2
        · omega
        · have := pow_le (show k + j ≤ k + m by omega); omega
      rw [if_neg h3]; omega
theorem cn_le (p : Int) (k : Nat) : ∀ j, cn p k j ≤ j
  | 0 => Nat.le_refl _
  | j + 1 => by have := cn_le p k j; rw [cn]; split <;> omega
def sk (p : Int) (N k : Nat) : Nat := k + cn p k (atts N - k)
theorem sk_le {p : Int} {N k : Nat} (h : k ≤ atts N) : sk p N k ≤ atts N := by
  have := cn_le p k (atts N - k)
  unfold sk; omega
theorem Skip_spec {Q : Slc → Prop} {w : World} {b N k : Nat} {p : Int} (h : Mq Q w b N k) (hk : k ≤ atts N) : Calls pr fuel_Meter_Skip_id #[.pointer (some ⟨b, 0, none⟩), .int .i64 p] w fun e w' => Stp b w w' ∧ e = .returned (.int .i64 0) ∧ Mq Q w' b N (sk p N k) := by
  have hle := atts_le N
  refine fuel_Meter_Skip_vc _ p w _ (fun m q t n i w' => m = some ⟨b, 0, none⟩ ∧ q = p ∧ n = ((atts N - k : Nat) : Int) ∧ ∃ j : Nat, i = (j : Int) ∧ j ≤ atts N - k ∧ Stp b w w' ∧ Mq Q w' b N (k + cn p k j) ∧ Rd .i64 w' t ((tw (atts N)).drop k) ∧ ∀ ad, t.A = some ad → w.heap.size ≤ ad.block) (fun _ _ _ n i _ => (n - i).toNat) ?_ ?_
  · refine Calls.mono (is_yes h.mt) ?_
    rintro e w1 ⟨rfl, rfl⟩
    refine ⟨_, rfl, br_false rfl (Calls.mono (left_spec h.mt) ?_)⟩
    rintro e w2 ⟨a2, t, rfl, rt, ht⟩
    rw [Nat.min_eq_left hk] at rt
    have hn : t.n = atts N - k := by rw [rt.n, List.length_drop, tw_length]
    exact ⟨_, rfl, rfl, rfl, by rw [hn], 0, rfl, Nat.zero_le _, Stp.of_ahead a2, h.ahead a2, rt, ht⟩
  · rintro _ p t n i w1 ⟨rfl, rfl, rfl, j, rfl, hj, st, hm, rt, ht⟩
    have hb := h.lt
    refine br_intro (fun hlt => ?_) (fun hge => ?_)
    · have hj' : j < atts N - k := by have := of_decide_eq_true hlt; omega
      refine ix_ld (e := tInt) (k := .i64) (by kernel_rfl) rt (by omega) (by rw [List.length_drop, tw_length]; omega) ?_
      have e1 : ((tw (atts N)).drop k).getD ((j : Int)).toNat 0 = ((64 * 2 ^ (k + j) : Nat) : Int) := by
        rw [List.getD_eq_getElem?_getD, List.getElem?_drop, ← List.getD_eq_getElem?_getD, Int.toNat_natCast, tw_getD (by omega)]
      have e8 : IntKind.i64.wrap ((j : Int) + 1) = ((j + 1 : Nat) : Int) := by rw [wrap_i64 (by omega) (by omega)]; omega
      rw [e1, e8]
      refine br_intro (fun hp => ?_) (fun hp => ?_)
      · obtain ⟨s, hq, h1, h2⟩ := hm
        have hc := cn_le p k j
        refine onSome_intro rfl (ldI_b 1 h1 rfl (onSome_intro rfl (stC_b 1 h1 (by simp) rfl fun w3 u3 B3 => ?_)))
        rw [wrap_i64 (by omega) (by omega)] at B3
        have st3 : Stp b w1 w3 := Stp.of_upd u3
        have rt3 : Rd .i64 w3 t ((tw (atts N)).drop k) := ⟨rt.n, rt.c, fun i hi => by
          obtain ⟨ad, e, hc⟩ := rt.get i hi
          exact ⟨ad, e, u3.cell (by rw [Eng.add_block]; have := ht ad e; omega) hc⟩⟩
        refine ⟨⟨rfl, rfl, rfl, j + 1, rfl, hj', st.trans st3, ⟨s, hq, ?_, st3.num h2⟩, rt3, ht⟩, by omega⟩
        rw [cn, if_pos (of_decide_eq_true hp)]
        have e9 : ((k + (cn p k j + 1) : Nat) : Int) = ((k + cn p k j : Nat) : Int) + 1 := by omega
        rw [e9]
        simpa using B3
      · refine ⟨⟨rfl, rfl, rfl, j + 1, rfl, hj', st, ?_, rt, ht⟩, by omega⟩
        rw [cn, if_neg (of_decide_eq_false hp), Nat.add_zero]
        exact hm
    · have hj' : j = atts N - k := by have := of_decide_eq_false hge; omega
      subst hj'
      exact ⟨st, rfl, hm⟩

theorem rAttempts_spec {w : World} {p : Slc} {N : Nat} (hp : RN w p N) (hl : (digs B32 N).length ≤ 2 ^ 46) :
    Calls pr surdref18_Attempts_id #[p.v] w fun e w' => Ahead w w' ∧ ∃ s, e = .returned (Slc.v s) ∧ OwnI w.heap.size w' s (tw (atts N)) := by
  have hB := B64v
  have hle := atts_le N
  refine surdref18_Attempts_vc p w _ (fun t0 t3 t6 w' => t0 = p ∧ ∃ i : Nat, t6 = ((64 * 2 ^ i : Nat) : Int) ∧ i ≤ atts N ∧ Ahead w w' ∧ OwnI w.heap.size w' t3 (tw i)) (fun _ _ q _ => (5000000 - q).toNat)
    ⟨rfl, 0, rfl, Nat.zero_le _, Ahead.refl _, OwnI.nil⟩ ?_
  rintro t0 t3 t6 w1 ⟨rfl, i, rfl, hi, ha, ho⟩
  refine br_intro (fun hlt => ?_) (fun hge => ?_)
  · have hq := of_decide_eq_true hlt
    have hi16 : i < 16 := by
      rcases Nat.lt_or_ge i 16 with h | h
      · exact h
      · have := pow_le h
        have e : (64 * 2 ^ 16 : Nat) = 4194304 := by decide
        rw [e] at this; omega
    have hp16 := pow16 hi16
    refine Calls.mono (Int_spec (v := 64 * 2 ^ i) (by omega)) ?_
    rintro e w2 ⟨ha2, s, rfl, hs⟩
    have hd : (digs B32 (64 * 2 ^ i)).length ≤ 2 := digs_length_le two32 (by rw [B32v]; omega)
    refine ⟨_, rfl, Calls.mono (Cmp_spec hs (hp.ahead (ha.trans ha2)) (by omega) (by omega)) ?_⟩
    rintro e w3 ⟨ha3, rfl⟩
    refine ⟨_, rfl, br_intro (fun hc => ?_) (fun hc => ?_)⟩
    · have hN : 64 * 2 ^ i ≤ N := by
        have := of_decide_eq_true hc
        rcases Nat.lt_or_ge N (64 * 2 ^ i) with h | h
        · have := cmpI_pos.2 h; omega
        · exact h
      have h2 := (atts_lt (N := N) hi16).2 hN
      have ha03 := (ha.trans ha2).trans ha3
      have hal := Ahead.alloc w3 (.cells #[Value.int .i64 ((64 * 2 ^ i : Nat) : Int)] tInt (0, 0))
      have ho4 := ((ho.ahead ha2).ahead ha3).ahead hal
      refine app (t := _) (e := tInt) (k := .i64) (l := tw i) (ys := [((64 * 2 ^ i : Nat) : Int)]) (base := w.heap.size) (by kernel_rfl) (lit_rd .i64 tInt w3 [((64 * 2 ^ i : Nat) : Int)]) (by simp)
        ho4 (ha03.trans hal).size (by simp [tw_length]; omega) ?_
      intro s' w5 b' hb' hc' hown hbel hah
      have e8 : IntKind.i64.wrap (2 * ((64 * 2 ^ i : Nat) : Int)) = ((64 * 2 ^ (i + 1) : Nat) : Int) := by
        rw [Nat.pow_succ, wrap_i64 (by omega) (by omega)]; omega
      have hpos : 0 < 2 ^ i := Nat.pow_pos (by omega)
      refine ⟨⟨rfl, i + 1, e8, h2, ?_, .inr ⟨b', hb', hc', by rw [tw_succ]; exact hown⟩⟩, by rw [e8, Nat.pow_succ]; omega⟩
      refine hah w (ha03.trans hal) fun b hb => ?_
      rcases ho with ⟨rfl, _⟩ | ⟨b2, h1, _, h3⟩
      · simp at hb
      · rw [h3.A] at hb; simp at hb; omega
    · have hN : N < 64 * 2 ^ i := by
        have := of_decide_eq_false hc
        rcases Nat.lt_or_ge N (64 * 2 ^ i) with h | h
        · exact h
        · exfalso
          rcases Nat.eq_or_lt_of_le h with h | h
          · have := cmpI_zero.2 h; omega
          · have := cmpI_neg.2 h; omega
      have h2 := (atts_lt (N := N) hi16)
      have : i = atts N := by omega
      subst this
      exact ⟨(ha.trans ha2).trans ha3, _, rfl, (ho.ahead ha2).ahead ha3⟩
  · have hq := of_decide_eq_false hge
    have hi16 : i = atts N := by
      rcases Nat.lt_or_ge i 16 with h | h
      · have := pow16 h; omega
      · omega
    subst hi16
    exact ⟨ha, _, rfl, ho⟩
/-- Where a part of a row of the call's own lies. -/
theorem cut_loc {base : Nat} {w : World} {t : Slc} {L : List Int} {k : Nat} (h : OwnI base w t L) {ad : Addr} (e : (if t.c = k then t.A else t.A.map (·.add k)) = some ad) : base ≤ ad.block := by
  rcases h with ⟨rfl, _⟩ | ⟨q, q1, _, q3⟩
  · split at e <;> simp at e
  · rw [q3.A] at e
    split at e
    · have := Option.some.inj e
      subst this; exact q1
    · simp only [Option.map_some] at e
      have := Option.some.inj e
      subst this
      rw [Eng.add_block]; exact q1
theorem rLeft_spec {Q : Slc → Prop} {w : World} {b N k : Nat} (h : Rt Q w b N k) (hk : k ≤ atts N) (hl : (digs B32 N).length ≤ 2 ^ 46) : Calls pr surdref18_Meter_Left_id #[.pointer (some ⟨b, 0, none⟩)] w fun e w' => Ahead w w' ∧ ∃ s, e = .returned (Slc.v s) ∧ Rd .i64 w' s ((tw (atts N)).drop k) ∧ ∀ ad, s.A = some ad → w.heap.size ≤ ad.block := by
  obtain ⟨s, hq, h1, h2⟩ := h
  have hle := atts_le N
  have ad := Ahead.drew w
  refine surdref18_Meter_Left_vc _ w _ (onSome_intro rfl (ldS_b 0 (h1.ahead ad) rfl (onSome_intro rfl (ldI_b 1 (h1.ahead ad) rfl (Calls.mono (rAttempts_spec (h2.ahead ad) hl) ?_)))))
  rintro e w1 ⟨a1, t, rfl, ot⟩
  have rt := ot.rd
  have hn : t.n = atts N := by rw [rt.n, tw_length]
  refine ⟨_, rfl, a1, fixLoG (k := .i64) (e := tInt) (by kernel_rfl) (by omega) (by omega) ⟨ad.trans a1, _, rfl, ?_, ?_⟩⟩
  · rw [Int.toNat_natCast]
    exact rt.drop (by rw [tw_length]; omega)
  · rw [Int.toNat_natCast]
    exact fun x hx => cut_loc ot hx
theorem rNext_spec {Q : Slc → Prop} {w : World} {b N k : Nat} (h : Rt Q w b N k) (hk : k ≤ atts N) (hl : (digs B32 N).length ≤ 2 ^ 46) : Calls pr surdref18_Meter_Next_id #[.pointer (some ⟨b, 0, none⟩)] w fun e w' => Stp b w w' ∧
    e = .returned (.tuple #[.int .i64 (if k < atts N then ((64 * 2 ^ k : Nat) : Int) else 0), .int .i64 (if k < atts N then 0 else 180)]) ∧ Rt Q w' b N (if k < atts N then k + 1 else k) := by
  have hle := atts_le N
  have hb := h.lt
  obtain ⟨s, hq, h1, h2⟩ := h
  refine surdref18_Meter_Next_vc _ w _ (onSome_intro rfl (ldS_b 0 h1 rfl (Calls.mono (rAttempts_spec h2 hl) ?_)))
  rintro e w1 ⟨a1, t, rfl, ot⟩
  have hn : t.n = atts N := by rw [ot.rd.n, tw_length]
  refine ⟨_, rfl, onSome_intro rfl (ldI_b 1 (h1.ahead a1) rfl (br_intro (fun hc => ?_) (fun hc => ?_)))⟩
  · have hc' : ¬ k < atts N := by have := of_decide_eq_true hc; omega
    rw [if_neg hc', if_neg hc', if_neg hc']
    exact ⟨Stp.of_ahead a1, rfl, s, hq, h1.ahead a1, h2.ahead a1⟩
  · have hc' : k < atts N := by have := of_decide_eq_false hc; omega
    rw [if_pos hc', if_pos hc', if_pos hc']
    refine onSome_intro rfl (ldI_b 1 (h1.ahead a1) rfl (onSome_intro rfl (stC_b 1 (h1.ahead a1) (by simp) rfl fun w2 u2 B2 => onSome_intro rfl ?_)))
    rw [wrap_i64 (by omega) (by omega)] at B2
    have B2' : Blk w2 b #[s.v, .int .i64 ((k : Int) + 1)] := by simpa using B2
    refine ldI_b 1 B2' rfl ?_
    rw [wrap_i64 (by omega) (by omega), show (k : Int) + 1 - 1 = (k : Int) by omega]
    have rt2 : Rd .i64 w2 t (tw (atts N)) := ⟨ot.rd.n, ot.rd.c, fun i hi => by
      obtain ⟨ad, e, hc⟩ := ot.rd.get i hi
      refine ⟨ad, e, u2.cell ?_ hc⟩
      rw [Eng.add_block]
      rcases ot with ⟨rfl, _⟩ | ⟨q, q1, _, q3⟩
      · cases e
      · have := Option.some.inj (q3.A.symm.trans e)
        subst this; simp only; omega⟩
    refine ix_ld (e := tInt) (k := .i64) (by kernel_rfl) rt2 (by omega) (by rw [tw_length]; omega) ?_
    rw [Int.toNat_natCast, tw_getD hc']
    exact ⟨(Stp.of_ahead a1).trans (Stp.of_upd u2), rfl, s, hq, by rw [show ((k + 1 : Nat) : Int) = (k : Int) + 1 by omega]; exact B2', (Stp.of_upd u2).rd _ _ (h2.ahead a1)⟩
def cellI (w : World) (ad : Addr) : Int := match w.cell? ad with
  | some (.int _ x) => x
  | _ => 0
theorem cellI_of {w : World} {ad : Addr} {k : IntKind} {x : Int} (h : w.cell? ad = some (.int k x)) : cellI w ad = x := by
  unfold cellI; rw [h]
theorem rSkip_spec {Q : Slc → Prop} {w : World} {b N k : Nat} {p : Int} (h : Rt Q w b N k) (hk : k ≤ atts N) (hl : (digs B32 N).length ≤ 2 ^ 46) : Calls pr surdref18_Meter_Skip_id #[.pointer (some ⟨b, 0, none⟩), .int .i64 p] w fun e w' => Stp b w w' ∧ e = .returned (.tuple #[]) ∧ Rt Q w' b N (sk p N k) := by
  have hle := atts_le N
  have hb := h.lt
  have h0 := h
  obtain ⟨s, hq, h1, h2⟩ := h
  refine surdref18_Meter_Skip_vc _ p w _ (fun m q t w' => m = some ⟨b, 0, none⟩ ∧ q = p ∧ ∃ j : Nat, k + j ≤ atts N ∧ Stp b w w' ∧ Rt Q w' b N (k + j) ∧ Rd .i64 w' t (tw (atts N)) ∧ (∀ ad, t.A = some ad → w.heap.size ≤ ad.block) ∧ ∀ i, i < j → ((64 * 2 ^ (k + i) : Nat) : Int) < p)
    (fun _ _ _ w' => (17 - cellI w' ⟨b, 1, none⟩).toNat) ?_ ?_
  · refine onSome_intro rfl (ldS_b 0 h1 rfl (Calls.mono (rAttempts_spec h2 hl) ?_))
    rintro e w1 ⟨a1, t, rfl, ot⟩
    refine ⟨_, rfl, rfl, rfl, 0, by omega, Stp.of_ahead a1, h0.ahead a1, ot.rd, fun ad e => ?_, fun i hi => by omega⟩
    rcases ot with ⟨rfl, _⟩ | ⟨q, q1, _, q3⟩
    · cases e
    · have := Option.some.inj (q3.A.symm.trans e)
      subst this; exact q1
  · rintro _ p t w1 ⟨rfl, rfl, j, hj, st, hr, rt, ht, hlt⟩
    have hn : t.n = atts N := by rw [rt.n, tw_length]
    have hr0 := hr
    obtain ⟨u, hq', g1, g2⟩ := hr
    have fin : (k + j = atts N ∨ ¬ ((64 * 2 ^ (k + j) : Nat) : Int) < p) → sk p N k = k + j := by
      intro h2
      have := cn_min hlt h2 (atts N - k) (by omega)
      unfold sk
      rw [this]; omega
    refine onSome_intro rfl (ldI_b 1 g1 rfl (br_intro (fun hc => ?_) (fun hc => ?_)))
    · have hc' : k + j < atts N := by have := of_decide_eq_true hc; omega
      refine onSome_intro rfl (ldI_b 1 g1 rfl (ix_ld (e := tInt) (k := .i64) (by kernel_rfl) rt (by omega) (by rw [tw_length]; omega) ?_))
      rw [Int.toNat_natCast, tw_getD hc']
      refine br_intro (fun hp => ?_) (fun hp => ?_)
      · refine onSome_intro rfl (ldI_b 1 g1 rfl (onSome_intro rfl (stC_b 1 g1 (by simp) rfl fun w3 u3 B3 => ?_)))
        rw [wrap_i64 (by omega) (by omega)] at B3
        have B3' : Blk w3 b #[u.v, .int .i64 ((k + (j + 1) : Nat) : Int)] := by
          rw [show ((k + (j + 1) : Nat) : Int) = ((k + j : Nat) : Int) + 1 by omega]
          simpa using B3
        have rt3 : Rd .i64 w3 t (tw (atts N)) := ⟨rt.n, rt.c, fun i hi => by
          obtain ⟨ad, e, hc⟩ := rt.get i hi
          exact ⟨ad, e, u3.cell (by rw [Eng.add_block]; have := ht ad e; omega) hc⟩⟩
        refine ⟨⟨rfl, rfl, j + 1, by omega, st.trans (Stp.of_upd u3), ⟨u, hq', B3', (Stp.of_upd u3).rd _ _ g2⟩, rt3, ht, fun i hi => ?_⟩, ?_⟩
        · by_cases h : i = j
          · subst h; exact of_decide_eq_true hp
          · exact hlt i (by omega)
        · rw [cellI_of (g1.cell (i := 1) rfl), cellI_of (B3'.cell (i := 1) rfl)]
          omega
      · rw [fin (.inr (of_decide_eq_false hp))]
        exact ⟨st, rfl, hr0⟩
    · rw [fin (.inl (by have := of_decide_eq_false hc; omega))]
      exact ⟨st, rfl, hr0⟩
theorem rAdd_spec {w : World} {b N M k : Nat} {s t : Slc} (h1 : Blk w b #[t.v, .int .i64 (k : Int)]) (h2 : RN w t N) (hs : RN w s M) (la : (digs B32 N).length + 1 ≤ 2 ^ 45) (lb : (digs B32 M).length + 1 ≤ 2 ^ 45) :
    Calls pr surdref18_Meter_Add_id #[.pointer (some ⟨b, 0, none⟩), s.v] w fun e w' => Stp b w w' ∧ e = .returned (.int .i64 (bigC (N + M))) ∧
    ∃ u, Blk w' b #[u.v, .int .i64 (k : Int)] ∧ RN w' u (if bigC (N + M) = 0 then N + M else N) ∧ (u = t ∨ ∀ ad, u.A = some ad → w.heap.size ≤ ad.block) := by
  have hB32 := B32v
  refine surdref18_Meter_Add_vc _ s w _ (onSome_intro rfl (ldS_b 0 h1 rfl (Calls.mono (Add_specN h2 hs la lb) ?_)))
  rintro e w1 ⟨a1, u, rfl, ru, hu⟩
  have hd : (digs B32 (N + M)).length ≤ 2 ^ 46 := by
    have := Ref.digs_add_len two32 (x := N) (y := M) (k := 2 ^ 45 - 1) (by omega) (by omega)
    omega
  refine ⟨_, rfl, Calls.mono (Len_spec ru (by omega)) ?_⟩
  rintro e w2 ⟨rfl, rfl⟩
  refine ⟨_, rfl, br_intro (fun hc => ?_) (fun hc => ?_)⟩
  · have hc' : bigC (N + M) = 3 := by rw [bigC, if_neg (by have := of_decide_eq_true hc; omega)]
    rw [hc', if_neg (by omega)]
    exact ⟨Stp.of_ahead a1, rfl, t, h1.ahead a1, h2.ahead a1, .inl rfl⟩
  · have hc' : bigC (N + M) = 0 := by rw [bigC, if_pos (by have := of_decide_eq_false hc; omega)]
    rw [hc', if_pos rfl]
    refine onSome_intro rfl (stC_b 0 (h1.ahead a1) (by simp) rfl fun w3 u3 B3 => ?_)
    exact ⟨(Stp.of_ahead a1).trans (Stp.of_upd u3), rfl, u, by simpa using B3, (Stp.of_upd u3).rd _ _ ru, .inr hu⟩

end Fuel
end Go.Proofs.Ytflipimlpgbnmaa
namespace Go.Proofs.Ytflipimlpgbnmaa
open Go Go.RowKit Eng Sp Dg
set_option linter.unusedVariables false
set_option linter.unusedSimpArgs false
set_option maxRecDepth 100000
namespace Fuel
open _root_.Go.Proofs.Ytflipimlpgbnmaa.Nat (Yes num_spec end_awake Num Num.ahead OwnNil OwnNil.rd OwnNil.ahead OwnI OwnI.rd OwnI.ahead OwnI.mono OwnI.nil atts tw tw_length tw_getD tw_succ atts_le atts_lt pow16 Attempts_spec alike_spec bigC num_of add_num own_num digs_len_bl lit_rd)
open _root_.Go.Proofs.Ytflipimlpgbnmaa.Ref (RN RN.ahead Of_spec Lend_spec Kept_spec lent lent_length len32 bl_len32)
open _root_.Go.Proofs.Ytflipimlpgbnmaa.Mul (Only Off rd_off)
open Sb

theorem dl32 {n m : Nat} (h : bl n ≤ 32 * m) : (digs B32 n).length ≤ m := digs_length_le two32 (by rw [b32_pow]; exact bl_le_iff.1 h)
/-- A store into a part of a row of the call's own. -/
theorem sub_st {t e : TypeId} {k : IntKind} (hT : isSl pr t k = some e) {w : World} {row s : Slc} {L : List Int} {q o : Nat} (h : Own k e w row L q) (hA : s.A = some ⟨q, o, none⟩) {i : Int} (h0 : 0 ≤ i) (h1 : i < s.n) (hL : o + s.n ≤ L.length) {x : Int} {K : World → Prop}
    (hk : ∀ w', Own k e w' row (L.set (o + i.toNat) x) q → Only q w w' → K w') :
    semA pr (Instr.indexAt t s.v (.int .i64 i)) w fun ad w1 => stC ad (.int k x) w1 fun w2 => K w2 := by
  unfold semA
  rw [Sem.wp_iff_run, run_indexAt hT w s i _ hA h0 h1]
  refine ⟨_, rfl, ?_⟩
  have e : (⟨q, o, none⟩ : Addr).add i.toNat = ⟨q, o + i.toNat, none⟩ := by
    rw [← add_off (b := q) (i := o), add_add, add_off]
  rw [e]
  exact ⟨⟨_, h.cell (by omega)⟩, h.frozen _, hk _ (h.set (by omega) x) (Only.setCell q _ w _)⟩
theorem Stp.own {b : Nat} {w w' : World} {k : IntKind} {t : TypeId} {s : Slc} {l : List Int} {q : Nat} (h : Stp b w w') (ho : Own k t w s l q) (hq : q ≠ b) : Own k t w' s l q := by
  have hl := ho.lt
  obtain ⟨sp, hc, hm⟩ := ho.mem
  exact ⟨ho.hd, sp, hc, by rw [h.bar.block q hl hq]; exact hm⟩
theorem Stq.only {V : Nat → Prop} {w w' w'' : World} {q : Nat} (h : Stq V w w') (ho : Only q w' w'') (hq : w.heap.size ≤ q) : Stq V w w'' :=
  ⟨⟨ho.1.trans h.bar.os, ho.2.1.trans h.bar.tape, ho.2.2.1.trans h.bar.output, by rw [ho.2.2.2.1]; exact h.bar.size, fun k hk hv => (ho.2.2.2.2 k (by omega)).trans (h.bar.block k hk hv)⟩,
    fun s l hr => ho.rd (h.rd s l hr) (rd_off hr hq)⟩
theorem Only.blk' {q b : Nat} {w w' : World} {cs : Array Value} (h : Only q w w') (hb : Blk w b cs) (hne : b ≠ q) : Blk w' b cs := hb.only h hne
theorem Only.num {q : Nat} {w w' : World} {s : Slc} {N : Nat} (h : Only q w w') (hn : Num w s N) (ho : Off q s) : Num w' s N := by
  obtain ⟨l, h1, h2⟩ := hn; exact ⟨l, h.rd h1 ho, h2⟩

/-- Left, with the row that it is a part of. -/
theorem leftW_spec {w : World} {b N k : Nat} (h : Mt w b N k) (hk : k ≤ atts N) : Calls pr fuel_Meter_Left_id #[.pointer (some ⟨b, 0, none⟩)] w fun e w' => Ahead w w' ∧ ∃ t s : Slc, e = .returned (Slc.v s) ∧ OwnI w.heap.size w' t (tw (atts N)) ∧
    s = ⟨if t.c = k then t.A else t.A.map (·.add k), t.n - k, t.c - k⟩ ∧ Rd .i64 w' s ((tw (atts N)).drop k) := by
  refine fuel_Meter_Left_vc _ w _ (Calls.mono (is_yes h) ?_)
  rintro e w1 ⟨rfl, rfl⟩
  obtain ⟨s, h1, h2⟩ := h
  have hle := atts_le N
  refine ⟨_, rfl, br_false rfl (onSome_intro rfl (fuel_state_left_vc _ w1 _ (ldS_b 0 h1 rfl (Calls.mono (Attempts_spec h2) ?_))))⟩
  rintro e w2 ⟨a1, t, rfl, ot⟩
  have rt := ot.rd
  have hn : t.n = atts N := by rw [rt.n, tw_length]
  refine ⟨_, rfl, ldI_b 1 (h1.ahead a1) rfl ?_⟩
  have hm : minI (k : Int) (t.n : Int) = (k : Int) := by unfold minI; split <;> omega
  rw [hm]
  refine cutLoG (k := .i64) (e := tInt) (by kernel_rfl) (by omega) (by omega) ⟨_, rfl, a1, t, _, rfl, ot, rfl, ?_⟩
  rw [Int.toNat_natCast]
  exact rt.drop (by rw [tw_length]; omega)

/-- What an act leaves. -/
def Acted (Q : Slc → Prop) (b r : Nat) (w : World) (e : Ending) (w' : World) : Prop := e = .returned (.bool true) ∧ Stq (fun q => q = b ∨ q = r) w w' ∧ ∃ N k, Mq Q w' b N k ∧ Rt Q w' r N k ∧ k ≤ atts N ∧ (digs B32 N).length + 1 ≤ 2 ^ 45

set_option maxHeartbeats 1000000 in
theorem acted_spec {Q : Slc → Prop} {w : World} {b r N k : Nat} {kind on p : Int} {s : Slc} {l : List Nat} (hQ : ∀ u : Slc, (∀ ad, u.A = some ad → w.heap.size ≤ ad.block) → Q u) (hm : Mq Q w b N k) (hr : Rt Q w r N k) (hbr : b ≠ r) (hk : k ≤ atts N) (hl : (digs B32 N).length + 1 ≤ 2 ^ 45) (rs : Rd .u64 w s (nn l)) (ol : ok B64 l) (nl : l.length * 8 ≤ 140737488351232) :
    Calls pr surdlaw18_acted_id #[.pointer (some ⟨b, 0, none⟩), .pointer (some ⟨r, 0, none⟩), .agg #[.int .i64 kind, .int .i64 on, .int .i64 p, s.v]] w (Acted Q b r w) := by
  have hB := B64v
  have hB32 := B32v
  have hle := atts_le N
  have lb := hm.lt
  have lr := hr.lt
  have hM := len32 ol
  have dM := num_of rs ol nl
  refine surdlaw18_acted_vc _ _ kind on p s w _
    (fun t0 t11 t12 t13 n i w' => t0 = some ⟨b, 0, none⟩ ∧ ∃ (t : Slc) (j : Nat) (L : List Int) (z : Nat), t11 = ⟨if t.c = k then t.A else t.A.map (·.add k), t.n - k, t.c - k⟩ ∧ n = ((atts N - k : Nat) : Int) ∧ i = (j : Int) ∧ j ≤ atts N - k ∧ Ahead w w' ∧ OwnI w.heap.size w' t L ∧ L.length = atts N ∧
      Rd .i64 w' t12 ((tw (atts N)).drop k) ∧ Rd .i64 w' t13 ((tw (atts N)).drop k) ∧ (∀ q, t.A = some ⟨q, 0, none⟩ → Off q t12 ∧ Off q t13))
    (fun _ _ _ _ n i _ => (n - i).toNat)
    (fun t18 t20 n i w' => t20 = true ∧ n = (l.length : Int) ∧ ∃ (j q : Nat) (wa u v : Slc) (L : List Int) (M : Nat), t18 = ⟨some ⟨q, 2, none⟩, l.length, l.length + 2⟩ ∧ i = (j : Int) ∧ j ≤ l.length ∧ w.heap.size ≤ q ∧ Own .u64 tU64 w' wa L q ∧ L.length = l.length + 4 ∧ Stq (fun q => q = b ∨ q = r) w w' ∧
      Blk w' b #[u.v, .int .i64 (k : Int), .bool true] ∧ Num w' u M ∧ Off q u ∧ Q u ∧ Blk w' r #[v.v, .int .i64 (k : Int)] ∧ RN w' v M ∧ Off q v ∧ Q v ∧ k ≤ atts M ∧ (digs B32 M).length + 1 ≤ 2 ^ 45)
    (fun _ _ n i _ => (n - i).toNat) ?_ ?_ ?_
  · refine newC_b fun q w1 hq h1 hs1 B => ldI_b 0 B rfl ?_
    have hm1 := hm.ahead h1
    have hr1 := hr.ahead h1
    have S1 : Stq (fun q => q = b ∨ q = r) w w1 := Stq.of_ahead h1
    refine br_intro (fun _ => ?_) (fun _ => br_intro (fun _ => ?_) (fun _ => br_intro (fun _ => ?_) (fun _ => br_intro (fun _ => ?_) (fun _ => br_intro (fun _ => ?_) (fun _ => br_intro (fun _ => ?_) (fun _ => ?_))))))
    · -- next
      refine Calls.mono (NextQ_spec hm1) ?_
      rintro e w2 ⟨s2, rfl, m2⟩
      refine ⟨_, _, rfl, Calls.mono (rNext_spec (s2.rt hr1 hbr.symm) hk (by omega)) ?_⟩
      rintro e w3 ⟨s3, rfl, r3⟩
      refine ⟨_, _, rfl, br_true (by simp) (Calls.mono num_spec ?_)⟩
      rintro e w4 ⟨rfl, rfl⟩
      exact ⟨_, rfl, by simp, (S1.trans (Stq.of_stp s2 (.inl rfl))).trans (Stq.of_stp s3 (.inr rfl)), N, _, s3.mt m2 hbr, r3, by split <;> omega, hl⟩
    · -- told
      obtain ⟨v, hqv, b1, b2⟩ := hr1
      have ad := Ahead.drew w1
      refine onSome_intro rfl (ldI_b 1 (b1.ahead ad) rfl (Calls.mono (Told_spec (hm1.ahead ad).mt) ?_))
      rintro e w5 ⟨rfl, rfl⟩
      exact ⟨_, rfl, Ahead.refl _, by simp, Stq.of_ahead (h1.trans ad), N, k, hm1.ahead ad, ⟨v, hqv, b1.ahead ad, b2.ahead ad⟩, hk, hl⟩
    · -- left
      refine Calls.mono (leftW_spec hm1.mt hk) ?_
      rintro e w6 ⟨h6, t, s1, rfl, ot, es, rs1⟩
      refine ⟨_, rfl, Calls.mono (leftW_spec (hm1.ahead h6).mt hk) ?_⟩
      rintro e w7 ⟨h7, t', s2, rfl, ot', es', rs2⟩
      refine ⟨_, rfl, Calls.mono (rLeft_spec ((hr1.ahead h6).ahead h7) hk (by omega)) ?_⟩
      rintro e w8 ⟨h8, s3, rfl, rs3, loc3⟩
      have h78 := h7.trans h8
      refine ⟨_, rfl, Calls.mono (alike_spec (rs1.ahead h78) rs3 (by rw [List.length_drop, tw_length]; omega)) ?_⟩
      rintro e w9 ⟨h9, rfl⟩
      have hn : s1.n = atts N - k := by rw [rs1.n, List.length_drop, tw_length]
      refine ⟨_, rfl, br_false rfl ⟨rfl, t, 0, tw (atts N), 0, es, by rw [hn], rfl, Nat.zero_le _, (h1.trans h6).trans (h78.trans h9), ((ot.ahead h78).ahead h9).mono h1.size, tw_length _, (rs2.ahead h8).ahead h9, rs3.ahead h9, ?_⟩⟩
      intro c hc
      have lt : c < w6.heap.size := by
        rcases ot with ⟨rfl, _⟩ | ⟨c2, _, _, o⟩
        · cases hc
        · have := Option.some.inj (o.A.symm.trans hc)
          have e : c2 = c := congrArg Addr.block this
          rw [← e]; exact o.lt
      refine ⟨fun ad e _ hb => ?_, fun ad e _ hb => ?_⟩
      · rw [es'] at e
        have := cut_loc ot' e
        omega
      · have := loc3 ad e
        have := h7.size
        omega
    · -- reset
      refine Calls.mono (Reset_spec hm1) ?_
      rintro e w15 ⟨s2, rfl, m2⟩
      obtain ⟨v, hqv, b1, b2⟩ := s2.rt hr1 hbr.symm
      refine ⟨_, rfl, onSome_intro rfl (stC_b 1 b1 (by simp) rfl fun w16 u16 B16 => Calls.mono num_spec ?_)⟩
      rintro e w17 ⟨rfl, rfl⟩
      have s3 : Stp r w15 w17 := Stp.of_upd u16
      exact ⟨_, rfl, by simp, (S1.trans (Stq.of_stp s2 (.inl rfl))).trans (Stq.of_stp s3 (.inr rfl)), N, 0, s3.mt m2 hbr, ⟨v, hqv, by simpa using B16, s3.rd _ _ b2⟩, Nat.zero_le _, hl⟩
    · -- skip
      refine ldI_b 2 B rfl (Calls.mono (Skip_spec hm1 hk) ?_)
      rintro e w18 ⟨s2, rfl, m2⟩
      refine ⟨_, rfl, ldI_b 2 (s2.blk B (by omega)) rfl (Calls.mono (rSkip_spec (s2.rt hr1 hbr.symm) hk (by omega)) ?_)⟩
      rintro e w19 ⟨s3, rfl, r3⟩
      refine ⟨rfl, Calls.mono num_spec ?_⟩
      rintro e w20 ⟨rfl, rfl⟩
      exact ⟨_, rfl, by simp, (S1.trans (Stq.of_stp s2 (.inl rfl))).trans (Stq.of_stp s3 (.inr rfl)), N, _, s3.mt m2 hbr, r3, sk_le hk, hl⟩
    · -- add
      refine ldS_b 3 B rfl (Calls.mono (Lend_spec (rs.ahead h1) nl ol) ?_)
      rintro e w21 ⟨h21, wa, pa, rfl, la⟩
      have h021 := h1.trans h21
      have z21 := h021.size
      have z1 := h1.size
      have z121 := h21.size
      have pn := num_of la.part ol nl
      have lwh := la.whole
      obtain ⟨c, hc, hcc, oc, rfl⟩ := la
      have lc := oc.lt
      obtain ⟨t, qt, b1, b2⟩ := hm
      obtain ⟨v0, qv0, d1, d2⟩ := hr
      have ft : Off c t := by obtain ⟨lz, q1, _⟩ := b2; exact rd_off q1 (by omega)
      have fv : Off c v0 := rd_off d2 (by omega)
      refine ⟨_, _, rfl, Calls.mono (fuel_addL (b1.ahead h021) (b2.ahead h021) pn) ?_⟩
      rintro e w22 ⟨s2, rfl, u, u1, u2, u3⟩
      have ad := Ahead.drew w22
      have z22 := s2.bar.size
      have B22 := (s2.blk (B.ahead h21) (by omega)).ahead ad
      refine ⟨_, rfl, fun x => x = r, ⟨fun h => by rw [Eng.add_block] at h; simp only at h; omega, ldS_b 3 B22 rfl (Calls.mono num_spec ?_)⟩⟩
      rintro e w23 ⟨rfl, rfl⟩
      have rs22 := (s2.rd _ _ (rs.ahead h021)).ahead ad
      refine ⟨_, rfl, Bar.refl _ _, Calls.mono (Of_spec rs22 nl ol) ?_⟩
      rintro e w24 ⟨h24, f, rfl, rf⟩
      have d1' := ((s2.blk (d1.ahead h021) hbr.symm).ahead ad).ahead h24
      have d2' := RN.ahead (RN.ahead (s2.rd _ _ (RN.ahead d2 h021)) ad) h24
      refine ⟨_, rfl, Bar.of_ahead h24, Calls.mono (rAdd_spec d1' d2' rf hl (by omega)) ?_⟩
      rintro e w25 ⟨s3, rfl, v, v1, v2, v3⟩
      refine ⟨_, rfl, s3.bar, br_true (by simp) ⟨fun h => by rw [Eng.add_block] at h; simp only at h; omega, ldS_b 3 (s3.blk (B22.ahead h24) (by omega)) rfl (Calls.mono (Kept_spec (s3.rd _ _ (((s2.rd _ _ lwh).ahead ad).ahead h24)) (s3.rd _ _ (rs22.ahead h24)) nl) ?_)⟩⟩
      rintro e w26 ⟨rfl, rfl⟩
      have z24 := h24.size
      have zd : w22.drew.heap.size = w22.heap.size := rfl
      have S25 := ((Stq.of_ahead (V := fun q => q = b ∨ q = r) h021).trans (Stq.of_stp s2 (.inl rfl))).trans ((Stq.of_ahead (ad.trans h24)).trans (Stq.of_stp s3 (.inr rfl)))
      refine ⟨_, rfl, Bar.refl _ _, rfl, rfl, 0, c, wa, u, v, _, _, rfl, rfl, Nat.zero_le _, by omega, s3.own (((s2.own oc (by omega)).ahead ad).ahead h24) (by omega), by rw [nn_length, lent_length], S25, s3.blk ((u1.ahead ad).ahead h24) hbr, s3.num ((u2.ahead ad).ahead h24), ?_, ?_, v1, v2, ?_, ?_, ?_, ?_⟩
      · rcases u3 with rfl | u3
        · exact ft
        · exact fun x e _ hb => by have := u3 x e; omega
      · rcases u3 with rfl | u3
        · exact qt
        · exact hQ u fun x e => by have := u3 x e; omega
      · rcases v3 with rfl | v3
        · exact fv
        · exact fun x e _ hb => by have := v3 x e; omega
      · rcases v3 with rfl | v3
        · exact qv0
        · exact hQ v fun x e => by have := v3 x e; omega
      · split
        · exact Nat.le_trans hk (atts_mono (by omega))
        · exact hk
      · split
        · rename_i hz
          have hbl : bl (N + val B64 l) ≤ 67108864 := by
            unfold bigC at hz
            split at hz <;> omega
          have := dl32 (n := N + val B64 l) (m := 2 ^ 22) (by omega)
          omega
        · exact hl
    · exact ⟨rfl, S1, N, k, hm1, hr1, hk, hl⟩
  · rintro _ _ t12 t13 _ _ w1 ⟨rfl, t, j, L, z, rfl, rfl, rfl, hj, h1, ot, hL, r12, r13, hoff⟩
    refine br_intro (fun hlt => ?_) (fun hge => ?_)
    · have hj' : j < atts N - k := by have := of_decide_eq_true hlt; omega
      rcases ot with ⟨rfl, rfl⟩ | ⟨c, hc, hcc, o⟩
      · simp at hL; omega
      · have hn := o.n
        have hcc' := o.rd.c
        have hA : (⟨if t.c = k then t.A else t.A.map (·.add k), t.n - k, t.c - k⟩ : Slc).A = some ⟨c, k, none⟩ := by
          simp only
          rw [if_neg (by omega), o.A, Option.map_some, add_off]
        refine sub_st (k := .i64) (e := tInt) (by kernel_rfl) o hA (by omega) (by simp only; omega) (by simp only; omega) (x := 0) fun w2 o2 on => ?_
        have e8 : IntKind.i64.wrap ((j : Int) + 1) = ((j + 1 : Nat) : Int) := by rw [wrap_i64 (by omega) (by omega)]; omega
        rw [e8]
        obtain ⟨f1, f2⟩ := hoff c o.A
        exact ⟨⟨rfl, t, j + 1, _, 0, rfl, rfl, rfl, hj', on.ahead h1 hc, .inr ⟨c, hc, hcc, o2⟩, by simpa using hL, on.rd r12 f1, on.rd r13 f2, hoff⟩, by omega⟩
    · refine Calls.mono (alike_spec r12 r13 (by rw [List.length_drop, tw_length]; omega)) ?_
      rintro e w2 ⟨h2, rfl⟩
      refine ⟨_, rfl, br_true rfl (Calls.mono (leftW_spec ((hm.ahead h1).ahead h2).mt hk) ?_)⟩
      rintro e w3 ⟨h3, t', s4, rfl, _, _, rs4⟩
      refine ⟨_, rfl, Calls.mono (alike_spec rs4 ((r13.ahead h2).ahead h3) (by rw [List.length_drop, tw_length]; omega)) ?_⟩
      rintro e w4 ⟨h4, rfl⟩
      have h04 := ((h1.trans h2).trans h3).trans h4
      exact ⟨_, rfl, rfl, Stq.of_ahead h04, N, k, hm.ahead h04, hr.ahead h04, hk, hl⟩
  · rintro _ _ _ _ w1 ⟨rfl, rfl, j, c, wa, u, v, L, M, rfl, rfl, hj, hc, o, hL, S, u1, u2, fu, qu, v1, v2, fv, qv, hkM, hlM⟩
    refine br_intro (fun hlt => ?_) (fun hge => ?_)
    · have hj' : j < l.length := by have := of_decide_eq_true hlt; omega
      refine sub_st (k := .u64) (e := tU64) (by kernel_rfl) o rfl (by omega) (by simp only; omega) (by simp only; omega) (x := 0) fun w2 o2 on => ?_
      have e8 : IntKind.i64.wrap ((j : Int) + 1) = ((j + 1 : Nat) : Int) := by rw [wrap_i64 (by omega) (by omega)]; omega
      rw [e8]
      exact ⟨⟨rfl, rfl, j + 1, c, wa, u, v, _, M, rfl, rfl, hj', hc, o2, by simpa using hL, S.only on hc, Only.blk' on u1 (by omega), Only.num on u2 fu, fu, qu, Only.blk' on v1 (by omega), on.rd v2 fv, fv, qv, hkM, hlM⟩, by omega⟩
    · exact ⟨rfl, S, M, k, ⟨u, qu, u1, u2⟩, ⟨v, qv, v1, v2⟩, hkM, hlM⟩

end Fuel
end Go.Proofs.Ytflipimlpgbnmaa
namespace Go.Proofs.Ytflipimlpgbnmaa
open Go Go.RowKit Eng Sp Dg
set_option linter.unusedVariables false
set_option linter.unusedSimpArgs false
set_option maxRecDepth 100000
namespace Fuel
open _root_.Go.Proofs.Ytflipimlpgbnmaa.Nat (Yes num_spec end_awake Num Num.ahead atts)
open _root_.Go.Proofs.Ytflipimlpgbnmaa.Ref (RN RN.ahead)
open _root_.Go.Proofs.Ytflipimlpgbnmaa.Mul (Only Off rd_off)
open Sb

def ptrs (ps : List Nat) : List Value := ps.map fun p => .pointer (some ⟨p, 0, none⟩)
/-- A row of pointers to blocks, that the call has made, by append. -/
def PRow (e : TypeId) (base : Nat) (w : World) (s : Slc) (ps : List Nat) : Prop := (s = ⟨none, 0, 0⟩ ∧ ps = []) ∨ (ps ≠ [] ∧ w.ownsRow base e 1 s.v ps.length (ptrs ps))
theorem PRow.nil {e : TypeId} {base : Nat} {w : World} : PRow e base w ⟨none, 0, 0⟩ [] := .inl ⟨rfl, rfl⟩
theorem PRow.out {e : TypeId} {base : Nat} {w : World} {s : Slc} {ps : List Nat} (h : PRow e base w s ps) (hne : ps ≠ []) : ∃ g cap cur, s = ⟨some ⟨g, 0, none⟩, ps.length, cap⟩ ∧ base ≤ g ∧ w.heap[g]? = some (.cells cur e (0, 0)) ∧ cur.toList.take ps.length = ptrs ps := by
  rcases h with ⟨_, rfl⟩ | ⟨_, _, h⟩
  · exact absurd rfl hne
  · rcases h with ⟨_, h0⟩ | ⟨g, cap, cur, hv, hg, hh, _, _, _, ht⟩
    · exact absurd (List.eq_nil_of_length_eq_zero h0) hne
    · obtain ⟨A, n, c⟩ := s
      have := Value.slice.inj hv
      obtain ⟨rfl, rfl, rfl⟩ := this
      exact ⟨g, _, cur, rfl, hg, hh, by simpa using ht⟩
theorem PRow.n {e : TypeId} {base : Nat} {w : World} {s : Slc} {ps : List Nat} (h : PRow e base w s ps) : s.n = ps.length := by
  by_cases hp : ps = []
  · rcases h with ⟨rfl, rfl⟩ | ⟨h, _⟩
    · rfl
    · exact absurd hp h
  · obtain ⟨g, cap, cur, rfl, _⟩ := h.out hp; rfl
/-- The row's block. -/
theorem PRow.at_ {e : TypeId} {base : Nat} {w : World} {s : Slc} {ps : List Nat} (h : PRow e base w s ps) {ad : Addr} (hA : s.A = some ad) : ∃ g cur, ad = ⟨g, 0, none⟩ ∧ base ≤ g ∧ g < w.heap.size ∧ w.heap[g]? = some (.cells cur e (0, 0)) ∧ (∃ p, cur[0]? = some (.pointer (some ⟨p, 0, none⟩))) ∧ cur.toList.take ps.length = ptrs ps := by
  by_cases hp : ps = []
  · rcases h with ⟨rfl, rfl⟩ | ⟨h, _⟩
    · cases hA
    · exact absurd hp h
  · obtain ⟨g, cap, cur, rfl, h1, h2, h3⟩ := h.out hp
    have := Option.some.inj hA
    subst this
    refine ⟨g, cur, rfl, h1, (Array.getElem?_eq_some_iff.1 h2).1, h2, ?_, h3⟩
    obtain ⟨p, ps', rfl⟩ : ∃ p ps', ps = p :: ps' := by
      cases ps with
      | nil => exact absurd rfl hp
      | cons p ps' => exact ⟨p, ps', rfl⟩
    refine ⟨p, ?_⟩
    have : (cur.toList.take (p :: ps').length)[0]? = some (.pointer (some ⟨p, 0, none⟩)) := by rw [h3]; rfl
    rw [List.getElem?_take] at this
    simp at this
    simpa using this
theorem PRow.cell {e : TypeId} {base : Nat} {w : World} {s : Slc} {ps : List Nat} (h : PRow e base w s ps) {i : Nat} (hi : i < ps.length) : ∃ g, s.A = some ⟨g, 0, none⟩ ∧ w.cell? ⟨g, i, none⟩ = some (.pointer (some ⟨ps.getD i 0, 0, none⟩)) := by
  have hp : ps ≠ [] := fun h => by rw [h] at hi; simp at hi
  obtain ⟨g, cap, cur, rfl, h1, h2, h3⟩ := h.out hp
  refine ⟨g, rfl, ?_⟩
  have : (cur.toList.take ps.length)[i]? = some (.pointer (some ⟨ps.getD i 0, 0, none⟩)) := by
    rw [h3, ptrs, List.getElem?_map, getD_lt _ _ hi]; simp [hi]
  rw [List.getElem?_take, if_pos hi] at this
  simp [World.cell?, h2]
  simpa using this
theorem PRow.keep {e : TypeId} {base : Nat} {w w' : World} {s : Slc} {ps : List Nat} (h : PRow e base w s ps) (hk : ∀ g, s.A = some ⟨g, 0, none⟩ → w'.heap[g]? = w.heap[g]?) : PRow e base w' s ps := by
  rcases h with h | ⟨hp, h1, h⟩
  · exact .inl h
  · refine .inr ⟨hp, h1, ?_⟩
    rcases h with h | ⟨g, cap, cur, hv, hg, hh, hr⟩
    · exact .inl h
    · refine .inr ⟨g, cap, cur, hv, hg, ?_, hr⟩
      obtain ⟨A, n, c⟩ := s
      obtain ⟨rfl, rfl, rfl⟩ := Value.slice.inj hv
      rw [hk g rfl]; exact hh
theorem PRow.ahead {e : TypeId} {base : Nat} {w w' : World} {s : Slc} {ps : List Nat} (h : PRow e base w s ps) (ha : Ahead w w') : PRow e base w' s ps :=
  h.keep fun g hg => by obtain ⟨g', cur, e, _, hl, _⟩ := h.at_ hg; have : g = g' := congrArg Addr.block e; subst this; exact Below.block ha g hl
theorem PRow.ne {e e' : TypeId} {base base' : Nat} {w : World} {s s' : Slc} {ps ps' : List Nat} (h : PRow e base w s ps) (h' : PRow e' base' w s' ps') (he : e ≠ e') {g g' : Nat} (hg : s.A = some ⟨g, 0, none⟩) (hg' : s'.A = some ⟨g', 0, none⟩) : g ≠ g' := by
  intro hgg
  subst hgg
  obtain ⟨x, cur, e1, _, _, h1, _⟩ := h.at_ hg
  obtain ⟨y, cur', e2, _, _, h2, _⟩ := h'.at_ hg'
  have : g = x := congrArg Addr.block e1
  subst this
  have : g = y := congrArg Addr.block e2
  subst this
  rw [h1] at h2
  exact he (by injection h2 with h2; injection h2)
/-- A block whose first cell is no pointer is not the row's. -/
theorem PRow.blk_ne {e : TypeId} {base : Nat} {w : World} {s : Slc} {ps : List Nat} (h : PRow e base w s ps) {b : Nat} {cs : Array Value} {v : Value} (hb : Blk w b cs) (hc : cs[0]? = some v) (hv : ∀ p, v ≠ .pointer p) {g : Nat} (hg : s.A = some ⟨g, 0, none⟩) : b ≠ g := by
  intro e1
  subst e1
  obtain ⟨x, cur, e1, _, _, h1, ⟨p, h2⟩, _⟩ := h.at_ hg
  have : b = x := congrArg Addr.block e1
  subst this
  obtain ⟨t, hb⟩ := hb
  rw [hb] at h1
  have h3 : cs = cur := by injection h1 with h1; injection h1
  subst h3
  rw [hc] at h2
  exact hv _ (Option.some.inj h2)

def psB (P : Program) (t e : TypeId) : Bool := match P.underlying t with
  | some (.slice e') => Nat.beq e' e && (match P.info? e with
    | some i => Nat.beq i.size 1 && Nat.beq i.bytes 8 && (match i.zero with
      | some (.pointer none) => true
      | _ => false)
    | none => false)
  | _ => false
theorem psB_out {P : Program} {t e : TypeId} (h : psB P t e = true) : P.underlying t = some (.slice e) ∧ ∃ i, P.info? e = some i ∧ i.size = 1 ∧ i.bytes = 8 ∧ i.zero = some (.pointer none) := by
  unfold psB at h
  split at h
  · rename_i e' hu
    simp only [Bool.and_eq_true] at h
    obtain ⟨h1, h2⟩ := h
    have : e' = e := Nat.eq_of_beq_eq_true h1
    subst this
    split at h2
    · rename_i i hi
      simp only [Bool.and_eq_true] at h2
      obtain ⟨⟨h3, h4⟩, h5⟩ := h2
      split at h5
      · rename_i hz
        exact ⟨hu, i, hi, Nat.eq_of_beq_eq_true h3, Nat.eq_of_beq_eq_true h4, hz⟩
      · cases h5
    · cases h2
  · cases h
theorem run_idxP {t e : TypeId} (hT : psB pr t e = true) {base : Nat} {w : World} {s : Slc} {ps : List Nat} (h : PRow e base w s ps) {i : Nat} (hi : i < ps.length) : ∃ ad, w.cell? ad = some (.pointer (some ⟨ps.getD i 0, 0, none⟩)) ∧ (∃ g, s.A = some ⟨g, 0, none⟩ ∧ ad.block = g) ∧
    ∀ w', (Instr.indexAt t s.v (.int .i64 (i : Int))).run pr w' = .ok (.pointer (some ad)) w' := by
  obtain ⟨hu, inf, hinf, hs, _⟩ := psB_out hT
  obtain ⟨g, hA, hc⟩ := h.cell hi
  have hn := h.n
  refine ⟨_, hc, ⟨g, hA, rfl⟩, fun w' => ?_⟩
  obtain ⟨A, n, c⟩ := s
  simp only at hA hn
  subst hA hn
  have e1 : (⟨g, 0, none⟩ : Addr).add i = ⟨g, i, none⟩ := add_off
  simp only [Instr.indexAt, asIntOf, Slc.v, underlying, program, Sem.run_bind, Sem.run, Result.andThen, hu, Sem.run_pure]
  simp [hi, show (i : Int) < (ps.length : Int) by omega, sizeOf, typeInfo, program, Sem.run, hinf, hs, hu, e1]
theorem idxP_sem {t e : TypeId} {base : Nat} {w : World} {s : Slc} {ps : List Nat} (h : PRow e base w s ps) {i : Nat} (hi : i < ps.length) {K : Option Addr → World → Prop} (hk : K (some ⟨ps.getD i 0, 0, none⟩) w) (hT : psB pr t e = true := by kernel_rfl) :
    semA pr (Instr.indexAt t s.v (.int .i64 (i : Int))) w fun ad w1 => ldP ad w1 fun p => K p w1 := by
  obtain ⟨ad, hc, _, hr⟩ := run_idxP hT h hi
  unfold semA
  rw [Sem.wp_iff_run, hr w]
  exact ⟨_, rfl, _, hc, hk⟩
theorem idxP_fix {t e : TypeId} {base : Nat} {w : World} {s : Slc} {ps : List Nat} (h : PRow e base w s ps) {i : Nat} (hi : i < ps.length) {K : Option Addr → Prop} (hk : K (some ⟨ps.getD i 0, 0, none⟩)) (hT : psB pr t e = true := by kernel_rfl) :
    fixA pr (Instr.indexAt t s.v (.int .i64 (i : Int))) w fun ad => ldP ad w K := by
  obtain ⟨ad, hc, _, hr⟩ := run_idxP hT h hi
  exact ⟨ad, fun w' _ => hr w', _, hc, hk⟩
theorem idxP_any {t e : TypeId} {base : Nat} {w : World} {s : Slc} {ps : List Nat} (h : PRow e base w s ps) {i : Nat} (hi : i < ps.length) {V : Nat → Prop} (hV : ∀ g, s.A = some ⟨g, 0, none⟩ → ¬ V g) {K : Option Addr → Prop} (hk : K (some ⟨ps.getD i 0, 0, none⟩)) (hT : psB pr t e = true := by kernel_rfl) :
    anyA pr (Instr.indexAt t s.v (.int .i64 (i : Int))) fun ad => Out V ad (ldP ad w K) := by
  obtain ⟨ad, hc, ⟨g, hA, hb⟩, hr⟩ := run_idxP hT h hi
  exact ⟨ad, hr, by rw [hb]; exact hV g hA, _, hc, hk⟩

/-- append of one pointer. -/
theorem appP {t e ty : TypeId} {base : Nat} {w : World} {s : Slc} {ps : List Nat} {p : Nat} {ad : Addr} (h : PRow e base w s ps) (hb : base ≤ w.heap.size) (hc : w.cell? ad = some (.pointer (some ⟨p, 0, none⟩))) (hsz : (ps.length + 1) * 8 ≤ 2 ^ 47) {K : Slc → World → Prop}
    (hk : ∀ s' w', PRow e base w' s' (ps ++ [p]) → w.grownBy w' s.v.ownBlock → (∀ g, s'.A = some ⟨g, 0, none⟩ → s.A = some ⟨g, 0, none⟩ ∨ g = w.heap.size) → K s' w') (hT : psB pr t e = true := by kernel_rfl) :
    semS pr (Builtin.append_ #[t, t] ty #[s.v, (⟨some ad, 1, 1⟩ : Slc).v]) w K := by
  obtain ⟨hu, inf, hinf, hs, hby, hz⟩ := psB_out hT
  have hrow : w.ownsRow base e 1 s.v ps.length (ptrs ps) := by
    rcases h with ⟨rfl, rfl⟩ | ⟨_, h⟩
    · exact World.ownsRow_nil w base e 1
    · exact h
  obtain ⟨v', w', hr, ho, hg, hn, hat⟩ := run_append_own_at (P := pr) w base t ty e inf (.pointer none) 1 8 hu hinf hz hs hby rfl (by omega) s.v ps.length (ptrs ps) hrow ad 1 1 [.pointer (some ⟨p, 0, none⟩)] (by simp)
    (fun j u hj => by
      have hj' : j = 0 := by
        have := (List.getElem?_eq_some_iff.1 hj).1
        simpa using this
      subst hj'
      have : u = .pointer (some ⟨p, 0, none⟩) := (Option.some.inj hj).symm
      subst this
      have e0 : ad.add 0 = ad := by simp [Addr.add]
      rw [e0]; exact hc) (by simp [Value.oneCell']) (by unfold maxLen; omega) (by omega) hb
  have hlen : (ps ++ [p]).length = ps.length + 1 := by simp
  have hp : ptrs (ps ++ [p]) = ptrs ps ++ [.pointer (some ⟨p, 0, none⟩)] := by simp [ptrs]
  rw [← hp, ← hlen] at ho
  have ho2 := ho
  obtain ⟨_, ⟨_, h0⟩ | ⟨g, cap, cur, rfl, _⟩⟩ := ho2
  · simp at h0
  · unfold semS
    rw [Sem.wp_iff_run]
    have hx : (⟨some ad, 1, 1⟩ : Slc).v = .slice (some ad) 1 1 := rfl
    rw [hx, hr]
    refine ⟨⟨some ⟨g, 0, none⟩, (ps ++ [p]).length, cap⟩, rfl, hk _ _ (.inr ⟨by simp, ho⟩) hg fun g' hg' => ?_⟩
    have : g = g' := congrArg Addr.block (Option.some.inj hg')
    subst this
    rcases hat with hat | hat
    · left
      rcases h with ⟨rfl, rfl⟩ | ⟨hne, h⟩
      · simp [Value.ownBlock, Slc.v] at hat
      · obtain ⟨g2, cap2, cur2, rfl, _⟩ := PRow.out (.inr ⟨hne, h⟩) hne
        simp [Value.ownBlock, Slc.v] at hat
        rw [hat]
    · right
      simpa [Value.ownBlock] using hat

theorem own_block {s : Slc} {g : Nat} (h : some g = s.v.ownBlock) (hs : ∀ ad, s.A = some ad → ∃ g, ad = ⟨g, 0, none⟩) : s.A = some ⟨g, 0, none⟩ := by
  obtain ⟨A, n, c⟩ := s
  cases A with
  | none => simp [Slc.v, Value.ownBlock] at h
  | some ad =>
    obtain ⟨g', rfl⟩ := hs ad rfl
    simp [Slc.v, Value.ownBlock] at h
    rw [h]
theorem PRow.form {e : TypeId} {base : Nat} {w : World} {s : Slc} {ps : List Nat} (h : PRow e base w s ps) : ∀ ad, s.A = some ad → ∃ g, ad = ⟨g, 0, none⟩ := fun ad hA => by obtain ⟨g, _, e, _⟩ := h.at_ hA; exact ⟨g, e⟩
theorem grow_blk {e : TypeId} {base : Nat} {w w' : World} {s : Slc} {ps : List Nat} (h : PRow e base w s ps) (hg : w.grownBy w' s.v.ownBlock) {b : Nat} {cs : Array Value} {v : Value} (hb : Blk w b cs) (hc : cs[0]? = some v) (hv : ∀ p, v ≠ .pointer p) : Blk w' b cs := by
  have hl := hb.lt
  have hne : some b ≠ s.v.ownBlock := fun e => h.blk_ne hb hc hv (own_block e h.form) rfl
  obtain ⟨t, hb⟩ := hb
  exact ⟨t, by rw [hg.block b hl hne]; exact hb⟩
theorem grow_rd {e : TypeId} {base : Nat} {w w' : World} {s : Slc} {ps : List Nat} (h : PRow e base w s ps) (hg : w.grownBy w' s.v.ownBlock) {x : Slc} {l : List Int} (hx : Rd .u64 w x l) (ho : ∀ g, s.A = some ⟨g, 0, none⟩ → Off g x) : Rd .u64 w' x l :=
  ⟨hx.n, hx.c, fun i hi => by
    obtain ⟨ad, e, hc⟩ := hx.get i hi
    refine ⟨ad, e, hg.cell hc fun e2 => ?_⟩
    rw [Eng.add_block] at e2
    exact ho _ (own_block e2 h.form) ad e (by rw [hx.n]; omega) rfl⟩
theorem grow_row {e e' : TypeId} {base base' : Nat} {w w' : World} {s o : Slc} {ps qs : List Nat} (h : PRow e base w s ps) (hg : w.grownBy w' s.v.ownBlock) (ho : PRow e' base' w o qs) (he : e ≠ e') : PRow e' base' w' o qs :=
  ho.keep fun g hA => by
    obtain ⟨g', _, e1, _, hl, _⟩ := ho.at_ hA
    have : g = g' := congrArg Addr.block e1
    subst this
    exact hg.block g hl fun e2 => h.ne ho he (own_block e2 h.form) hA rfl
theorem grow_ahead {e : TypeId} {base : Nat} {w0 w w' : World} {s : Slc} {ps : List Nat} (h : PRow e base w s ps) (hg : w.grownBy w' s.v.ownBlock) (ha : Ahead w0 w) (hb : w0.heap.size ≤ base) : Ahead w0 w' :=
  Below.grown ha hg ha.size fun k hk => by
    have hA := own_block hk.symm h.form
    obtain ⟨g, _, e, h1, _⟩ := h.at_ hA
    have : k = g := congrArg Addr.block e
    omega
/-- In no block of the two rows. -/
def Qf (l r : Slc) (x : Slc) : Prop := ∀ g, l.A = some ⟨g, 0, none⟩ ∨ r.A = some ⟨g, 0, none⟩ → Off g x

end Fuel
end Go.Proofs.Ytflipimlpgbnmaa
namespace Go.Proofs.Ytflipimlpgbnmaa
open Go Go.RowKit Eng Sp Dg
set_option linter.unusedVariables false
set_option linter.unusedSimpArgs false
set_option maxRecDepth 100000
namespace Fuel
open _root_.Go.Proofs.Ytflipimlpgbnmaa.Nat (Yes num_spec end_awake Num Num.ahead atts tw tw_length atts_le alike_spec num_of Norm_spec OwnNil OwnNil.rd)
open _root_.Go.Proofs.Ytflipimlpgbnmaa.Ref (RN RN.ahead Of_specN Lend_spec Kept_spec lent lent_length len32)
open _root_.Go.Proofs.Ytflipimlpgbnmaa.Mul (Only Off rd_off)
open Sb

abbrev tM : TypeId := 55
abbrev tR : TypeId := 76
theorem tMR : tM ≠ tR := by decide
theorem slc_np (s : Slc) : ∀ p, s.v ≠ .pointer p := fun p e => by cases e

/-- New, with the place of the fuel. -/
theorem NewQ_spec {w : World} {s : Slc} {N : Nat} (h : Num w s N) : Calls pr fuel_New_id #[s.v] w fun e w' => Ahead w w' ∧ ∃ b, e = .returned (.pointer (some ⟨b, 0, none⟩)) ∧ w.heap.size ≤ b ∧ Mq (fun x => ∀ ad, x.A = some ad → w.heap.size ≤ ad.block) w' b N 0 := by
  obtain ⟨l, r, hl, ol, rfl⟩ := h
  refine fuel_New_vc s w _ (Calls.mono (Norm_spec r hl ol) ?_)
  rintro e w1 ⟨h1, s1, rfl, o1⟩
  refine ⟨_, rfl, newC_b fun b w2 hb h2 hs2 B2 => ⟨h1.trans h2, b, rfl, by have := h1.size; omega, s1, fun ad e => ?_, B2, ?_⟩⟩
  · rcases o1 with ⟨rfl, _⟩ | ⟨q, q1, _, q3⟩
    · cases e
    · have := Option.some.inj (q3.A.symm.trans e)
      subst this; exact q1
  · have := Nat.len_le ol
    exact ⟨_, o1.rd.ahead h2, by omega, ok_digs two64 _, val_digs two64 _⟩

/-- Meters and the document's, one by one. -/
structure Inv (w0 w : World) (l r : Slc) (mb rb : List Nat) : Prop where
  pl : PRow tM w0.heap.size w l mb
  pr_ : PRow tR w0.heap.size w r rb
  len : rb.length ≤ mb.length
  ah : Ahead w0 w
  nm : mb.Nodup
  nr : rb.Nodup
  gm : ∀ b ∈ mb, w0.heap.size ≤ b
  gr : ∀ b ∈ rb, w0.heap.size ≤ b
  lm : ∀ b ∈ mb, b < w.heap.size
  lr : ∀ b ∈ rb, b < w.heap.size
  each : ∀ i, i < rb.length → ∃ N k, Mq (Qf l r) w (mb.getD i 0) N k ∧ Rt (Qf l r) w (rb.getD i 0) N k ∧ k ≤ atts N ∧ (digs B32 N).length + 1 ≤ 2 ^ 45
theorem Inv.ahead {w0 w w' : World} {l r : Slc} {mb rb : List Nat} (h : Inv w0 w l r mb rb) (ha : Ahead w w') : Inv w0 w' l r mb rb :=
  ⟨h.pl.ahead ha, h.pr_.ahead ha, h.len, h.ah.trans ha, h.nm, h.nr, h.gm, h.gr, fun b hb => Nat.lt_of_lt_of_le (h.lm b hb) ha.size, fun b hb => Nat.lt_of_lt_of_le (h.lr b hb) ha.size, fun i hi => by obtain ⟨N, k, h1, h2, h3⟩ := h.each i hi; exact ⟨N, k, h1.ahead ha, h2.ahead ha, h3⟩⟩
theorem getD_mem {l : List Nat} {i : Nat} (h : i < l.length) : l.getD i 0 ∈ l := by rw [getD_lt _ _ h]; exact List.getElem_mem h
theorem getD_app {l : List Nat} {x i : Nat} (h : i < l.length) : (l ++ [x]).getD i 0 = l.getD i 0 := by
  rw [List.getD_eq_getElem?_getD, List.getD_eq_getElem?_getD, List.getElem?_append_left h]
theorem getD_last {l : List Nat} {x : Nat} : (l ++ [x]).getD l.length 0 = x := by
  rw [List.getD_eq_getElem?_getD, List.getElem?_append_right (Nat.le_refl _)]; simp
theorem nodup_getD {l : List Nat} (h : l.Nodup) {i j : Nat} (hi : i < l.length) (hj : j < l.length) (hij : i ≠ j) : l.getD i 0 ≠ l.getD j 0 := by
  rw [getD_lt _ _ hi, getD_lt _ _ hj]
  have hp := List.pairwise_iff_getElem.1 h
  rcases Nat.lt_or_gt_of_ne hij with q | q
  · exact hp i j hi hj q
  · exact fun e => hp j i hj hi q e.symm
theorem nodup_app {l : List Nat} {x : Nat} (h : l.Nodup) (hx : x ∉ l) : (l ++ [x]).Nodup := by
  rw [List.nodup_append]
  exact ⟨h, by simp, fun a ha b hb => by rw [List.mem_singleton.1 hb]; exact fun e => hx (e ▸ ha)⟩

section
variable {w0 w w' : World} {l l' r r' : Slc} {mb rb : List Nat}
theorem qfL (hA : ∀ g, l'.A = some ⟨g, 0, none⟩ → l.A = some ⟨g, 0, none⟩ ∨ g = w.heap.size) {x : Slc} {L : List Int} (hx : Rd .u64 w x L) (h : Qf l r x) : Qf l' r x := by
  rintro g (hg | hg)
  · rcases hA g hg with h1 | rfl
    · exact h g (.inl h1)
    · exact rd_off hx (Nat.le_refl _)
  · exact h g (.inr hg)
theorem qfR (hA : ∀ g, r'.A = some ⟨g, 0, none⟩ → r.A = some ⟨g, 0, none⟩ ∨ g = w.heap.size) {x : Slc} {L : List Int} (hx : Rd .u64 w x L) (h : Qf l r x) : Qf l r' x := by
  rintro g (hg | hg)
  · exact h g (.inl hg)
  · rcases hA g hg with h1 | rfl
    · exact h g (.inr h1)
    · exact rd_off hx (Nat.le_refl _)
theorem mqL (h : Inv w0 w l r mb rb) (hg : w.grownBy w' l.v.ownBlock) (hA : ∀ g, l'.A = some ⟨g, 0, none⟩ → l.A = some ⟨g, 0, none⟩ ∨ g = w.heap.size) {b N k : Nat} (hm : Mq (Qf l r) w b N k) : Mq (Qf l' r) w' b N k := by
  obtain ⟨s, hq, h1, L, h2, h3⟩ := hm
  exact ⟨s, qfL hA h2 hq, grow_blk h.pl hg h1 rfl (slc_np s), L, grow_rd h.pl hg h2 (fun g e => hq g (.inl e)), h3⟩
theorem rtL (h : Inv w0 w l r mb rb) (hg : w.grownBy w' l.v.ownBlock) (hA : ∀ g, l'.A = some ⟨g, 0, none⟩ → l.A = some ⟨g, 0, none⟩ ∨ g = w.heap.size) {b N k : Nat} (hm : Rt (Qf l r) w b N k) : Rt (Qf l' r) w' b N k := by
  obtain ⟨s, hq, h1, h2⟩ := hm
  exact ⟨s, qfL hA h2 hq, grow_blk h.pl hg h1 rfl (slc_np s), grow_rd h.pl hg h2 (fun g e => hq g (.inl e))⟩
theorem mqR (h : Inv w0 w l r mb rb) (hg : w.grownBy w' r.v.ownBlock) (hA : ∀ g, r'.A = some ⟨g, 0, none⟩ → r.A = some ⟨g, 0, none⟩ ∨ g = w.heap.size) {b N k : Nat} (hm : Mq (Qf l r) w b N k) : Mq (Qf l r') w' b N k := by
  obtain ⟨s, hq, h1, L, h2, h3⟩ := hm
  exact ⟨s, qfR hA h2 hq, grow_blk h.pr_ hg h1 rfl (slc_np s), L, grow_rd h.pr_ hg h2 (fun g e => hq g (.inr e)), h3⟩
theorem rtR (h : Inv w0 w l r mb rb) (hg : w.grownBy w' r.v.ownBlock) (hA : ∀ g, r'.A = some ⟨g, 0, none⟩ → r.A = some ⟨g, 0, none⟩ ∨ g = w.heap.size) {b N k : Nat} (hm : Rt (Qf l r) w b N k) : Rt (Qf l r') w' b N k := by
  obtain ⟨s, hq, h1, h2⟩ := hm
  exact ⟨s, qfR hA h2 hq, grow_blk h.pr_ hg h1 rfl (slc_np s), grow_rd h.pr_ hg h2 (fun g e => hq g (.inr e))⟩
theorem Inv.growL (h : Inv w0 w l r mb rb) {m : Nat} (hnm : m ∉ mb) (hge : w0.heap.size ≤ m) (hlt : m < w.heap.size) (hrow : PRow tM w0.heap.size w' l' (mb ++ [m])) (hg : w.grownBy w' l.v.ownBlock) (hA : ∀ g, l'.A = some ⟨g, 0, none⟩ → l.A = some ⟨g, 0, none⟩ ∨ g = w.heap.size) :
    Inv w0 w' l' r (mb ++ [m]) rb :=
  ⟨hrow, grow_row h.pl hg h.pr_ tMR, by have := h.len; rw [List.length_append]; omega, grow_ahead h.pl hg h.ah (Nat.le_refl _), nodup_app h.nm hnm, h.nr,
    fun b hb => (List.mem_append.1 hb).elim (h.gm b) (fun hb => by rw [List.mem_singleton.1 hb]; exact hge), h.gr,
    fun b hb => Nat.lt_of_lt_of_le ((List.mem_append.1 hb).elim (h.lm b) (fun hb => by rw [List.mem_singleton.1 hb]; exact hlt)) hg.size, fun b hb => Nat.lt_of_lt_of_le (h.lr b hb) hg.size, fun i hi => by
      obtain ⟨N, k, h1, h2, h3⟩ := h.each i hi
      exact ⟨N, k, by rw [getD_app (by have := h.len; omega)]; exact mqL h hg hA h1, rtL h hg hA h2, h3⟩⟩
theorem Inv.growR (h : Inv w0 w l r mb rb) {q N k : Nat} (hl : rb.length < mb.length) (hnm : q ∉ rb) (hge : w0.heap.size ≤ q) (hlt : q < w.heap.size) (hrow : PRow tR w0.heap.size w' r' (rb ++ [q])) (hg : w.grownBy w' r.v.ownBlock) (hA : ∀ g, r'.A = some ⟨g, 0, none⟩ → r.A = some ⟨g, 0, none⟩ ∨ g = w.heap.size)
    (hm : Mq (Qf l r) w (mb.getD rb.length 0) N k) (hr : Rt (Qf l r) w q N k) (hk : k ≤ atts N) (hN : (digs B32 N).length + 1 ≤ 2 ^ 45) : Inv w0 w' l r' mb (rb ++ [q]) :=
  ⟨grow_row h.pr_ hg h.pl tMR.symm, hrow, by rw [List.length_append, List.length_singleton]; omega, grow_ahead h.pr_ hg h.ah (Nat.le_refl _), h.nm, nodup_app h.nr hnm, h.gm,
    fun b hb => (List.mem_append.1 hb).elim (h.gr b) (fun hb => by rw [List.mem_singleton.1 hb]; exact hge), fun b hb => Nat.lt_of_lt_of_le (h.lm b hb) hg.size,
    fun b hb => Nat.lt_of_lt_of_le ((List.mem_append.1 hb).elim (h.lr b) (fun hb => by rw [List.mem_singleton.1 hb]; exact hlt)) hg.size, fun i hi => by
      rw [List.length_append, List.length_singleton] at hi
      by_cases he : i = rb.length
      · subst he
        exact ⟨N, k, mqR h hg hA hm, by rw [getD_last]; exact rtR h hg hA hr, hk, hN⟩
      · obtain ⟨N, k, h1, h2, h3⟩ := h.each i (by omega)
        exact ⟨N, k, mqR h hg hA h1, by rw [getD_app (by omega)]; exact rtR h hg hA h2, h3⟩⟩
theorem blk_ne {w : World} {a b : Nat} {x y : Array Value} (ha : Blk w a x) (hb : Blk w b y) (hs : x.size ≠ y.size) : a ≠ b := by
  intro e
  subst e
  obtain ⟨t, ha⟩ := ha
  obtain ⟨u, hb⟩ := hb
  rw [ha] at hb
  have : x = y := by injection hb with hb; injection hb
  exact hs (by rw [this])
theorem Inv.act (h : Inv w0 w l r mb rb) {i N k : Nat} (hi : i < rb.length) (S : Stq (fun q => q = mb.getD i 0 ∨ q = rb.getD i 0) w w') (hm : Mq (Qf l r) w' (mb.getD i 0) N k) (hr : Rt (Qf l r) w' (rb.getD i 0) N k) (hk : k ≤ atts N) (hN : (digs B32 N).length + 1 ≤ 2 ^ 45) : Inv w0 w' l r mb rb := by
  have hl := h.len
  obtain ⟨N0, k0, m0, r0, _⟩ := h.each i hi
  obtain ⟨sm, _, bm, _⟩ := m0
  obtain ⟨sr, _, br_, _⟩ := r0
  have kl : ∀ g, l.A = some ⟨g, 0, none⟩ → w'.heap[g]? = w.heap[g]? := fun g hg => by
    obtain ⟨g', _, e, _, hlt, _⟩ := h.pl.at_ hg
    have : g = g' := congrArg Addr.block e
    subst this
    exact S.bar.block g hlt (by rintro (e | e); exact h.pl.blk_ne bm rfl (slc_np _) hg e.symm; exact h.pl.blk_ne br_ rfl (slc_np _) hg e.symm)
  have kr : ∀ g, r.A = some ⟨g, 0, none⟩ → w'.heap[g]? = w.heap[g]? := fun g hg => by
    obtain ⟨g', _, e, _, hlt, _⟩ := h.pr_.at_ hg
    have : g = g' := congrArg Addr.block e
    subst this
    exact S.bar.block g hlt (by rintro (e | e); exact h.pr_.blk_ne bm rfl (slc_np _) hg e.symm; exact h.pr_.blk_ne br_ rfl (slc_np _) hg e.symm)
  have g1 := h.gm _ (getD_mem (show i < mb.length by omega))
  have g2 := h.gr _ (getD_mem hi)
  refine ⟨h.pl.keep kl, h.pr_.keep kr, hl, ?_, h.nm, h.nr, h.gm, h.gr, fun b hb => Nat.lt_of_lt_of_le (h.lm b hb) S.bar.size, fun b hb => Nat.lt_of_lt_of_le (h.lr b hb) S.bar.size, fun j hj => ?_⟩
  · have a := h.ah
    exact ⟨S.bar.os.trans a.os, S.bar.tape.trans a.tape, S.bar.output.trans a.output, Nat.le_trans a.size S.bar.size, fun q hq => (S.bar.block q (Nat.lt_of_lt_of_le hq a.size) (by rintro (e | e) <;> omega)).trans (Below.block a q hq)⟩
  · by_cases he : j = i
    · subst he; exact ⟨N, k, hm, hr, hk, hN⟩
    · obtain ⟨N1, k1, m1, r1, h3⟩ := h.each j hj
      have d1 : mb.getD j 0 ≠ mb.getD i 0 := nodup_getD h.nm (by omega) (by omega) he
      have d2 : rb.getD j 0 ≠ rb.getD i 0 := nodup_getD h.nr (by omega) (by omega) he
      obtain ⟨s1, q1, b1, L1, n1, n2⟩ := m1
      obtain ⟨s2, q2, b2, n3⟩ := r1
      exact ⟨N1, k1, ⟨s1, q1, S.blk b1 (by rintro (e | e); exact d1 e; exact blk_ne b1 br_ (by simp) e), L1, S.rd _ _ n1, n2⟩, ⟨s2, q2, S.blk b2 (by rintro (e | e); exact blk_ne b2 bm (by simp) e; exact d2 e), S.rd _ _ n3⟩, h3⟩
end

/-- The acts that a law is given. -/
structure RdA (w : World) (s : Slc) (n : Nat) : Prop where
  len : s.n = n
  get : ∀ i, i < n → ∃ (ad : Addr) (kind on p : Int) (f : Slc) (l : List Nat), (∀ w', (Instr.indexAt 72 s.v (.int .i64 (i : Int))).run pr w' = .ok (.pointer (some ad)) w') ∧ w.cell? ad = some (.int .i64 kind) ∧ w.cell? (ad.add 1) = some (.int .i64 on) ∧ w.cell? (ad.add 2) = some (.int .i64 p) ∧ w.cell? (ad.add 3) = some f.v ∧
    Rd .u64 w f (nn l) ∧ ok B64 l ∧ l.length * 8 ≤ 140737488351232 ∧ -9223372036854775808 ≤ on ∧ on ≤ 9223372036854775807
theorem semRemI {x : Int} {n : Nat} {t : TypeId} {w : World} {K : Int → World → Prop} (hn : 0 < n) (h : K (Int.tmod x (n : Int)) w) : semI pr .i64 (binOp .rem t (.int .i64 x) (.int .i64 (n : Int))) w K := by
  have e : binOp .rem t (.int .i64 x) (.int .i64 (n : Int)) = pure (.int .i64 (Int.tmod x (n : Int))) := by
    unfold binOp
    simp only [Op.intDiv]
    rw [if_neg (by simp), if_neg (by omega)]
  unfold semI
  rw [e, Sem.wp_iff_run]
  exact ⟨_, rfl, h⟩

theorem wrapRem {x : Int} {n : Nat} (hn : 0 < n) (hb : (n : Int) ≤ 70368744177664) : ∃ i : Nat, i < n ∧ Int.tmod (IntKind.i64.wrap (Int.tmod x (n : Int) + (n : Int))) (n : Int) = (i : Int) := by
  have t1 := Int.tmod_lt_of_pos x (show (0 : Int) < (n : Int) by omega)
  have t2 := Int.lt_tmod_of_pos x (show (0 : Int) < (n : Int) by omega)
  rw [wrap_i64 (by omega) (by omega), Int.tmod_eq_emod_of_nonneg (by omega)]
  have h1 := Int.emod_nonneg (Int.tmod x (n : Int) + (n : Int)) (show (n : Int) ≠ 0 by omega)
  have h2 := Int.emod_lt_of_pos (Int.tmod x (n : Int) + (n : Int)) (show (0 : Int) < (n : Int) by omega)
  exact ⟨((Int.tmod x (n : Int) + (n : Int)) % (n : Int)).toNat, by omega, by omega⟩

/-- The act that lies in a block. -/
def ActB (w0 w : World) (c : Nat) : Prop := ∃ (kind on p : Int) (f : Slc) (l : List Nat), Blk w c #[.int .i64 kind, .int .i64 on, .int .i64 p, f.v] ∧ Rd .u64 w0 f (nn l) ∧ ok B64 l ∧ l.length * 8 ≤ 140737488351232
theorem int_np (k : IntKind) (x : Int) : ∀ p, Value.int k x ≠ .pointer p := fun p e => by cases e

set_option maxHeartbeats 2000000 in
theorem FuelMeters_ok {w : World} {s0 : Slc} {n : Nat} (hA : RdA w s0 n) (hn : n * 8 ≤ 140737488351232) : Calls pr surdlaw18_FuelMeters_id #[s0.v] w (Yes w) := by
  have hB := B64v
  refine surdlaw18_FuelMeters_vc s0 w _
    (fun t3 t4 t15 t16 t17 w' => t15 = s0 ∧ t16 = (n : Int) ∧ ∃ (i : Nat) (mb rb : List Nat), t17 = (i : Int) ∧ i ≤ n ∧ mb.length ≤ i ∧ rb.length = mb.length ∧ Inv w w' t3 t4 mb rb)
    (fun _ _ _ t16 t17 _ => (t16 - t17).toNat)
    (fun t3 t4 t15 t16 t17 w_ t3' t4' t6' t8' t9' t15' t16' t17' n' j' w' => t3 = t3' ∧ t4 = t4' ∧ t16 = t16' ∧ t17 = t17' ∧ t15' = s0 ∧ t16' = (n : Int) ∧ ∃ (i : Nat) (mb rb : List Nat) (wx : World) (c q m N : Nat) (wa : Slc) (L : List Int) (len j : Nat), t17' = (i : Int) ∧ i < n ∧ mb.length ≤ i ∧ rb.length = mb.length ∧ Inv w wx t3' t4' mb rb ∧ Ahead wx w' ∧
      t6' = ⟨c, 0, none⟩ ∧ c < q ∧ (∃ (kind on p : Int) (f : Slc) (l : List Nat), Blk w' c #[.int .i64 kind, .int .i64 on, .int .i64 p, f.v] ∧ Rd .u64 w f (nn l) ∧ ok B64 l ∧ l.length * 8 ≤ 140737488351232 ∧ N = val B64 l) ∧ t8' = ⟨some ⟨q, 2, none⟩, len, len + 2⟩ ∧ t9' = some ⟨m, 0, none⟩ ∧ wx.heap.size ≤ q ∧ Own .u64 tU64 w' wa L q ∧ L.length = len + 4 ∧ n' = (len : Int) ∧ j' = (j : Int) ∧ j ≤ len ∧ len * 8 ≤ 140737488351232 ∧
      Mq (fun x => Off q x ∧ ∀ ad, x.A = some ad → wx.heap.size ≤ ad.block) w' m N 0 ∧ q < m)
    (fun _ _ _ _ _ _ _ _ _ _ _ _ _ _ n' j' _ => (n' - j').toNat)
    (fun t4 t123 n' i' w' => ∃ (i : Nat) (mb rb : List Nat), n' = (mb.length : Int) ∧ i' = (i : Int) ∧ i ≤ mb.length ∧ mb.length ≤ n ∧ rb.length = mb.length ∧ Inv w w' t123 t4 mb rb)
    (fun _ _ n' i' _ => (n' - i').toNat)
    (fun t3 t4 t15 t16 t17 w_ t3' t4' t6' t15' t16' t17' bb w' => t3 = t3' ∧ t4 = t4' ∧ t16 = t16' ∧ t17 = t17' ∧ t15' = s0 ∧ t16' = (n : Int) ∧ ∃ (i : Nat) (mb rb : List Nat) (c : Nat), t17' = (i : Int) ∧ i < n ∧ mb.length ≤ i ∧ rb.length = mb.length ∧ Inv w w' t3' t4' mb rb ∧ t6' = ⟨c, 0, none⟩ ∧ w.heap.size ≤ c ∧ ActB w w' c ∧ (bb = false → mb ≠ [])) ?_ ?_ ?_ ?_ ?_
  · exact ⟨rfl, by rw [hA.len], 0, [], [], rfl, Nat.zero_le _, Nat.le_refl _, rfl, PRow.nil, PRow.nil, Nat.le_refl _, Ahead.refl _, List.nodup_nil, List.nodup_nil, (fun b hb => (by cases hb)), (fun b hb => (by cases hb)), (fun b hb => (by cases hb)), (fun b hb => (by cases hb)), (fun i hi => absurd hi (by simp))⟩
  · rintro t3 t4 _ _ _ w1 ⟨rfl, rfl, i, mb, rb, rfl, hi, hmi, hrb, hI⟩
    refine br_intro (fun hlt => ?_) (fun hge => ?_)
    · have hi' : i < n := by have := of_decide_eq_true hlt; omega
      obtain ⟨ad, kind, on, p, f, l, hr, c0, c1, c2, c3, rf, of, lf, on1, on2⟩ := hA.get i hi'
      unfold semA
      rw [Sem.wp_iff_run, hr w1]
      have a := hI.ah
      refine ⟨_, rfl, kind, a.cell c0, on, a.cell c1, p, a.cell c2, f, a.cell c3, newC_b fun c w2 hc h2 hs2 B => ?_⟩
      refine stC_b 0 B (by simp) rfl fun w3 u3 B3 => stC_b 1 B3 (by simp) rfl fun w4 u4 B4 => stC_b 2 B4 (by simp) rfl fun w5 u5 B5 => stC_b 3 B5 (by simp) rfl fun w6 u6 B6 => ?_
      have B6' : Blk w6 c #[.int .i64 kind, .int .i64 on, .int .i64 p, f.v] := by simpa using B6
      have u := ((u3.trans u4).trans u5).trans u6
      have h16 : Ahead w1 w6 := u.ahead h2 (by omega)
      have hI6 := hI.ahead h16
      have hcw : w.heap.size ≤ c := by have := a.size; omega
      refine ldI_b 0 B6' rfl (br_intro (fun hk => ?_) (fun hk => ?_))
      · exact ⟨rfl, rfl, rfl, rfl, rfl, rfl, i, mb, rb, c, rfl, hi', hmi, hrb, hI6, rfl, hcw, ⟨kind, on, p, f, l, B6', rf, of, lf⟩, fun h => by cases h⟩
      · refine ⟨rfl, rfl, rfl, rfl, rfl, rfl, i, mb, rb, c, rfl, hi', hmi, hrb, hI6, rfl, hcw, ⟨kind, on, p, f, l, B6', rf, of, lf⟩, fun h e => ?_⟩
        rw [hI.pl.n, e] at h
        simp at h
    · have hi' : i = n := by have := of_decide_eq_false hge; omega
      exact ⟨0, mb, rb, by rw [hI.pl.n], rfl, Nat.zero_le _, by omega, hrb, hI⟩
  · rintro t3 t4 _ _ _ w_ - _ _ _ _ _ _ _ _ _ _ w1 ⟨rfl, rfl, rfl, rfl, rfl, rfl, i, mb, rb, wx, c, q, m, N, wa, L, len, j, rfl, hi, hmi, hrb, hI, hw, rfl, hcq, ⟨kind, on, p, f, l, Bc, rf, of, lf, hN⟩, rfl, rfl, hq, o, hL, rfl, rfl, hj, hlen, hM, hqm⟩
    have hwx := hI.ah.size
    refine br_intro (fun hlt => ?_) (fun hge => ?_)
    · have hj' : j < len := by have := of_decide_eq_true hlt; omega
      refine sub_st (k := .u64) (e := tU64) (by kernel_rfl) o rfl (by omega) (by simp only; omega) (by simp only; omega) (x := 1) fun w2 o2 on' => ?_
      have e8 : IntKind.i64.wrap ((j : Int) + 1) = ((j + 1 : Nat) : Int) := by rw [wrap_i64 (by omega) (by omega)]; omega
      rw [e8]
      obtain ⟨s, ⟨f1, f2⟩, b1, b2⟩ := hM
      exact ⟨⟨rfl, rfl, rfl, rfl, rfl, rfl, i, mb, rb, wx, c, q, m, N, wa, _, len, j + 1, rfl, hi, hmi, hrb, hI, on'.ahead hw hq, rfl, hcq, ⟨kind, on, p, f, l, Only.blk' on' Bc (by omega), rf, of, lf, hN⟩, rfl, rfl, hq, o2, by simpa using hL, rfl, rfl, hj', hlen, ⟨s, ⟨f1, f2⟩, Only.blk' on' b1 (by omega), Only.num on' b2 f1⟩, hqm⟩, by omega⟩
    · refine newC_b fun d w12 hd h12 hs12 BD => ?_
      have I12 := hI.ahead (hw.trans h12)
      have M12 : Mq (Qf t3 t4) w12 m N 0 := (hM.ahead h12).mono fun s ⟨_, loc⟩ g hg ad e _ hb => by
        have h1 := loc ad e
        rcases hg with hg | hg
        · obtain ⟨g', _, e1, _, h2, _⟩ := hI.pl.at_ hg
          have : g = g' := congrArg Addr.block e1
          omega
        · obtain ⟨g', _, e1, _, h2, _⟩ := hI.pr_.at_ hg
          have : g = g' := congrArg Addr.block e1
          omega
      refine appP I12.pl I12.ah.size (BD.cell (i := 0) rfl) (by omega) fun s6 w13 hrow hg hA' => ?_
      have hnm : m ∉ mb := fun h => by have := hI.lm m h; omega
      have I13 := I12.growL hnm (by omega) M12.lt hrow hg hA'
      have M13 := mqL I12 hg hA' M12
      have B13 := grow_blk I12.pl hg (Bc.ahead h12) rfl (int_np _ _)
      refine ldS_b 3 B13 rfl (Calls.mono (Of_specN (rf.ahead I13.ah) lf of) ?_)
      rintro e w14 ⟨h14, s8, rfl, r8, loc8⟩
      refine ⟨_, rfl, newC_b fun q2 w15 hq2 h15 hs15 BQ => newC_b fun d2 w16 hd2 h16 hs16 BD2 => ?_⟩
      have h1316 := (h14.trans h15).trans h16
      have I16 := I13.ahead h1316
      have M16 := M13.ahead h1316
      have z14 := h14.size
      have R16 : Rt (Qf s6 t4) w16 q2 N 0 := by
        refine ⟨s8, fun g hg ad e _ hb => ?_, BQ.ahead h16, by rw [hN]; exact RN.ahead (RN.ahead r8 h15) h16⟩
        have h1 := loc8 ad e
        rcases hg with hg | hg
        · obtain ⟨g', _, e1, _, h2, _⟩ := I13.pl.at_ hg
          have : g = g' := congrArg Addr.block e1
          omega
        · obtain ⟨g', _, e1, _, h2, _⟩ := I13.pr_.at_ hg
          have : g = g' := congrArg Addr.block e1
          omega
      refine appP I16.pr_ I16.ah.size (BD2.cell (i := 0) rfl) (by omega) fun s9 w17 hrow2 hg2 hA2 => ?_
      have hnq : q2 ∉ rb := fun h => by have := I13.lr q2 h; omega
      have z13 := I13.ah.size
      have hd32 : (digs B32 N).length + 1 ≤ 2 ^ 45 := by have := len32 of; rw [hN]; omega
      have I17 := I16.growR (q := q2) (N := N) (k := 0) (by rw [List.length_append, List.length_singleton]; omega) hnq (by omega) R16.lt hrow2 hg2 hA2 (by rw [hrb, getD_last]; exact M16) R16 (Nat.zero_le _) hd32
      rw [wrap_i64 (by omega) (by omega)]
      exact ⟨⟨rfl, rfl, i + 1, _, _, rfl, by omega, by rw [List.length_append, List.length_singleton]; omega, by rw [List.length_append, List.length_append, List.length_singleton, List.length_singleton]; omega, I17⟩, by omega⟩
  · rintro t4 t123 _ _ w1 ⟨i, mb, rb, rfl, rfl, hi, hmn, hrb, hI⟩
    refine br_intro (fun hlt => ?_) (fun hge => end_awake hI.ah)
    have hi' : i < mb.length := by have := of_decide_eq_true hlt; omega
    obtain ⟨N, k, hm, hr, hk, hN⟩ := hI.each i (by omega)
    have ad := Ahead.drew w1
    have hle := atts_le N
    refine idxP_sem hI.pl hi' (idxP_fix (hI.pr_.ahead ad) (by omega) ?_)
    refine Calls.mono (leftW_spec (hm.ahead ad).mt hk) ?_
    rintro e w29 ⟨h29, t, s14, rfl, _, _, r14⟩
    refine ⟨_, rfl, h29, Calls.mono (rLeft_spec ((hr.ahead ad).ahead h29) hk (by omega)) ?_⟩
    rintro e w30 ⟨h30, s15, rfl, r15, _⟩
    refine ⟨_, rfl, h30, Calls.mono (alike_spec (r14.ahead h30) r15 (by rw [List.length_drop, tw_length]; omega)) ?_⟩
    rintro e w31 ⟨h31, rfl⟩
    have h1 := ((ad.trans h29).trans h30).trans h31
    have hI31 := hI.ahead h1
    obtain ⟨v, _, v1, v2⟩ := hr.ahead h1
    refine ⟨_, rfl, h31, br_false rfl (idxP_fix hI31.pr_ (by omega) (onSome_intro rfl (ldI_b 1 v1 rfl (Calls.mono (Told_spec (hm.ahead h1).mt) ?_))))⟩
    rintro e w32 ⟨rfl, rfl⟩
    rw [wrap_i64 (by omega) (by omega)]
    exact ⟨_, rfl, Ahead.refl _, br_false (by simp) ⟨⟨i + 1, mb, rb, rfl, rfl, hi', hmn, hrb, hI31⟩, by omega⟩⟩
  · rintro t3 t4 _ _ _ w_ - _ _ _ _ _ _ bb w1 ⟨rfl, rfl, rfl, rfl, rfl, rfl, i, mb, rb, c, rfl, hi, hmi, hrb, hI, rfl, hcw, ⟨kind, on, p, f, l, B, rf, of, lf⟩, hbb⟩
    have hw0 := hI.ah.size
    have rf1 := rf.ahead hI.ah
    have hcl := B.lt
    refine br_intro (fun hb => ?_) (fun hb => ?_)
    · refine ldS_b 3 B rfl (Calls.mono (Lend_spec rf1 lf of) ?_)
      rintro e w7 ⟨h7, wa, pa, rfl, la⟩
      have lw := la.whole
      refine ⟨_, _, rfl, Calls.mono (NewQ_spec (num_of la.part of lf)) ?_⟩
      obtain ⟨q, hq, hcc, oq, rfl⟩ := la
      have hql := oq.lt
      rintro e w8 ⟨h8, m, rfl, hm, hM⟩
      refine ⟨_, rfl, br_false rfl (ldS_b 3 ((B.ahead h7).ahead h8) rfl (Calls.mono (Kept_spec (lw.ahead h8) ((rf1.ahead h7).ahead h8) lf) ?_))⟩
      rintro e w9 ⟨rfl, rfl⟩
      refine ⟨_, rfl, br_false rfl ⟨rfl, rfl, rfl, rfl, rfl, rfl, i, mb, rb, w1, c, q, m, val B64 l, wa, _, l.length, 0, rfl, hi, hmi, hrb, hI, h7.trans h8, rfl, by omega, ⟨kind, on, p, f, l, (B.ahead h7).ahead h8, rf, of, lf, rfl⟩, rfl, rfl, hq, oq.ahead h8, by rw [nn_length, lent_length], rfl, rfl, Nat.zero_le _, lf, hM.mono fun s loc => ⟨fun ad e _ hb => ?_, fun ad e => ?_⟩, by omega⟩⟩
      · have := loc ad e; omega
      · have := loc ad e; have := h7.size; omega
    · have hmb : mb ≠ [] := hbb (by simpa using hb)
      have hlen : 0 < mb.length := List.length_pos_iff.2 hmb
      obtain ⟨i', hi', ei⟩ := wrapRem (x := on) hlen (by omega)
      rw [hI.pl.n]
      refine ldI_b 1 B rfl (semRemI hlen (semRemI hlen ?_))
      rw [ei]
      obtain ⟨N, k, hm, hr, hk, hN⟩ := hI.each i' (by omega)
      have ad := Ahead.drew w1
      refine ldI_b 0 B rfl (br_intro (fun hk6 => ?_) (fun hk6 => ?_))
      · refine idxP_sem hI.pl hi' (Calls.mono (Fork_spec hm) ?_)
        rintro e w21 ⟨h21, m, rfl, hmge, hM⟩
        refine ⟨_, rfl, br_false rfl (newC_b fun d w22 hd h22 hs22 BD => ?_)⟩
        have h122 := h21.trans h22
        have I22 := hI.ahead h122
        have M22 := hM.ahead h22
        refine appP I22.pl I22.ah.size (BD.cell (i := 0) rfl) (by omega) fun s10 w23 hrow hg hA' => ?_
        have hnm : m ∉ mb := fun h => by have := hI.lm m h; omega
        have I23 := I22.growL hnm (by omega) M22.lt hrow hg hA'
        have M23 := mqL I22 hg hA' M22
        have R23 := rtL I22 hg hA' (hr.ahead h122)
        have ad23 := Ahead.drew w23
        obtain ⟨v, qv, v1, v2⟩ := R23.ahead ad23
        have P23 := I23.pr_.ahead ad23
        refine ⟨fun _ _ => False, idxP_any P23 (by omega) (fun _ _ h => h) (onSome_intro rfl ⟨fun h => h, ldS_b 0 v1 rfl (idxP_any P23 (by omega) (fun _ _ h => h) (onSome_intro rfl ⟨fun h => h, ldI_b 1 v1 rfl ?_⟩))⟩)⟩
        refine newC_b fun q2 w24 hq2 h24 hs24 BQ => newC_b fun d2 w25 hd2 h25 hs25 BD2 => ?_
        have h2325 := (ad23.trans h24).trans h25
        have I25 := I23.ahead h2325
        have M25 := M23.ahead h2325
        have R25 : Rt (Qf s10 t4) w25 q2 N k := ⟨v, qv, BQ.ahead h25, RN.ahead (RN.ahead v2 h24) h25⟩
        have z23 : w23.drew.heap.size = w23.heap.size := rfl
        have z0 := I23.ah.size
        refine appP I25.pr_ I25.ah.size (BD2.cell (i := 0) rfl) (by omega) fun s12 w26 hrow2 hg2 hA2 => ?_
        have hnq : q2 ∉ rb := fun h => by have := I23.lr q2 h; omega
        have I26 := I25.growR (q := q2) (N := N) (k := k) (by rw [List.length_append, List.length_singleton]; omega) hnq (by omega) R25.lt hrow2 hg2 hA2 (by rw [hrb, getD_last]; exact M25) R25 hk hN
        rw [wrap_i64 (by omega) (by omega)]
        exact ⟨⟨rfl, rfl, i + 1, _, _, rfl, by omega, by rw [List.length_append, List.length_singleton]; omega, by rw [List.length_append, List.length_append, List.length_singleton, List.length_singleton]; omega, I26⟩, by omega⟩
      · obtain ⟨sm, _, bm, _⟩ := hm.ahead ad
        obtain ⟨sr, _, br_, _⟩ := hr.ahead ad
        have I0 := hI.ahead ad
        have Bd := B.ahead ad
        have nV : ∀ {e : TypeId} {base : Nat} {s : Slc} {ps : List Nat}, PRow e base w1.drew s ps → ∀ g, s.A = some ⟨g, 0, none⟩ → ¬ (g = mb.getD i' 0 ∨ g = rb.getD i' 0) := fun h g hg => by
          rintro (e | e)
          · exact h.blk_ne bm rfl (slc_np _) hg e.symm
          · exact h.blk_ne br_ rfl (slc_np _) hg e.symm
        refine ⟨fun q => q = mb.getD i' 0 ∨ q = rb.getD i' 0, idxP_any I0.pl hi' (nV I0.pl) (idxP_any I0.pr_ (by omega) (nV I0.pr_) ⟨?_, ldI_b 0 Bd rfl (ldI_b 1 Bd rfl (ldI_b 2 Bd rfl (ldS_b 3 Bd rfl ?_)))⟩)⟩
        · rintro (e | e)
          · exact blk_ne Bd bm (by simp) e
          · exact blk_ne Bd br_ (by simp) e
        refine Calls.mono (acted_spec (Q := Qf t3 t4) (fun u loc g hg ad e _ hb => ?_) (hm.ahead ad) (hr.ahead ad) (blk_ne bm br_ (by simp)) hk hN (rf1.ahead ad) of lf) ?_
        · have h1 := loc ad e
          rcases hg with hg | hg
          · obtain ⟨g', _, e1, _, h2, _⟩ := I0.pl.at_ hg
            have : g = g' := congrArg Addr.block e1
            omega
          · obtain ⟨g', _, e1, _, h2, _⟩ := I0.pr_.at_ hg
            have : g = g' := congrArg Addr.block e1
            omega
        rintro e w27 ⟨rfl, S, N', k', m', r', hk', hN'⟩
        have I27 := I0.act (i := i') (by omega) S m' r' hk' hN'
        rw [wrap_i64 (by omega) (by omega)]
        exact ⟨_, rfl, S.bar, br_false rfl ⟨⟨rfl, rfl, i + 1, mb, rb, rfl, by omega, by omega, hrb, I27⟩, by omega⟩⟩

end Fuel
end Go.Proofs.Ytflipimlpgbnmaa
namespace Go.Proofs.Ytflipimlpgbnmaa
open Go Go.RowKit Eng Sp Dg
open Go.ChangeShapes Go.WideShapes
set_option linter.unusedVariables false
set_option linter.unusedSimpArgs false
namespace RowA

theorem mem_all {H : Type} {P : Program} {e : TypeId} {l : List (DataW H)} {d : DataW H} (hd : d ∈ l) {x : Nat} (hx : x ∈ d.weights P e) : x ∈ DataW.weightsAll P e l := by
  induction l with
  | nil => cases hd
  | cons y ys ih =>
    simp only [DataW.weightsAll, List.mem_append]
    rcases List.mem_cons.1 hd with rfl | h
    · exact .inl hx
    · exact .inr (ih h)

/-- A list's elements, one by one, with the sizes of what they lead to. -/
theorem open_each {H : Type} {enc : TypeId × Value → H} {P : Program} {W : World} {t e : TypeId} {A : Option Addr} {len cap n : Nat} {y : DataW H × List MemPlace}
    (ht : P.underlying t = some (.slice e)) (hw : ∀ x ∈ y.1.weights P t, x ≤ reachBytes) (h : DataW.trod enc P W 0 (fun _ => true) true n t [.slice A len cap] = some y) :
    (A = none ∧ len = 0 ∧ cap = 0) ∨ ∃ a, A = some a ∧ len ≤ cap ∧ cap * P.bytesOf e ≤ 140737488351232 ∧ ∀ i, i < len → ∃ cs' y n, W.cells? 0 (a.add (i * P.cellsOf e)) (P.cellsOf e) = some cs' ∧ DataW.trod enc P W 0 (fun _ => true) true n e cs' = some y ∧ ∀ x ∈ y.1.weights P e, x ≤ reachBytes := by
  rcases Go.Deep.open_slice ht h with ⟨h0, _⟩ | ⟨a, len', cap', m, k, D, Pl, hcs, _, hl, _, hm, rfl, hx⟩
  · simp at h0; exact .inl h0
  · simp at hcs
    obtain ⟨rfl, rfl, rfl⟩ := hcs
    have hm' : m = cap := by simpa using hm
    subst hm'
    refine .inr ⟨a, rfl, hl, ?_, fun i hi => ?_⟩
    · have := hw ((((List.range len).map D).length + ((List.range (m - len)).map fun j => D (len + j)).length) * P.bytesOf e) (by simp [DataW.weights, ht])
      have h3 : reachBytes = 140737488351232 := by decide
      simp at this
      rw [show len + (m - len) = m by omega] at this
      omega
    · obtain ⟨cs', h1, h2⟩ := hx i (by omega)
      refine ⟨cs', _, _, h1, h2, fun x hx => hw x ?_⟩
      simp only [DataW.weights, ht, List.mem_cons, List.mem_append]
      exact .inr (.inl (mem_all (List.mem_map.2 ⟨i, by simpa using hi, rfl⟩) hx))

/-- .. of an argument. -/
theorem open_arg {H : Type} {enc : TypeId × Value → H} {P : Program} {W : World} {t e : TypeId} {A : Option Addr} {len cap : Nat} {d : DataW H} {ps : List MemPlace} {ts : List TypeId} {ds : List (DataW H)} {j : Nat}
    (ht : P.underlying t = some (.slice e)) (hsz : (DataW.weightsEach P ts ds).all (· ≤ reachBytes) = true) (htj : ts[j]? = some t) (hdj : ds[j]? = some d)
    (h : DataW.Trod enc P W 0 (fun _ => true) true t (.slice A len cap) d ps) :
    (A = none ∧ len = 0 ∧ cap = 0) ∨ ∃ a, A = some a ∧ len ≤ cap ∧ cap * P.bytesOf e ≤ 140737488351232 ∧ ∀ i, i < len → ∃ cs' y n, W.cells? 0 (a.add (i * P.cellsOf e)) (P.cellsOf e) = some cs' ∧ DataW.trod enc P W 0 (fun _ => true) true n e cs' = some y ∧ ∀ x ∈ y.1.weights P e, x ≤ reachBytes := by
  obtain ⟨fuel, hf⟩ := h
  refine open_each ht (y := (d, ps)) (fun x hx => ?_) hf
  simpa using List.all_eq_true.1 hsz _ (DataW.weights_mem_each htj hdj _ hx)

/-- A row of words in a cell. -/
theorem open_row {H : Type} {enc : TypeId × Value → H} {P : Program} {W : World} {t e : TypeId} {n : Nat} {cs : List Value} {y : DataW H × List MemPlace}
    (ht : P.underlying t = some (.slice e)) (he : P.underlying e = some (.int .u64)) (hce : P.cellsOf e = 1) (hb : P.bytesOf e = 8)
    (hw : ∀ x ∈ y.1.weights P t, x ≤ reachBytes) (h : DataW.trod enc P W 0 (fun _ => true) true n t cs = some y) :
    ∃ (s : Slc) (l : List Nat), cs = [s.v] ∧ Rd .u64 W s (nn l) ∧ ok B64 l ∧ l.length * 8 ≤ 140737488351232 := by
  obtain ⟨A, m, c, zs, hs1, hrow, hlen⟩ : ∃ A m c zs, cs = [Value.slice A m c] ∧ IsRow .u64 W A m c zs ∧ m * 8 ≤ 140737488351232 := by
    rcases open_ints ht he hce h with ⟨hs, _⟩ | ⟨a, m, c, zs, hs, _, hl1, hm, hz, hy1, hcell, hwz⟩
    · exact ⟨none, 0, 0, [], hs, .inl ⟨rfl, rfl, rfl, rfl⟩, by omega⟩
    · refine ⟨some a, m, c, zs, hs, .inr ⟨a, rfl, hl1, hm, by simpa using hz, hcell, hwz⟩, ?_⟩
      have := hw (((zs.take m).length + (zs.drop m).length) * 8) (by rw [hy1]; simp [DataW.weights, ht, hb, lits])
      have h1 : (zs.take m).length + (zs.drop m).length = zs.length := by simp; omega
      have hz' : zs.length = c := by simpa using hz
      rw [h1, hz'] at this
      have h3 : reachBytes = 140737488351232 := by decide
      omega
  obtain ⟨l, hll, hr, ho'⟩ := hrow.rd
  exact ⟨⟨A, m, c⟩, l, hs1, hr, ho', by omega⟩
end RowA
end Go.Proofs.Ytflipimlpgbnmaa
namespace Go.Proofs.Ytflipimlpgbnmaa
open Go Go.RowKit Eng Sp Dg
open Go.ChangeShapes Go.WideShapes
set_option linter.unusedVariables false
set_option linter.unusedSimpArgs false
namespace Fuel
/-- A list whose elements are of 'c' cells. -/
def stB (P : Program) (t e : TypeId) (c : Nat) : Bool := match P.underlying t with
  | some (.slice e') => Nat.beq e' e && (match P.info? e with
    | some i => Nat.beq i.size c
    | none => false)
  | _ => false
theorem stB_out {P : Program} {t e : TypeId} {c : Nat} (h : stB P t e c = true) : P.underlying t = some (.slice e) ∧ ∃ i, P.info? e = some i ∧ i.size = c := by
  unfold stB at h
  split at h
  · rename_i e' hu
    simp only [Bool.and_eq_true] at h
    obtain ⟨h1, h2⟩ := h
    have : e' = e := Nat.eq_of_beq_eq_true h1
    subst this
    split at h2
    · rename_i i hi
      exact ⟨hu, i, hi, Nat.eq_of_beq_eq_true h2⟩
    · cases h2
  · cases h
theorem run_idxC {t e : TypeId} {c : Nat} (hT : stB pr t e c = true) {a : Addr} {len cap i : Nat} (hi : i < len) (w' : World) :
    (Instr.indexAt t (.slice (some a) len cap) (.int .i64 (i : Int))).run pr w' = .ok (.pointer (some (a.add (i * c)))) w' := by
  obtain ⟨hu, inf, hinf, hs⟩ := stB_out hT
  simp only [Instr.indexAt, asIntOf, underlying, program, Sem.run_bind, Sem.run, Result.andThen, hu, Sem.run_pure]
  simp [hi, show (i : Int) < (len : Int) by omega, sizeOf, typeInfo, program, Sem.run, hinf, hs, hu]

theorem rdA_of {H : Type} {enc : TypeId × Value → H} {W : World} {t e e2 : TypeId} {f0 f1 f2 f3 : Field} {A : Option Addr} {len cap : Nat} {d : DataW H} {ps : List MemPlace} {ts : List TypeId} {ds : List (DataW H)} {j : Nat}
    (ht : pr.underlying t = some (.slice e)) (hte : t = 72) (hs : stB pr t e 4 = true) (he : pr.underlying e = some (.struct #[f0, f1, f2, f3])) (ho : f0.offset = 0 ∧ f1.offset = 1 ∧ f2.offset = 2 ∧ f3.offset = 3)
    (hc : pr.cellsOf f0.type = 1 ∧ pr.cellsOf f1.type = 1 ∧ pr.cellsOf f2.type = 1 ∧ pr.cellsOf f3.type = 1 ∧ pr.cellsOf e = 4) (hbe : pr.bytesOf e = 48)
    (hu : pr.underlying f0.type = some (.int .i64) ∧ pr.underlying f1.type = some (.int .i64) ∧ pr.underlying f2.type = some (.int .i64) ∧ pr.underlying f3.type = some (.slice e2)) (he2 : pr.underlying e2 = some (.int .u64)) (hce : pr.cellsOf e2 = 1) (hb : pr.bytesOf e2 = 8)
    (hsz : (DataW.weightsEach pr ts ds).all (· ≤ reachBytes) = true) (htj : ts[j]? = some t) (hdj : ds[j]? = some d)
    (h : DataW.Trod enc pr W 0 (fun _ => true) true t (.slice A len cap) d ps) : RdA W ⟨A, len, cap⟩ len ∧ len * 8 ≤ 140737488351232 := by
  subst hte
  rcases RowA.open_arg ht hsz htj hdj h with ⟨rfl, rfl, rfl⟩ | ⟨a, rfl, hl, hcap, hel⟩
  · exact ⟨⟨rfl, fun i hi => absurd hi (by omega)⟩, by omega⟩
  · rw [hbe] at hcap
    refine ⟨⟨rfl, fun i hi => ?_⟩, by omega⟩
    obtain ⟨cs, y, n, h1, h2, h3⟩ := hel i hi
    rw [hc.2.2.2.2] at h1
    obtain ⟨y0, y1, y2, y3, m, rfl, hlen, g0, g1, g2, g3⟩ := Go.Joins.trod_struct4 he h2
    rw [hc.1, ho.1] at g0
    rw [hc.2.1, ho.2.1] at g1
    rw [hc.2.2.1, ho.2.2.1] at g2
    rw [hc.2.2.2.1, ho.2.2.2] at g3
    rw [hc.2.2.2.2] at hlen
    match cs, hlen with
    | [c0, c1, c2, c3], _ =>
      obtain ⟨x0, e0, _, w0⟩ := DataW.trod_int hu.1 g0
      obtain ⟨x1, e1, _, w1⟩ := DataW.trod_int hu.2.1 g1
      obtain ⟨x2, e2', _, w2⟩ := DataW.trod_int hu.2.2.1 g2
      simp at e0 e1 e2'
      subst e0 e1 e2'
      obtain ⟨f, l, e3, hr, hok, hll⟩ := RowA.open_row hu.2.2.2 he2 hce hb (fun x hx => h3 x (by simp [DataW.weights, he, DataW.weightsEach]; exact .inr (.inr (.inr hx)))) g3
      simp at e3
      subst e3
      obtain ⟨_, _, hcell⟩ := World.cells?_some h1
      have b1 := wf_i64 w1
      exact ⟨_, x0, x1, x2, f, l, fun w' => run_idxC hs hi w', by simpa [Addr.add_add] using hcell 0 (by omega), by simpa using hcell 1 (by omega), by simpa using hcell 2 (by omega), by simpa using hcell 3 (by omega), hr, hok, hll, b1.1, b1.2⟩
end Fuel
end Go.Proofs.Ytflipimlpgbnmaa
