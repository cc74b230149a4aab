/- What the law leans on, part 5. No condition. -/
import Derived.Test.YthhbjhdnaopcnaaDoorZDyadicShort4
namespace Go.Proofs.YthhbjhdnaopcnaaDoor
open Go Go.RowKit Eng Sp Dg
set_option linter.unusedVariables false
set_option linter.unusedSimpArgs false
namespace Dy

/-- A number of steps, rounded to one of S steps each. -/
def rdm (m v : Int) (S : Nat) : Int := v / (S : Int) + if m = 0 then 0 else if m = 2 then (if nearUp v S = true then 1 else 0) else if v % (S : Int) ≠ 0 then 1 else 0
theorem rq_rdm {neg : Bool} {n gap : Nat} {m : Int} (hn : n % 2 = 1) (hg : 0 < gap) (hm : okM m) : sg neg (rq neg n gap m) = rdm m (sg neg n) (2 ^ gap) := by
  unfold okM at hm
  unfold rdm
  have : m = 0 ∨ m = 1 ∨ m = 2 := by omega
  rcases this with rfl | rfl | rfl
  · rw [if_pos rfl, Int.add_zero, down_odd hn hg]
  · rw [if_neg (by omega), if_neg (by omega), ← up_odd hn hg]
  · rw [if_neg (by omega), if_pos rfl, ← near_odd hn hg]
theorem rdm_scale {m v : Int} {S k : Nat} (hk : 0 < k) : rdm m (v * (k : Int)) (S * k) = rdm m v S := by
  have hk' : (0 : Int) < k := by omega
  have e1 : v * (k : Int) / ((S * k : Nat) : Int) = v / (S : Int) := by push_cast; exact Int.mul_ediv_mul_of_pos_left _ _ hk'
  have e2 : v * (k : Int) % ((S * k : Nat) : Int) = v % (S : Int) * k := by push_cast; rw [Int.mul_comm v, Int.mul_comm (S : Int), Int.mul_emod_mul_of_pos _ _ hk', Int.mul_comm]
  have e3 : (v % (S : Int) * k ≠ 0) ↔ (v % (S : Int) ≠ 0) := by
    constructor
    · intro h h1; rw [h1, Int.zero_mul] at h; exact h rfl
    · intro h h1
      rcases Int.mul_eq_zero.1 h1 with h2 | h2
      · exact h h2
      · omega
  have e4 : nearUp (v * (k : Int)) (S * k) = nearUp v S := by
    unfold nearUp
    rw [e1, e2, Int.natAbs_mul, Int.natAbs_natCast]
    have h1 : S * k < 2 * ((v % (S : Int)).natAbs * k) ↔ S < 2 * (v % (S : Int)).natAbs := by
      rw [← Nat.mul_assoc]; exact Nat.mul_lt_mul_right hk
    have h2 : 2 * ((v % (S : Int)).natAbs * k) = S * k ↔ 2 * (v % (S : Int)).natAbs = S := by
      rw [← Nat.mul_assoc]; exact Nat.mul_right_cancel_iff hk
    rw [Bool.eq_iff_iff]
    simp only [decide_eq_true_eq, h1, h2]
  unfold rdm
  rw [e1, e4]
  by_cases h0 : v % (S : Int) = 0
  · rw [e2, h0, Int.zero_mul]
  · rw [e2, if_pos (e3.2 h0), if_pos h0]
theorem rdm_exact {m y : Int} {S : Nat} (hS : 0 < S) : rdm m (y * (S : Int)) S = y := by
  have hS' : (S : Int) ≠ 0 := by omega
  have e1 : y * (S : Int) / (S : Int) = y := Int.mul_ediv_cancel _ hS'
  have e2 : y * (S : Int) % (S : Int) = 0 := Int.mul_emod_left _ _
  have e4 : nearUp (y * (S : Int)) S = false := by
    unfold nearUp; rw [e1, e2]; simp; omega
  unfold rdm
  rw [e1, e2, e4]; simp
/-- Where what is rounded lies. -/
theorem rdm_down {v : Int} {S : Nat} (hS : 0 < S) : rdm 0 v S * (S : Int) ≤ v ∧ v < rdm 0 v S * (S : Int) + S := by
  have h1 := Int.emod_add_mul_ediv v S
  have h2 := Int.emod_nonneg v (show (S : Int) ≠ 0 by omega)
  have h3 := Int.emod_lt_of_pos v (show (0 : Int) < S by omega)
  unfold rdm
  rw [if_pos rfl, Int.add_zero, Int.mul_comm]
  generalize (S : Int) * (v / (S : Int)) = q at *
  omega
theorem rdm_up {v : Int} {S : Nat} (hS : 0 < S) : v ≤ rdm 1 v S * (S : Int) ∧ rdm 1 v S * (S : Int) < v + S := by
  have h1 := Int.emod_add_mul_ediv v S
  have h2 := Int.emod_nonneg v (show (S : Int) ≠ 0 by omega)
  have h3 := Int.emod_lt_of_pos v (show (0 : Int) < S by omega)
  unfold rdm
  rw [if_neg (by omega), if_neg (by omega), Int.mul_comm, Int.mul_add]
  generalize (S : Int) * (v / (S : Int)) = q at *
  split
  · rw [Int.mul_one]; omega
  · rw [Int.mul_zero]; omega
theorem rdm_near {v : Int} {S : Nat} (hS : 0 < S) : 2 * (rdm 2 v S * (S : Int) - v) ≤ S ∧ 2 * (v - rdm 2 v S * (S : Int)) ≤ S ∧ (2 * (rdm 2 v S * (S : Int) - v) = S ∨ 2 * (v - rdm 2 v S * (S : Int)) = S → rdm 2 v S % 2 = 0) := by
  have h1 := Int.emod_add_mul_ediv v S
  have h2 := Int.emod_nonneg v (show (S : Int) ≠ 0 by omega)
  have h3 := Int.emod_lt_of_pos v (show (0 : Int) < S by omega)
  unfold rdm
  rw [if_neg (by omega), if_pos rfl, Int.add_mul]
  rw [Int.mul_comm] at h1
  have hu : nearUp v S = true ↔ ((S : Int) < 2 * (v % (S : Int)) ∨ 2 * (v % (S : Int)) = S ∧ (v / (S : Int)) % 2 = 1) := by
    unfold nearUp
    rw [decide_eq_true_eq]
    omega
  generalize v / (S : Int) = d at *
  generalize d * (S : Int) = q at *
  split
  · rename_i h
    rw [Int.one_mul]
    rcases hu.1 h with h4 | ⟨h4, h5⟩
    · refine ⟨by omega, by omega, fun h => by omega⟩
    · refine ⟨by omega, by omega, fun h => by omega⟩
  · rename_i h
    rw [Int.zero_mul]
    have h6 := fun h' => h (hu.2 h')
    have h7 : ¬ (S : Int) < 2 * (v % (S : Int)) := fun h' => h6 (.inl h')
    refine ⟨by omega, by omega, fun h => ?_⟩
    have h8 : 2 * (v % (S : Int)) = S := by omega
    have h9 : ¬ d % 2 = 1 := fun h' => h6 (.inr ⟨h8, h'⟩)
    omega
theorem lt_mul_cancel {a b : Int} {S : Nat} (h : a * (S : Int) < b * S) : a < b := Int.lt_of_mul_lt_mul_right h (by omega)

theorem dv_scale {z e b b' : Int} (h1 : b ≤ b') (h2 : b' ≤ e) : dv z e b = dv z e b' * ((2 ^ (b' - b).toNat : Nat) : Int) := by
  unfold dv
  rw [Int.mul_assoc]
  congr 1
  rw [← Int.natCast_mul, ← Nat.pow_add]
  congr 2
  omega
theorem cmpZ_mul {a c : Int} {k : Nat} (hk : 0 < k) : cmpZ (a * (k : Int)) (c * (k : Int)) = cmpZ a c := by
  have h1 : a * (k : Int) < c * k ↔ a < c := ⟨lt_mul_cancel, fun h => Int.mul_lt_mul_of_pos_right h (by omega)⟩
  have h2 : a * (k : Int) = c * k ↔ a = c := ⟨fun h => Int.eq_of_mul_eq_mul_right (by omega) h, fun h => by rw [h]⟩
  unfold cmpZ
  simp only [h1, h2]
theorem dcmp_dv {z e z' e' b : Int} (h : b ≤ e) (h' : b ≤ e') : dcmp z e z' e' = cmpZ (dv z e b) (dv z' e' b) := by
  rw [dcmp, dv_scale (b := b) (b' := min e e') (by omega) (by omega), dv_scale (z := z') (b := b) (b' := min e e') (by omega) (by omega), cmpZ_mul (two_pos _)]
theorem dv_zero (e b : Int) : dv 0 e b = 0 := Int.zero_mul _
theorem sg_zero (neg : Bool) : sg neg 0 = 0 := by cases neg <;> rfl
theorem sg_nD (neg : Bool) (x : Nat) : sg (nD neg x) (od x) = sg neg (od x) := by
  by_cases h : x = 0
  · subst h; rw [od_zero, sg_zero, sg_zero]
  · rw [nD_ne h]
/-- Lowest terms are the same number. -/
theorem dv_od {neg : Bool} {X : Nat} {E b : Int} (h : b ≤ E) : dv (sg (nD neg X) (od X)) (eD X E) b = dv (sg neg X) E b := by
  rw [sg_nD]
  by_cases h0 : X = 0
  · subst h0; rw [od_zero, sg_zero, dv_zero, dv_zero]
  · rw [dv_sg, dv_sg, eD, if_neg h0]
    congr 1
    rw [show (E + (tz X : Int) - b).toNat = tz X + (E - b).toNat by omega, Nat.pow_add, ← Nat.mul_assoc, Nat.mul_comm (od X), od_mul]
/-- A number in lowest terms. -/
structure NF (neg : Bool) (n : Nat) (e : Int) : Prop where
  s : nD neg n = neg
  o : od n = n
  z : n = 0 → e = 0
theorem NF.of (neg : Bool) (x : Nat) (e : Int) : NF (nD neg x) (od x) (eD x e) :=
  ⟨nD_od neg x, od_od x, fun h => by rw [od_zero_iff] at h; rw [h, eD_zero]⟩
theorem NF.eD {neg : Bool} {n : Nat} {e : Int} (h : NF neg n e) : Dy.eD n e = e := by
  by_cases hn : n = 0
  · rw [h.z hn, hn, eD_zero]
  · have h1 := od_odd hn
    rw [h.o] at h1
    rw [Dy.eD, if_neg hn, tz_odd h1]; omega
theorem NF.odd {neg : Bool} {n : Nat} {e : Int} (h : NF neg n e) (hn : n ≠ 0) : n % 2 = 1 := by
  have := od_odd hn
  rwa [h.o] at this
/-- What is rounded, in steps. -/
theorem rX_dv {neg : Bool} {n : Nat} {e pos m b : Int} (h : NF neg n e) (hm : okM m) (h1 : b ≤ e) (h2 : b ≤ pos) :
    dv (sg neg (rX neg n e pos m)) (rE n e pos) b = rdm m (dv (sg neg n) e b) (2 ^ (pos - b).toNat) * ((2 ^ (pos - b).toNat : Nat) : Int) := by
  by_cases hc : n = 0 ∨ pos ≤ e
  · rw [rX, if_pos hc, rE, if_pos hc]
    by_cases hn : n = 0
    · subst hn
      rw [sg_zero, dv_zero]
      have := rdm_exact (m := m) (y := 0) (two_pos (pos - b).toNat)
      rw [Int.zero_mul] at this
      rw [this, Int.zero_mul]
    · have hp : pos ≤ e := by
        rcases hc with hc | hc
        · exact absurd hc hn
        · exact hc
      rw [dv_scale h2 hp, rdm_exact (two_pos _)]
  · have hn : n ≠ 0 := fun h => hc (.inl h)
    have hp : e < pos := by
      rcases Int.lt_or_le e pos with h | h
      · exact h
      · exact absurd (.inr h) hc
    rw [rX, if_neg hc, rE, if_neg hc, rq_rdm (h.odd hn) (by omega) hm]
    have e1 : (pos - b).toNat = (pos - e).toNat + (e - b).toNat := by omega
    have : rdm m (dv (sg neg n) e b) (2 ^ (pos - b).toNat) = rdm m (sg neg n) (2 ^ (pos - e).toNat) := by
      rw [e1, Nat.pow_add, dv, rdm_scale (two_pos _)]
    rw [this, dv]

end Dy
end Go.Proofs.YthhbjhdnaopcnaaDoor
namespace Go.Proofs.YthhbjhdnaopcnaaDoor
open Go Go.RowKit Eng
set_option linter.unusedVariables false

def surdlaw08_DyadicShort_cut (K14 : Int → Int → Addr → Addr → Bool → World → Prop) : Nat → Option ((Act → World → Prop) × (Act → World → Nat))
  | 3000014 => some (fun a_ w_ => atSz a_ 102 (atI .i64 a_ 1 fun t1 => atI .i64 a_ 2 fun t2 => atA a_ 7 fun t7 => atA a_ 12 fun t12 => atB a_ 13 fun t13 => K14 t1 t2 t7 t12 t13 w_), fun _ _ => 0)
  | _ => none

set_option maxRecDepth 100000 in
/-- surd/surdlaw08.DyadicShort: function 11. -/
theorem surdlaw08_DyadicShort_vc (a0_0 : Bool) (a0_1 : Slc) (a0_2 : Int) (a1 : Int) (a2 : Int) (w : World) (R : Ending → World → Prop)
    (K14 : Int → Int → Addr → Addr → Bool → World → Prop)
    (h : newC w #[Value.bool a0_0, a0_1.v, Value.int .i64 a0_2] 27 fun ad1 w1 =>
    ldB ad1 w1 fun b1 =>
    ldS (ad1.add 1) w1 fun s1 =>
    ldI .i64 (ad1.add 2) w1 fun x1 =>
    Calls Tryd.prog 35 #[Value.agg #[Value.bool b1, s1.v, Value.int .i64 x1]] w1 fun e1 w2 =>
    ∃ b2 : Bool, ∃ s2 : Slc, ∃ x2 : Int, ∃ b3 : Bool, e1 = .returned (Value.tuple #[Value.agg #[Value.bool b2, s2.v, Value.int .i64 x2], Value.bool b3]) ∧
    (newC w2 #[Value.bool false, (⟨none, 0, 0⟩ : Slc).v, Value.int .i64 0] 47 fun ad2 w3 =>
     stC ad2 (Value.bool b2) w3 fun w4 =>
     stC (ad2.add 1) s2.v w4 fun w5 =>
     stC (ad2.add 2) (Value.int .i64 x2) w5 fun w6 =>
     br (!b3)
     (Calls Tryd.prog 14 #[] w6 fun e2 w7 =>
      ∃ b4 : Bool, e2 = .returned (Value.bool b4) ∧
      (R (.returned (Value.bool b4)) w7))
     (br (decide (a1 < 1))
      (Calls Tryd.prog 14 #[] w6 fun e3 w8 =>
       ∃ b5 : Bool, e3 = .returned (Value.bool b5) ∧
       (R (.returned (Value.bool b5)) w8))
      (br (decide (a1 > 1048576))
       (Calls Tryd.prog 14 #[] w6 fun e4 w9 =>
        ∃ b6 : Bool, e4 = .returned (Value.bool b6) ∧
        (R (.returned (Value.bool b6)) w9))
       (Calls Tryd.prog 37 #[Value.int .i64 a2] w6 fun e5 w10 =>
        ∃ b7 : Bool, e5 = .returned (Value.bool b7) ∧
        (br (!b7)
         (Calls Tryd.prog 14 #[] w10 fun e6 w11 =>
          ∃ b8 : Bool, e6 = .returned (Value.bool b8) ∧
          (R (.returned (Value.bool b8)) w11))
         (ldB ad1 w10 fun b9 =>
          ldS (ad1.add 1) w10 fun s3 =>
          ldI .i64 (ad1.add 2) w10 fun x3 =>
          Calls Tryd.prog 17 #[Value.agg #[Value.bool b9, s3.v, Value.int .i64 x3]] w10 fun e7 w12 =>
          ∃ b10 : Bool, ∃ s4 : Slc, ∃ x4 : Int, e7 = .returned (Value.agg #[Value.bool b10, s4.v, Value.int .i64 x4]) ∧
          (Calls Tryd.prog 39 #[Value.agg #[Value.bool b10, s4.v, Value.int .i64 x4], Value.int .i64 a1, Value.int .i64 a2] w12 fun e8 w13 =>
           ∃ b11 : Bool, ∃ s5 : Slc, ∃ x5 : Int, ∃ x6 : Int, e8 = .returned (Value.tuple #[Value.agg #[Value.bool b11, s5.v, Value.int .i64 x5], Value.int .i64 x6]) ∧
           (newC w13 #[Value.bool false, (⟨none, 0, 0⟩ : Slc).v, Value.int .i64 0] 33 fun ad3 w14 =>
            stC ad3 (Value.bool b11) w14 fun w15 =>
            stC (ad3.add 1) s5.v w15 fun w16 =>
            stC (ad3.add 2) (Value.int .i64 x5) w16 fun w17 =>
            Calls Tryd.prog 13 #[Value.int .i64 x6] w17 fun e9 w18 =>
            ∃ x7 : Int, e9 = .returned (Value.int .i64 x7) ∧
            (br (x7 != 0)
             (Calls Tryd.prog 14 #[] w18 fun e10 w19 =>
              ∃ b12 : Bool, e10 = .returned (Value.bool b12) ∧
              (R (.returned (Value.bool b12)) w19))
             (ldB ad3 w18 fun b13 =>
              ldS (ad3.add 1) w18 fun s6 =>
              ldI .i64 (ad3.add 2) w18 fun x8 =>
              Calls Tryd.prog 58 #[Value.agg #[Value.bool b13, s6.v, Value.int .i64 x8]] w18 fun e11 w20 =>
              ∃ b14 : Bool, ∃ s7 : Slc, ∃ x9 : Int, e11 = .returned (Value.agg #[Value.bool b14, s7.v, Value.int .i64 x9]) ∧
              (newC w20 #[Value.bool false, (⟨none, 0, 0⟩ : Slc).v, Value.int .i64 0] 47 fun ad4 w21 =>
               stC ad4 (Value.bool b14) w21 fun w22 =>
               stC (ad4.add 1) s7.v w22 fun w23 =>
               stC (ad4.add 2) (Value.int .i64 x9) w23 fun w24 =>
               ldS (ad4.add 1) w24 fun s8 =>
               Calls Tryd.prog 34 #[s8.v] w24 fun e12 w25 =>
               ∃ x10 : Int, e12 = .returned (Value.int .i64 x10) ∧
               (br (decide (x10 > a1))
                (R (.returned (Value.bool false)) w25)
                (ldS (ad2.add 1) w25 fun s9 =>
                 Calls Tryd.prog 34 #[s9.v] w25 fun e13 w26 =>
                 ∃ x11 : Int, e13 = .returned (Value.int .i64 x11) ∧
                 (br (decide (x11 ≤ a1))
                  (ldB ad4 w26 fun b15 =>
                   ldS (ad4.add 1) w26 fun s10 =>
                   ldI .i64 (ad4.add 2) w26 fun x12 =>
                   ldB ad2 w26 fun b16 =>
                   ldS (ad2.add 1) w26 fun s11 =>
                   ldI .i64 (ad2.add 2) w26 fun x13 =>
                   Calls Tryd.prog 48 #[Value.agg #[Value.bool b15, s10.v, Value.int .i64 x12], Value.agg #[Value.bool b16, s11.v, Value.int .i64 x13]] w26 fun e14 w27 =>
                   ∃ x14 : Int, e14 = .returned (Value.int .i64 x14) ∧
                   (br (x14 == 0)
                    (Calls Tryd.prog 14 #[] w27 fun e15 w28 =>
                     ∃ b17 : Bool, e15 = .returned (Value.bool b17) ∧
                     (R (.returned (Value.bool b17)) w28))
                    (R (.returned (Value.bool false)) w27)))
                  (∃ V1 : Nat → Nat → Prop, Out (V1 0) ad4 (ldB ad4 w26.drew fun b18 =>
                    ldS (ad4.add 1) w26.drew fun s12 =>
                    ldI .i64 (ad4.add 2) w26.drew fun x15 =>
                    Out (V1 1) ad2 (ldB ad2 w26.drew fun b19 =>
                     ldS (ad2.add 1) w26.drew fun s13 =>
                     ldI .i64 (ad2.add 2) w26.drew fun x16 =>
                     (Calls Tryd.prog 60 #[Value.agg #[Value.bool b19, s13.v, Value.int .i64 x16]] w26.drew fun e16 w29 =>
                      ∃ b20 : Bool, ∃ s14 : Slc, ∃ x17 : Int, e16 = .returned (Value.agg #[Value.bool b20, s14.v, Value.int .i64 x17]) ∧
                      (Bar (V1 0) w26.drew w29 ∧
                       ((Calls Tryd.prog 49 #[Value.agg #[Value.bool b18, s12.v, Value.int .i64 x15], Value.agg #[Value.bool b20, s14.v, Value.int .i64 x17]] w29 fun e17 w30 =>
                         ∃ b21 : Bool, ∃ s15 : Slc, ∃ x18 : Int, ∃ b22 : Bool, e17 = .returned (Value.tuple #[Value.agg #[Value.bool b21, s15.v, Value.int .i64 x18], Value.bool b22]) ∧
                         (newC w30 #[Value.bool false, (⟨none, 0, 0⟩ : Slc).v, Value.int .i64 0] 47 fun ad5 w31 =>
                          Bar (V1 0) w30 w31 ∧
                          (Bar (V1 1) w30 w31 ∧
                           (stC ad5 (Value.bool b21) w31 fun w32 =>
                            stC (ad5.add 1) s15.v w32 fun w33 =>
                            stC (ad5.add 2) (Value.int .i64 x18) w33 fun w34 =>
                            K14 a1 a2 ad2 ad5 b22 w34)))) ∧
                        (newC w29 #[Value.bool false, (⟨none, 0, 0⟩ : Slc).v, Value.int .i64 0] 47 fun ad7 w48 =>
                         Bar (V1 0) w29 w48 ∧
                         (Bar (V1 1) w29 w48 ∧
                          (Calls Tryd.prog 49 #[Value.agg #[Value.bool b18, s12.v, Value.int .i64 x15], Value.agg #[Value.bool b20, s14.v, Value.int .i64 x17]] w48 fun e27 w49 =>
                           ∃ b35 : Bool, ∃ s26 : Slc, ∃ x31 : Int, ∃ b36 : Bool, e27 = .returned (Value.tuple #[Value.agg #[Value.bool b35, s26.v, Value.int .i64 x31], Value.bool b36]) ∧
                           (stC ad7 (Value.bool b35) w49 fun w50 =>
                            stC (ad7.add 1) s26.v w50 fun w51 =>
                            stC (ad7.add 2) (Value.int .i64 x31) w51 fun w52 =>
                            K14 a1 a2 ad2 ad7 b36 w52))))))) ∧
                     (newC w26.drew #[Value.bool false, (⟨none, 0, 0⟩ : Slc).v, Value.int .i64 0] 47 fun ad8 w53 =>
                      Bar (V1 0) w26.drew w53 ∧
                      (Bar (V1 1) w26.drew w53 ∧
                       (Calls Tryd.prog 60 #[Value.agg #[Value.bool b19, s13.v, Value.int .i64 x16]] w53 fun e28 w54 =>
                        ∃ b37 : Bool, ∃ s27 : Slc, ∃ x32 : Int, e28 = .returned (Value.agg #[Value.bool b37, s27.v, Value.int .i64 x32]) ∧
                        (Bar (V1 0) w53 w54 ∧
                         (Calls Tryd.prog 49 #[Value.agg #[Value.bool b18, s12.v, Value.int .i64 x15], Value.agg #[Value.bool b37, s27.v, Value.int .i64 x32]] w54 fun e29 w55 =>
                          ∃ b38 : Bool, ∃ s28 : Slc, ∃ x33 : Int, ∃ b39 : Bool, e29 = .returned (Value.tuple #[Value.agg #[Value.bool b38, s28.v, Value.int .i64 x33], Value.bool b39]) ∧
                          (stC ad8 (Value.bool b38) w55 fun w56 =>
                           stC (ad8.add 1) s28.v w56 fun w57 =>
                           stC (ad8.add 2) (Value.int .i64 x33) w57 fun w58 =>
                           K14 a1 a2 ad2 ad8 b39 w58))))))))))))))))))))))))
    (h3000014 : ∀ (t1 : Int) (t2 : Int) (t7 : Addr) (t12 : Addr) (t13 : Bool) (w_ : World), K14 t1 t2 t7 t12 t13 w_ → 
    br (!t13)
    (R (.returned (Value.bool false)) w_)
    (ldB t7 w_ fun b23 =>
     ldS (t7.add 1) w_ fun s16 =>
     ldI .i64 (t7.add 2) w_ fun x19 =>
     Calls Tryd.prog 61 #[Value.agg #[Value.bool b23, s16.v, Value.int .i64 x19]] w_ fun e18 w35 =>
     ∃ b24 : Bool, ∃ s17 : Slc, ∃ x20 : Int, e18 = .returned (Value.agg #[Value.bool b24, s17.v, Value.int .i64 x20]) ∧
     (Calls Tryd.prog 50 #[Value.agg #[Value.bool b24, s17.v, Value.int .i64 x20], Value.int .i64 (IntKind.i64.wrap (1 - t1))] w35 fun e19 w36 =>
      ∃ b25 : Bool, ∃ s18 : Slc, ∃ x21 : Int, e19 = .returned (Value.agg #[Value.bool b25, s18.v, Value.int .i64 x21]) ∧
      (newC w36 #[Value.bool false, (⟨none, 0, 0⟩ : Slc).v, Value.int .i64 0] 47 fun ad6 w37 =>
       stC ad6 (Value.bool b25) w37 fun w38 =>
       stC (ad6.add 1) s18.v w38 fun w39 =>
       stC (ad6.add 2) (Value.int .i64 x21) w39 fun w40 =>
       br (t2 == 2)
       (ldB t12 w40.drew fun b26 =>
        ldS (t12.add 1) w40.drew fun s19 =>
        ldI .i64 (t12.add 2) w40.drew fun x22 =>
        ldB ad6 w40.drew fun b27 =>
        ldS (ad6.add 1) w40.drew fun s20 =>
        ldI .i64 (ad6.add 2) w40.drew fun x23 =>
        Calls Tryd.prog 61 #[Value.agg #[Value.bool b26, s19.v, Value.int .i64 x22]] w40.drew fun e20 w41 =>
        ∃ b28 : Bool, ∃ s21 : Slc, ∃ x24 : Int, e20 = .returned (Value.agg #[Value.bool b28, s21.v, Value.int .i64 x24]) ∧
        (Ahead w40.drew w41 ∧
         (Calls Tryd.prog 50 #[Value.agg #[Value.bool b27, s20.v, Value.int .i64 x23], Value.int .i64 (-1)] w41 fun e21 w42 =>
          ∃ b29 : Bool, ∃ s22 : Slc, ∃ x25 : Int, e21 = .returned (Value.agg #[Value.bool b29, s22.v, Value.int .i64 x25]) ∧
          (Ahead w41 w42 ∧
           (Calls Tryd.prog 48 #[Value.agg #[Value.bool b28, s21.v, Value.int .i64 x24], Value.agg #[Value.bool b29, s22.v, Value.int .i64 x25]] w42 fun e22 w43 =>
            ∃ x26 : Int, e22 = .returned (Value.int .i64 x26) ∧
            (Ahead w42 w43 ∧
             (br (decide (x26 ≤ 0))
              (Calls Tryd.prog 14 #[] w43 fun e23 w44 =>
               ∃ b30 : Bool, e23 = .returned (Value.bool b30) ∧
               (Ahead w43 w44 ∧
                (R (.returned (Value.bool b30)) w44)))
              (R (.returned (Value.bool false)) w43))))))))
       (ldB t12 w40.drew fun b31 =>
        ldS (t12.add 1) w40.drew fun s23 =>
        ldI .i64 (t12.add 2) w40.drew fun x27 =>
        ldB ad6 w40.drew fun b32 =>
        ldS (ad6.add 1) w40.drew fun s24 =>
        ldI .i64 (ad6.add 2) w40.drew fun x28 =>
        Calls Tryd.prog 61 #[Value.agg #[Value.bool b31, s23.v, Value.int .i64 x27]] w40.drew fun e24 w45 =>
        ∃ b33 : Bool, ∃ s25 : Slc, ∃ x29 : Int, e24 = .returned (Value.agg #[Value.bool b33, s25.v, Value.int .i64 x29]) ∧
        (Ahead w40.drew w45 ∧
         (Calls Tryd.prog 48 #[Value.agg #[Value.bool b33, s25.v, Value.int .i64 x29], Value.agg #[Value.bool b32, s24.v, Value.int .i64 x28]] w45 fun e25 w46 =>
          ∃ x30 : Int, e25 = .returned (Value.int .i64 x30) ∧
          (Ahead w45 w46 ∧
           (br (decide (x30 < 0))
            (Calls Tryd.prog 14 #[] w46 fun e26 w47 =>
             ∃ b34 : Bool, e26 = .returned (Value.bool b34) ∧
             (Ahead w46 w47 ∧
              (R (.returned (Value.bool b34)) w47)))
            (R (.returned (Value.bool false)) w46)))))))))) :
    Calls Tryd.prog 11 #[Value.agg #[Value.bool a0_0, a0_1.v, Value.int .i64 a0_2], Value.int .i64 a1, Value.int .i64 a2] w R := by
  refine calls_of_vc (marks [2000012] (surdlaw08_DyadicShort_cut K14)) (by kernel_rfl) Tryd.func11 rfl ?_ ?_
  · refine kcast h ?_; kernel_rfl
  · exact (obl_seq rfl (obl_reg (obl_seq rfl (obl_reg (obl_seq rfl (obl_seq rfl (obl_reg (obl_cond (obl_seq rfl (obl_reg (obl_ret (obl_skip (obl_seq rfl (obl_reg (obl_seq rfl (obl_seq rfl (obl_reg (obl_cond (obl_seq rfl (obl_reg (obl_ret (obl_skip (obl_seq rfl (obl_reg (obl_seq rfl (obl_seq rfl (obl_reg (obl_cond (obl_seq rfl (obl_reg (obl_ret (obl_skip (obl_seq rfl (obl_seq rfl (obl_reg (obl_cond (obl_seq rfl (obl_reg (obl_ret (obl_skip (obl_join _ rfl (obl_store _ rfl (by kernel_rfl) trivial) (fun a_ w_ hL_ => (by
    obtain ⟨hz_, hd_, hL_⟩ := atSz_out hL_
    obtain ⟨t1, h1_, hL_⟩ := atI_out hL_
    obtain ⟨t2, h2_, hL_⟩ := atI_out hL_
    obtain ⟨t7, h7_, hL_⟩ := atA_out hL_
    obtain ⟨t12, h12_, hL_⟩ := atA_out hL_
    obtain ⟨t13, h13_, hL_⟩ := atB_out hL_
    obtain ⟨g3000014, rfl⟩ : ∃ g, a_ = Fr 102 [(1, Value.int .i64 t1), (2, Value.int .i64 t2), (7, Value.pointer (some t7)), (12, Value.pointer (some t12)), (13, Value.bool t13)] g := ⟨_, fr_of hz_ hd_ [(1, Value.int .i64 t1), (2, Value.int .i64 t2), (7, Value.pointer (some t7)), (12, Value.pointer (some t12)), (13, Value.bool t13)] (sel_cons h1_ (sel_cons h2_ (sel_cons h7_ (sel_cons h12_ (sel_cons h13_ sel_nil)))))⟩
    clear hz_ hd_ h1_ h2_ h7_ h12_ h13_
    have hJ3000014_ := hL_
    refine ⟨(marks [2000012] (surdlaw08_DyadicShort_cut K14)), kcast (h3000014 t1 t2 t7 t12 t13 w_ hJ3000014_) ?_, ?_⟩
    · kernel_rfl
    · exact (obl_seq rfl (obl_seq rfl (obl_reg (obl_cond (obl_seq rfl (obl_reg (obl_ret (obl_skip (obl_seq rfl (obl_reg (obl_seq rfl (obl_seq rfl (obl_reg (obl_cond (obl_seq rfl (obl_held (by kernel_rfl) (by kernel_rfl) (by kernel_rfl) (obl_ret (obl_skip (obl_seq rfl (obl_held (by kernel_rfl) (by kernel_rfl) (by kernel_rfl) (obl_ret trivial))))))))))))))))))))))))))))))))))))))))))))))))))))))))))))))))

end Go.Proofs.YthhbjhdnaopcnaaDoor
namespace Go.Proofs.YthhbjhdnaopcnaaDoor
open Go Go.RowKit Eng L2
set_option linter.unusedVariables false
set_option maxHeartbeats 2000000
set_option maxRecDepth 100000

/-- surd/surdlaw08.DyadicShort: function 11, its local variables as values. -/
theorem surdlaw08_DyadicShort_v2 (a0_0 : Bool) (a0_1 : Slc) (a0_2 : Int) (a1 : Int) (a2 : Int) (w : World) (R : Ending → World → Prop)
    (K14 : Int → Int → Bool → Bool → Slc → Int → Bool → Slc → Int → World → Prop)
    (h : ∀ w1, Ext w w1 → Ahead w w1 →
    (Calls Tryd.prog 35 #[Value.agg #[Value.bool a0_0, a0_1.v, Value.int .i64 a0_2]] w1 fun e1 w2 =>
     ∃ b1 : Bool, ∃ s1 : Slc, ∃ x1 : Int, ∃ b2 : Bool, e1 = .returned (Value.tuple #[Value.agg #[Value.bool b1, s1.v, Value.int .i64 x1], Value.bool b2]) ∧ Ahead w1 w2 ∧
     (br (!b2)
      (∀ w3, Ext w2 w3 → Ahead w w3 →
       (Calls Tryd.prog 14 #[] w3 fun e2 w4 =>
        ∃ b3 : Bool, e2 = .returned (Value.bool b3) ∧ Ahead w3 w4 ∧
        (R (.returned (Value.bool b3)) w4)))
      (br (decide (a1 < 1))
       (∀ w5, Ext w2 w5 → Ahead w w5 →
        (Calls Tryd.prog 14 #[] w5 fun e3 w6 =>
         ∃ b4 : Bool, e3 = .returned (Value.bool b4) ∧ Ahead w5 w6 ∧
         (R (.returned (Value.bool b4)) w6)))
       (br (decide (a1 > 1048576))
        (∀ w7, Ext w2 w7 → Ahead w w7 →
         (Calls Tryd.prog 14 #[] w7 fun e4 w8 =>
          ∃ b5 : Bool, e4 = .returned (Value.bool b5) ∧ Ahead w7 w8 ∧
          (R (.returned (Value.bool b5)) w8)))
        (∀ w9, Ext w2 w9 → Ahead w w9 →
         (Calls Tryd.prog 37 #[Value.int .i64 a2] w9 fun e5 w10 =>
          ∃ b6 : Bool, e5 = .returned (Value.bool b6) ∧ Ahead w9 w10 ∧
          (br (!b6)
           (Calls Tryd.prog 14 #[] w10 fun e6 w11 =>
            ∃ b7 : Bool, e6 = .returned (Value.bool b7) ∧ Ahead w10 w11 ∧
            (R (.returned (Value.bool b7)) w11))
           (Calls Tryd.prog 17 #[Value.agg #[Value.bool a0_0, a0_1.v, Value.int .i64 a0_2]] w10 fun e7 w12 =>
            ∃ b8 : Bool, ∃ s2 : Slc, ∃ x2 : Int, e7 = .returned (Value.agg #[Value.bool b8, s2.v, Value.int .i64 x2]) ∧ Ahead w10 w12 ∧
            (Calls Tryd.prog 39 #[Value.agg #[Value.bool b8, s2.v, Value.int .i64 x2], Value.int .i64 a1, Value.int .i64 a2] w12 fun e8 w13 =>
             ∃ b9 : Bool, ∃ s3 : Slc, ∃ x3 : Int, ∃ x4 : Int, e8 = .returned (Value.tuple #[Value.agg #[Value.bool b9, s3.v, Value.int .i64 x3], Value.int .i64 x4]) ∧ Ahead w12 w13 ∧
             (∀ w14, Ext w13 w14 → Ahead w w14 →
              (Calls Tryd.prog 13 #[Value.int .i64 x4] w14 fun e9 w15 =>
               ∃ x5 : Int, e9 = .returned (Value.int .i64 x5) ∧ Ahead w14 w15 ∧
               (br (x5 != 0)
                (Calls Tryd.prog 14 #[] w15 fun e10 w16 =>
                 ∃ b10 : Bool, e10 = .returned (Value.bool b10) ∧ Ahead w15 w16 ∧
                 (R (.returned (Value.bool b10)) w16))
                (Calls Tryd.prog 58 #[Value.agg #[Value.bool b9, s3.v, Value.int .i64 x3]] w15 fun e11 w17 =>
                 ∃ b11 : Bool, ∃ s4 : Slc, ∃ x6 : Int, e11 = .returned (Value.agg #[Value.bool b11, s4.v, Value.int .i64 x6]) ∧ Ahead w15 w17 ∧
                 (∀ w18, Ext w17 w18 → Ahead w w18 →
                  (Calls Tryd.prog 34 #[s4.v] w18 fun e12 w19 =>
                   ∃ x7 : Int, e12 = .returned (Value.int .i64 x7) ∧ Ahead w18 w19 ∧
                   (br (decide (x7 > a1))
                    (R (.returned (Value.bool false)) w19)
                    (Calls Tryd.prog 34 #[s1.v] w19 fun e13 w20 =>
                     ∃ x8 : Int, e13 = .returned (Value.int .i64 x8) ∧ Ahead w19 w20 ∧
                     (br (decide (x8 ≤ a1))
                      (Calls Tryd.prog 48 #[Value.agg #[Value.bool b11, s4.v, Value.int .i64 x6], Value.agg #[Value.bool b1, s1.v, Value.int .i64 x1]] w20 fun e14 w21 =>
                       ∃ x9 : Int, e14 = .returned (Value.int .i64 x9) ∧ Ahead w20 w21 ∧
                       (br (x9 == 0)
                        (Calls Tryd.prog 14 #[] w21 fun e15 w22 =>
                         ∃ b12 : Bool, e15 = .returned (Value.bool b12) ∧ Ahead w21 w22 ∧
                         (R (.returned (Value.bool b12)) w22))
                        (R (.returned (Value.bool false)) w21)))
                      (∀ w23, Ext w20 w23 → Ahead w w23 →
                       (Calls Tryd.prog 60 #[Value.agg #[Value.bool b1, s1.v, Value.int .i64 x1]] w23 fun e16 w24 =>
                        ∃ b13 : Bool, ∃ s5 : Slc, ∃ x10 : Int, e16 = .returned (Value.agg #[Value.bool b13, s5.v, Value.int .i64 x10]) ∧ Ahead w23 w24 ∧
                        (∀ w25, Ext w24 w25 → Ahead w w25 →
                         (Calls Tryd.prog 49 #[Value.agg #[Value.bool b11, s4.v, Value.int .i64 x6], Value.agg #[Value.bool b13, s5.v, Value.int .i64 x10]] w25 fun e17 w26 =>
                          ∃ b14 : Bool, ∃ s6 : Slc, ∃ x11 : Int, ∃ b15 : Bool, e17 = .returned (Value.tuple #[Value.agg #[Value.bool b14, s6.v, Value.int .i64 x11], Value.bool b15]) ∧ Ahead w25 w26 ∧
                          (∀ w38, Ext w26 w38 → Ahead w w38 →
                           (K14 a1 a2 b15 b1 s1 x1 b14 s6 x11 w38)))))))))))))))))))))))))
    (h3000014 : ∀ (t1 : Int) (t2 : Int) (t13 : Bool) (t7_0 : Bool) (t7_1 : Slc) (t7_2 : Int) (t12_0 : Bool) (t12_1 : Slc) (t12_2 : Int) (w_ : World), Ahead w w_ → K14 t1 t2 t13 t7_0 t7_1 t7_2 t12_0 t12_1 t12_2 w_ → 
    br (!t13)
    (R (.returned (Value.bool false)) w_)
    (Calls Tryd.prog 61 #[Value.agg #[Value.bool t7_0, t7_1.v, Value.int .i64 t7_2]] w_ fun e18 w27 =>
     ∃ b16 : Bool, ∃ s7 : Slc, ∃ x12 : Int, e18 = .returned (Value.agg #[Value.bool b16, s7.v, Value.int .i64 x12]) ∧ Ahead w_ w27 ∧
     (Calls Tryd.prog 50 #[Value.agg #[Value.bool b16, s7.v, Value.int .i64 x12], Value.int .i64 (IntKind.i64.wrap (1 - t1))] w27 fun e19 w28 =>
      ∃ b17 : Bool, ∃ s8 : Slc, ∃ x13 : Int, e19 = .returned (Value.agg #[Value.bool b17, s8.v, Value.int .i64 x13]) ∧ Ahead w27 w28 ∧
      (br (t2 == 2)
       (∀ w29, Ext w28 w29 → Ahead w w29 →
        (Calls Tryd.prog 61 #[Value.agg #[Value.bool t12_0, t12_1.v, Value.int .i64 t12_2]] w29 fun e20 w30 =>
         ∃ b18 : Bool, ∃ s9 : Slc, ∃ x14 : Int, e20 = .returned (Value.agg #[Value.bool b18, s9.v, Value.int .i64 x14]) ∧ Ahead w29 w30 ∧
         (Calls Tryd.prog 50 #[Value.agg #[Value.bool b17, s8.v, Value.int .i64 x13], Value.int .i64 (-1)] w30 fun e21 w31 =>
          ∃ b19 : Bool, ∃ s10 : Slc, ∃ x15 : Int, e21 = .returned (Value.agg #[Value.bool b19, s10.v, Value.int .i64 x15]) ∧ Ahead w30 w31 ∧
          (Calls Tryd.prog 48 #[Value.agg #[Value.bool b18, s9.v, Value.int .i64 x14], Value.agg #[Value.bool b19, s10.v, Value.int .i64 x15]] w31 fun e22 w32 =>
           ∃ x16 : Int, e22 = .returned (Value.int .i64 x16) ∧ Ahead w31 w32 ∧
           (br (decide (x16 ≤ 0))
            (Calls Tryd.prog 14 #[] w32 fun e23 w33 =>
             ∃ b20 : Bool, e23 = .returned (Value.bool b20) ∧ Ahead w32 w33 ∧
             (R (.returned (Value.bool b20)) w33))
            (R (.returned (Value.bool false)) w32))))))
       (∀ w34, Ext w28 w34 → Ahead w w34 →
        (Calls Tryd.prog 61 #[Value.agg #[Value.bool t12_0, t12_1.v, Value.int .i64 t12_2]] w34 fun e24 w35 =>
         ∃ b21 : Bool, ∃ s11 : Slc, ∃ x17 : Int, e24 = .returned (Value.agg #[Value.bool b21, s11.v, Value.int .i64 x17]) ∧ Ahead w34 w35 ∧
         (Calls Tryd.prog 48 #[Value.agg #[Value.bool b21, s11.v, Value.int .i64 x17], Value.agg #[Value.bool b17, s8.v, Value.int .i64 x13]] w35 fun e25 w36 =>
          ∃ x18 : Int, e25 = .returned (Value.int .i64 x18) ∧ Ahead w35 w36 ∧
          (br (decide (x18 < 0))
           (Calls Tryd.prog 14 #[] w36 fun e26 w37 =>
            ∃ b22 : Bool, e26 = .returned (Value.bool b22) ∧ Ahead w36 w37 ∧
            (R (.returned (Value.bool b22)) w37))
           (R (.returned (Value.bool false)) w36))))))))) :
    Calls Tryd.prog 11 #[Value.agg #[Value.bool a0_0, a0_1.v, Value.int .i64 a0_2], Value.int .i64 a1, Value.int .i64 a2] w (fun e_ w_ => Ahead w w_ ∧ R e_ w_) := by
  refine surdlaw08_DyadicShort_vc a0_0 a0_1 a0_2 a1 a2 w _ (fun t1 t2 t7 t12 t13 w_ => ∃ c7_ : Nat, ∃ c12_ : Nat, ∃ t7_0 : Bool, ∃ t7_1 : Slc, ∃ t7_2 : Int, ∃ t12_0 : Bool, ∃ t12_1 : Slc, ∃ t12_2 : Int, t7 = ⟨c7_, 0, none⟩ ∧ Blt w_ c7_ 47 #[Value.bool t7_0, t7_1.v, Value.int .i64 t7_2] ∧ w.heap.size ≤ c7_ ∧ t12 = ⟨c12_, 0, none⟩ ∧ Blt w_ c12_ 47 #[Value.bool t12_0, t12_1.v, Value.int .i64 t12_2] ∧ w.heap.size ≤ c12_ ∧ c7_ ≠ c12_ ∧ Ahead w w_ ∧ K14 t1 t2 t13 t7_0 t7_1 t7_2 t12_0 t12_1 t12_2 w_) ?_ ?_
  · have A : Ahead w w := Ahead.refl w
    have X : Ext w w := Ext.refl w
    refine newC_t fun bk1 u1 hb1 ha_u1 hs B1 => ?_
    have g1 : w.heap.size ≤ bk1 := by have := A.size; omega
    replace A := A.trans ha_u1
    replace X := X.trans (Ext.of_ahead ha_u1)
    clear hs hb1
    refine ldB_t 0 B1 rfl ?_
    refine ldS_t 1 B1 rfl ?_
    refine ldI_t 2 B1 rfl ?_
    replace h := h _ X A
    refine Calls.mono h ?_
    clear h
    rintro e1 w2 ⟨b1, s1, x1, b2, he_, ha_w2, h⟩
    refine ⟨b1, s1, x1, b2, he_, ?_⟩
    clear he_
    replace B1 := B1.ahead ha_w2
    replace A := A.trans ha_w2
    replace X := X.trans (Ext.of_ahead ha_w2)
    replace X : Ext w2 w2 := Ext.refl _
    refine newC_t fun bk2 u2 hb2 ha_u2 hs B2 => ?_
    have g2 : w.heap.size ≤ bk2 := by have := A.size; omega
    have l1_2 : bk1 < bk2 := by have := B1.lt; omega
    replace B1 := B1.ahead ha_u2
    replace A := A.trans ha_u2
    replace X := X.trans (Ext.of_ahead ha_u2)
    clear hs hb2
    refine stC_t 0 B2 rfl rfl rfl fun u3 k_u3 B2_ => ?_
    replace B2 : Blt u3 bk2 47 #[Value.bool b1, (⟨none, 0, 0⟩ : Slc).v, Value.int .i64 0] := B2_
    clear B2_
    refine stC_t 1 B2 rfl rfl rfl fun u4 k_u4 B2_ => ?_
    replace B2 : Blt u4 bk2 47 #[Value.bool b1, s1.v, Value.int .i64 0] := B2_
    clear B2_
    refine stC_t 2 B2 rfl rfl rfl fun u5 k_u5 B2_ => ?_
    replace B2 : Blt u5 bk2 47 #[Value.bool b1, s1.v, Value.int .i64 x1] := B2_
    clear B2_
    have kk_u3 := ((k_u3.trans k_u4).trans k_u5)
    replace B1 := kk_u3.blt B1 (by omega)
    replace A := kk_u3.ahead A g2
    replace X := X.trans kk_u3.ext
    clear k_u5 k_u4 k_u3
    refine br_map h (fun h_ => ?_) (fun h_ => ?_)
    · skip
      clear h
      have h := h_
      clear h_
      replace h := h _ X A
      refine Calls.mono h ?_
      clear h
      rintro e2 w4 ⟨b3, he_, ha_w4, h⟩
      refine ⟨b3, he_, ?_⟩
      clear he_
      replace B1 := B1.ahead ha_w4
      replace B2 := B2.ahead ha_w4
      replace A := A.trans ha_w4
      replace X := X.trans (Ext.of_ahead ha_w4)
      replace X : Ext w4 w4 := Ext.refl _
      exact ⟨A, h⟩
    · skip
      clear h
      have h := h_
      clear h_
      refine br_map h (fun h_ => ?_) (fun h_ => ?_)
      · skip
        clear h
        have h := h_
        clear h_
        replace h := h _ X A
        refine Calls.mono h ?_
        clear h
        rintro e3 w6 ⟨b4, he_, ha_w6, h⟩
        refine ⟨b4, he_, ?_⟩
        clear he_
        replace B1 := B1.ahead ha_w6
        replace B2 := B2.ahead ha_w6
        replace A := A.trans ha_w6
        replace X := X.trans (Ext.of_ahead ha_w6)
        replace X : Ext w6 w6 := Ext.refl _
        exact ⟨A, h⟩
      · skip
        clear h
        have h := h_
        clear h_
        refine br_map h (fun h_ => ?_) (fun h_ => ?_)
        · skip
          clear h
          have h := h_
          clear h_
          replace h := h _ X A
          refine Calls.mono h ?_
          clear h
          rintro e4 w8 ⟨b5, he_, ha_w8, h⟩
          refine ⟨b5, he_, ?_⟩
          clear he_
          replace B1 := B1.ahead ha_w8
          replace B2 := B2.ahead ha_w8
          replace A := A.trans ha_w8
          replace X := X.trans (Ext.of_ahead ha_w8)
          replace X : Ext w8 w8 := Ext.refl _
          exact ⟨A, h⟩
        · skip
          clear h
          have h := h_
          clear h_
          replace h := h _ X A
          refine Calls.mono h ?_
          clear h
          rintro e5 w10 ⟨b6, he_, ha_w10, h⟩
          refine ⟨b6, he_, ?_⟩
          clear he_
          replace B1 := B1.ahead ha_w10
          replace B2 := B2.ahead ha_w10
          replace A := A.trans ha_w10
          replace X := X.trans (Ext.of_ahead ha_w10)
          replace X : Ext w10 w10 := Ext.refl _
          refine br_map h (fun h_ => ?_) (fun h_ => ?_)
          · skip
            clear h
            have h := h_
            clear h_
            refine Calls.mono h ?_
            clear h
            rintro e6 w11 ⟨b7, he_, ha_w11, h⟩
            refine ⟨b7, he_, ?_⟩
            clear he_
            replace B1 := B1.ahead ha_w11
            replace B2 := B2.ahead ha_w11
            replace A := A.trans ha_w11
            replace X := X.trans (Ext.of_ahead ha_w11)
            replace X : Ext w11 w11 := Ext.refl _
            exact ⟨A, h⟩
          · skip
            clear h
            have h := h_
            clear h_
            refine ldB_t 0 B1 rfl ?_
            refine ldS_t 1 B1 rfl ?_
            refine ldI_t 2 B1 rfl ?_
            refine Calls.mono h ?_
            clear h
            rintro e7 w12 ⟨b8, s2, x2, he_, ha_w12, h⟩
            refine ⟨b8, s2, x2, he_, ?_⟩
            clear he_
            replace B1 := B1.ahead ha_w12
            replace B2 := B2.ahead ha_w12
            replace A := A.trans ha_w12
            replace X := X.trans (Ext.of_ahead ha_w12)
            replace X : Ext w12 w12 := Ext.refl _
            refine Calls.mono h ?_
            clear h
            rintro e8 w13 ⟨b9, s3, x3, x4, he_, ha_w13, h⟩
            refine ⟨b9, s3, x3, x4, he_, ?_⟩
            clear he_
            replace B1 := B1.ahead ha_w13
            replace B2 := B2.ahead ha_w13
            replace A := A.trans ha_w13
            replace X := X.trans (Ext.of_ahead ha_w13)
            replace X : Ext w13 w13 := Ext.refl _
            refine newC_t fun bk3 u6 hb3 ha_u6 hs B3 => ?_
            have g3 : w.heap.size ≤ bk3 := by have := A.size; omega
            have l1_3 : bk1 < bk3 := by have := B1.lt; omega
            have l2_3 : bk2 < bk3 := by have := B2.lt; omega
            replace B1 := B1.ahead ha_u6
            replace B2 := B2.ahead ha_u6
            replace A := A.trans ha_u6
            replace X := X.trans (Ext.of_ahead ha_u6)
            clear hs hb3
            refine stC_t 0 B3 rfl rfl rfl fun u7 k_u7 B3_ => ?_
            replace B3 : Blt u7 bk3 33 #[Value.bool b9, (⟨none, 0, 0⟩ : Slc).v, Value.int .i64 0] := B3_
            clear B3_
            refine stC_t 1 B3 rfl rfl rfl fun u8 k_u8 B3_ => ?_
            replace B3 : Blt u8 bk3 33 #[Value.bool b9, s3.v, Value.int .i64 0] := B3_
            clear B3_
            refine stC_t 2 B3 rfl rfl rfl fun u9 k_u9 B3_ => ?_
            replace B3 : Blt u9 bk3 33 #[Value.bool b9, s3.v, Value.int .i64 x3] := B3_
            clear B3_
            have kk_u7 := ((k_u7.trans k_u8).trans k_u9)
            replace B1 := kk_u7.blt B1 (by omega)
            replace B2 := kk_u7.blt B2 (by omega)
            replace A := kk_u7.ahead A g3
            replace X := X.trans kk_u7.ext
            clear k_u9 k_u8 k_u7
            replace h := h _ X A
            refine Calls.mono h ?_
            clear h
            rintro e9 w15 ⟨x5, he_, ha_w15, h⟩
            refine ⟨x5, he_, ?_⟩
            clear he_
            replace B1 := B1.ahead ha_w15
            replace B2 := B2.ahead ha_w15
            replace B3 := B3.ahead ha_w15
            replace A := A.trans ha_w15
            replace X := X.trans (Ext.of_ahead ha_w15)
            replace X : Ext w15 w15 := Ext.refl _
            refine br_map h (fun h_ => ?_) (fun h_ => ?_)
            · skip
              clear h
              have h := h_
              clear h_
              refine Calls.mono h ?_
              clear h
              rintro e10 w16 ⟨b10, he_, ha_w16, h⟩
              refine ⟨b10, he_, ?_⟩
              clear he_
              replace B1 := B1.ahead ha_w16
              replace B2 := B2.ahead ha_w16
              replace B3 := B3.ahead ha_w16
              replace A := A.trans ha_w16
              replace X := X.trans (Ext.of_ahead ha_w16)
              replace X : Ext w16 w16 := Ext.refl _
              exact ⟨A, h⟩
            · skip
              clear h
              have h := h_
              clear h_
              refine ldB_t 0 B3 rfl ?_
              refine ldS_t 1 B3 rfl ?_
              refine ldI_t 2 B3 rfl ?_
              refine Calls.mono h ?_
              clear h
              rintro e11 w17 ⟨b11, s4, x6, he_, ha_w17, h⟩
              refine ⟨b11, s4, x6, he_, ?_⟩
              clear he_
              replace B1 := B1.ahead ha_w17
              replace B2 := B2.ahead ha_w17
              replace B3 := B3.ahead ha_w17
              replace A := A.trans ha_w17
              replace X := X.trans (Ext.of_ahead ha_w17)
              replace X : Ext w17 w17 := Ext.refl _
              refine newC_t fun bk4 u10 hb4 ha_u10 hs B4 => ?_
              have g4 : w.heap.size ≤ bk4 := by have := A.size; omega
              have l1_4 : bk1 < bk4 := by have := B1.lt; omega
              have l2_4 : bk2 < bk4 := by have := B2.lt; omega
              have l3_4 : bk3 < bk4 := by have := B3.lt; omega
              replace B1 := B1.ahead ha_u10
              replace B2 := B2.ahead ha_u10
              replace B3 := B3.ahead ha_u10
              replace A := A.trans ha_u10
              replace X := X.trans (Ext.of_ahead ha_u10)
              clear hs hb4
              refine stC_t 0 B4 rfl rfl rfl fun u11 k_u11 B4_ => ?_
              replace B4 : Blt u11 bk4 47 #[Value.bool b11, (⟨none, 0, 0⟩ : Slc).v, Value.int .i64 0] := B4_
              clear B4_
              refine stC_t 1 B4 rfl rfl rfl fun u12 k_u12 B4_ => ?_
              replace B4 : Blt u12 bk4 47 #[Value.bool b11, s4.v, Value.int .i64 0] := B4_
              clear B4_
              refine stC_t 2 B4 rfl rfl rfl fun u13 k_u13 B4_ => ?_
              replace B4 : Blt u13 bk4 47 #[Value.bool b11, s4.v, Value.int .i64 x6] := B4_
              clear B4_
              have kk_u11 := ((k_u11.trans k_u12).trans k_u13)
              replace B1 := kk_u11.blt B1 (by omega)
              replace B2 := kk_u11.blt B2 (by omega)
              replace B3 := kk_u11.blt B3 (by omega)
              replace A := kk_u11.ahead A g4
              replace X := X.trans kk_u11.ext
              clear k_u13 k_u12 k_u11
              refine ldS_t 1 B4 rfl ?_
              replace h := h _ X A
              refine Calls.mono h ?_
              clear h
              rintro e12 w19 ⟨x7, he_, ha_w19, h⟩
              refine ⟨x7, he_, ?_⟩
              clear he_
              replace B1 := B1.ahead ha_w19
              replace B2 := B2.ahead ha_w19
              replace B3 := B3.ahead ha_w19
              replace B4 := B4.ahead ha_w19
              replace A := A.trans ha_w19
              replace X := X.trans (Ext.of_ahead ha_w19)
              replace X : Ext w19 w19 := Ext.refl _
              refine br_map h (fun h_ => ?_) (fun h_ => ?_)
              · skip
                clear h
                have h := h_
                clear h_
                exact ⟨A, h⟩
              · skip
                clear h
                have h := h_
                clear h_
                refine ldS_t 1 B2 rfl ?_
                refine Calls.mono h ?_
                clear h
                rintro e13 w20 ⟨x8, he_, ha_w20, h⟩
                refine ⟨x8, he_, ?_⟩
                clear he_
                replace B1 := B1.ahead ha_w20
                replace B2 := B2.ahead ha_w20
                replace B3 := B3.ahead ha_w20
                replace B4 := B4.ahead ha_w20
                replace A := A.trans ha_w20
                replace X := X.trans (Ext.of_ahead ha_w20)
                replace X : Ext w20 w20 := Ext.refl _
                refine br_map h (fun h_ => ?_) (fun h_ => ?_)
                · skip
                  clear h
                  have h := h_
                  clear h_
                  refine ldB_t 0 B4 rfl ?_
                  refine ldS_t 1 B4 rfl ?_
                  refine ldI_t 2 B4 rfl ?_
                  refine ldB_t 0 B2 rfl ?_
                  refine ldS_t 1 B2 rfl ?_
                  refine ldI_t 2 B2 rfl ?_
                  refine Calls.mono h ?_
                  clear h
                  rintro e14 w21 ⟨x9, he_, ha_w21, h⟩
                  refine ⟨x9, he_, ?_⟩
                  clear he_
                  replace B1 := B1.ahead ha_w21
                  replace B2 := B2.ahead ha_w21
                  replace B3 := B3.ahead ha_w21
                  replace B4 := B4.ahead ha_w21
                  replace A := A.trans ha_w21
                  replace X := X.trans (Ext.of_ahead ha_w21)
                  replace X : Ext w21 w21 := Ext.refl _
                  refine br_map h (fun h_ => ?_) (fun h_ => ?_)
                  · skip
                    clear h
                    have h := h_
                    clear h_
                    refine Calls.mono h ?_
                    clear h
                    rintro e15 w22 ⟨b12, he_, ha_w22, h⟩
                    refine ⟨b12, he_, ?_⟩
                    clear he_
                    replace B1 := B1.ahead ha_w22
                    replace B2 := B2.ahead ha_w22
                    replace B3 := B3.ahead ha_w22
                    replace B4 := B4.ahead ha_w22
                    replace A := A.trans ha_w22
                    replace X := X.trans (Ext.of_ahead ha_w22)
                    replace X : Ext w22 w22 := Ext.refl _
                    exact ⟨A, h⟩
                  · skip
                    clear h
                    have h := h_
                    clear h_
                    exact ⟨A, h⟩
                · skip
                  clear h
                  have h := h_
                  clear h_
                  have hd_ := Sp.Ahead.drew w20
                  replace B1 := B1.ahead hd_
                  replace B2 := B2.ahead hd_
                  replace B3 := B3.ahead hd_
                  replace B4 := B4.ahead hd_
                  replace A := A.trans hd_
                  replace X := X.trans (Ext.of_ahead hd_)
                  clear hd_
                  have z1 := B1.lt
                  have z2 := B2.lt
                  have z3 := B3.lt
                  have z4 := B4.lt
                  let V_ : Nat → Nat → Prop := fun (q_ k : Nat) => (k < 0 ∨ w20.drew.heap.size ≤ k) ∧ 0 ≤ k
                  refine ⟨V_, ?_⟩
                  have Y_ : w20.drew.heap.size ≤ w20.drew.heap.size := Nat.le_refl _
                  refine out_t (b := bk4) (i := 0) (by first | rfl | exact Sp.add_off) (fun hv_ => (by replace hv_ : _ ∧ _ := hv_; omega)) ?_
                  refine ldB_t 0 B4 rfl ?_
                  refine ldS_t 1 B4 rfl ?_
                  refine ldI_t 2 B4 rfl ?_
                  refine out_t (b := bk2) (i := 0) (by first | rfl | exact Sp.add_off) (fun hv_ => (by replace hv_ : _ ∧ _ := hv_; omega)) ?_
                  refine ldB_t 0 B2 rfl ?_
                  refine ldS_t 1 B2 rfl ?_
                  refine ldI_t 2 B2 rfl ?_
                  refine ⟨?_, ?_⟩
                  · skip
                    replace h := h _ X A
                    refine Calls.mono h ?_
                    clear h
                    rintro e16 w24 ⟨b13, s5, x10, he_, ha_w24, h⟩
                    refine ⟨b13, s5, x10, he_, ?_⟩
                    clear he_
                    replace B1 := B1.ahead ha_w24
                    replace B2 := B2.ahead ha_w24
                    replace B3 := B3.ahead ha_w24
                    replace B4 := B4.ahead ha_w24
                    replace Y_ := Nat.le_trans Y_ ha_w24.size
                    replace A := A.trans ha_w24
                    replace X := X.trans (Ext.of_ahead ha_w24)
                    replace X : Ext w24 w24 := Ext.refl _
                    refine ⟨(Bar.of_ahead ha_w24), ?_⟩
                    refine ⟨?_, ?_⟩
                    · skip
                      replace h := h _ X A
                      refine Calls.mono h ?_
                      clear h
                      rintro e17 w26 ⟨b14, s6, x11, b15, he_, ha_w26, h⟩
                      refine ⟨b14, s6, x11, b15, he_, ?_⟩
                      clear he_
                      replace B1 := B1.ahead ha_w26
                      replace B2 := B2.ahead ha_w26
                      replace B3 := B3.ahead ha_w26
                      replace B4 := B4.ahead ha_w26
                      replace Y_ := Nat.le_trans Y_ ha_w26.size
                      replace A := A.trans ha_w26
                      replace X := X.trans (Ext.of_ahead ha_w26)
                      replace X : Ext w26 w26 := Ext.refl _
                      refine newC_t fun bk5 u14 hb5 ha_u14 hs B5 => ?_
                      have g5 : w.heap.size ≤ bk5 := by have := A.size; omega
                      have l1_5 : bk1 < bk5 := by have := B1.lt; omega
                      have l2_5 : bk2 < bk5 := by have := B2.lt; omega
                      have l3_5 : bk3 < bk5 := by have := B3.lt; omega
                      have l4_5 : bk4 < bk5 := by have := B4.lt; omega
                      have y5 : w20.drew.heap.size ≤ bk5 := by omega
                      replace B1 := B1.ahead ha_u14
                      replace B2 := B2.ahead ha_u14
                      replace B3 := B3.ahead ha_u14
                      replace B4 := B4.ahead ha_u14
                      replace Y_ := Nat.le_trans Y_ ha_u14.size
                      replace A := A.trans ha_u14
                      replace X := X.trans (Ext.of_ahead ha_u14)
                      clear hs hb5
                      refine ⟨(Bar.of_ahead ha_u14), ?_⟩
                      refine ⟨(Bar.of_ahead ha_u14), ?_⟩
                      refine stC_t 0 B5 rfl rfl rfl fun u15 k_u15 B5_ => ?_
                      replace B5 : Blt u15 bk5 47 #[Value.bool b14, (⟨none, 0, 0⟩ : Slc).v, Value.int .i64 0] := B5_
                      clear B5_
                      refine stC_t 1 B5 rfl rfl rfl fun u16 k_u16 B5_ => ?_
                      replace B5 : Blt u16 bk5 47 #[Value.bool b14, s6.v, Value.int .i64 0] := B5_
                      clear B5_
                      refine stC_t 2 B5 rfl rfl rfl fun u17 k_u17 B5_ => ?_
                      replace B5 : Blt u17 bk5 47 #[Value.bool b14, s6.v, Value.int .i64 x11] := B5_
                      clear B5_
                      have kk_u15 := ((k_u15.trans k_u16).trans k_u17)
                      replace B1 := kk_u15.blt B1 (by omega)
                      replace B2 := kk_u15.blt B2 (by omega)
                      replace B3 := kk_u15.blt B3 (by omega)
                      replace B4 := kk_u15.blt B4 (by omega)
                      replace A := kk_u15.ahead A g5
                      replace X := X.trans kk_u15.ext
                      replace Y_ := Nat.le_trans Y_ (Nat.le_of_eq kk_u15.size.symm)
                      clear k_u17 k_u16 k_u15
                      replace h := h _ X A
                      exact ⟨bk2, bk5, b1, s1, x1, b14, s6, x11, rfl, B2, g2, rfl, B5, g5, (by omega), A, h⟩
                    · skip
                      refine newC_t fun bk7 u22 hb7 ha_u22 hs B7 => ?_
                      have g7 : w.heap.size ≤ bk7 := by have := A.size; omega
                      have l1_7 : bk1 < bk7 := by have := B1.lt; omega
                      have l2_7 : bk2 < bk7 := by have := B2.lt; omega
                      have l3_7 : bk3 < bk7 := by have := B3.lt; omega
                      have l4_7 : bk4 < bk7 := by have := B4.lt; omega
                      have y7 : w20.drew.heap.size ≤ bk7 := by omega
                      replace B1 := B1.ahead ha_u22
                      replace B2 := B2.ahead ha_u22
                      replace B3 := B3.ahead ha_u22
                      replace B4 := B4.ahead ha_u22
                      replace Y_ := Nat.le_trans Y_ ha_u22.size
                      replace A := A.trans ha_u22
                      replace X := X.trans (Ext.of_ahead ha_u22)
                      clear hs hb7
                      refine ⟨(Bar.of_ahead ha_u22), ?_⟩
                      refine ⟨(Bar.of_ahead ha_u22), ?_⟩
                      replace h := h _ X A
                      refine Calls.mono h ?_
                      clear h
                      rintro e27 w40 ⟨b23, s12, x19, b24, he_, ha_w40, h⟩
                      refine ⟨b23, s12, x19, b24, he_, ?_⟩
                      clear he_
                      replace B1 := B1.ahead ha_w40
                      replace B2 := B2.ahead ha_w40
                      replace B3 := B3.ahead ha_w40
                      replace B4 := B4.ahead ha_w40
                      replace B7 := B7.ahead ha_w40
                      replace Y_ := Nat.le_trans Y_ ha_w40.size
                      replace A := A.trans ha_w40
                      replace X := X.trans (Ext.of_ahead ha_w40)
                      replace X : Ext w40 w40 := Ext.refl _
                      refine stC_t 0 B7 rfl rfl rfl fun u23 k_u23 B7_ => ?_
                      replace B7 : Blt u23 bk7 47 #[Value.bool b23, (⟨none, 0, 0⟩ : Slc).v, Value.int .i64 0] := B7_
                      clear B7_
                      refine stC_t 1 B7 rfl rfl rfl fun u24 k_u24 B7_ => ?_
                      replace B7 : Blt u24 bk7 47 #[Value.bool b23, s12.v, Value.int .i64 0] := B7_
                      clear B7_
                      refine stC_t 2 B7 rfl rfl rfl fun u25 k_u25 B7_ => ?_
                      replace B7 : Blt u25 bk7 47 #[Value.bool b23, s12.v, Value.int .i64 x19] := B7_
                      clear B7_
                      have kk_u23 := ((k_u23.trans k_u24).trans k_u25)
                      replace B1 := kk_u23.blt B1 (by omega)
                      replace B2 := kk_u23.blt B2 (by omega)
                      replace B3 := kk_u23.blt B3 (by omega)
                      replace B4 := kk_u23.blt B4 (by omega)
                      replace A := kk_u23.ahead A g7
                      replace X := X.trans kk_u23.ext
                      replace Y_ := Nat.le_trans Y_ (Nat.le_of_eq kk_u23.size.symm)
                      clear k_u25 k_u24 k_u23
                      replace h := h _ X A
                      exact ⟨bk2, bk7, b1, s1, x1, b23, s12, x19, rfl, B2, g2, rfl, B7, g7, (by omega), A, h⟩
                  · skip
                    refine newC_t fun bk8 u26 hb8 ha_u26 hs B8 => ?_
                    have g8 : w.heap.size ≤ bk8 := by have := A.size; omega
                    have l1_8 : bk1 < bk8 := by have := B1.lt; omega
                    have l2_8 : bk2 < bk8 := by have := B2.lt; omega
                    have l3_8 : bk3 < bk8 := by have := B3.lt; omega
                    have l4_8 : bk4 < bk8 := by have := B4.lt; omega
                    have y8 : w20.drew.heap.size ≤ bk8 := by omega
                    replace B1 := B1.ahead ha_u26
                    replace B2 := B2.ahead ha_u26
                    replace B3 := B3.ahead ha_u26
                    replace B4 := B4.ahead ha_u26
                    replace Y_ := Nat.le_trans Y_ ha_u26.size
                    replace A := A.trans ha_u26
                    replace X := X.trans (Ext.of_ahead ha_u26)
                    clear hs hb8
                    refine ⟨(Bar.of_ahead ha_u26), ?_⟩
                    refine ⟨(Bar.of_ahead ha_u26), ?_⟩
                    replace h := h _ X A
                    refine Calls.mono h ?_
                    clear h
                    rintro e28 w43 ⟨b25, s13, x20, he_, ha_w43, h⟩
                    refine ⟨b25, s13, x20, he_, ?_⟩
                    clear he_
                    replace B1 := B1.ahead ha_w43
                    replace B2 := B2.ahead ha_w43
                    replace B3 := B3.ahead ha_w43
                    replace B4 := B4.ahead ha_w43
                    replace B8 := B8.ahead ha_w43
                    replace Y_ := Nat.le_trans Y_ ha_w43.size
                    replace A := A.trans ha_w43
                    replace X := X.trans (Ext.of_ahead ha_w43)
                    replace X : Ext w43 w43 := Ext.refl _
                    refine ⟨(Bar.of_ahead ha_w43), ?_⟩
                    replace h := h _ X A
                    refine Calls.mono h ?_
                    clear h
                    rintro e29 w45 ⟨b26, s14, x21, b27, he_, ha_w45, h⟩
                    refine ⟨b26, s14, x21, b27, he_, ?_⟩
                    clear he_
                    replace B1 := B1.ahead ha_w45
                    replace B2 := B2.ahead ha_w45
                    replace B3 := B3.ahead ha_w45
                    replace B4 := B4.ahead ha_w45
                    replace B8 := B8.ahead ha_w45
                    replace Y_ := Nat.le_trans Y_ ha_w45.size
                    replace A := A.trans ha_w45
                    replace X := X.trans (Ext.of_ahead ha_w45)
                    replace X : Ext w45 w45 := Ext.refl _
                    refine stC_t 0 B8 rfl rfl rfl fun u27 k_u27 B8_ => ?_
                    replace B8 : Blt u27 bk8 47 #[Value.bool b26, (⟨none, 0, 0⟩ : Slc).v, Value.int .i64 0] := B8_
                    clear B8_
                    refine stC_t 1 B8 rfl rfl rfl fun u28 k_u28 B8_ => ?_
                    replace B8 : Blt u28 bk8 47 #[Value.bool b26, s14.v, Value.int .i64 0] := B8_
                    clear B8_
                    refine stC_t 2 B8 rfl rfl rfl fun u29 k_u29 B8_ => ?_
                    replace B8 : Blt u29 bk8 47 #[Value.bool b26, s14.v, Value.int .i64 x21] := B8_
                    clear B8_
                    have kk_u27 := ((k_u27.trans k_u28).trans k_u29)
                    replace B1 := kk_u27.blt B1 (by omega)
                    replace B2 := kk_u27.blt B2 (by omega)
                    replace B3 := kk_u27.blt B3 (by omega)
                    replace B4 := kk_u27.blt B4 (by omega)
                    replace A := kk_u27.ahead A g8
                    replace X := X.trans kk_u27.ext
                    replace Y_ := Nat.le_trans Y_ (Nat.le_of_eq kk_u27.size.symm)
                    clear k_u29 k_u28 k_u27
                    replace h := h _ X A
                    exact ⟨bk2, bk8, b1, s1, x1, b26, s14, x21, rfl, B2, g2, rfl, B8, g8, (by omega), A, h⟩
  · clear h
    rintro t1 t2 t7 t12 t13 w_ ⟨bk2, bk5, t7_0, t7_1, t7_2, t12_0, t12_1, t12_2, rfl, B2, g2, rfl, B5, g5, n2_5, A, hJ3000014⟩
    have h := h3000014  t1 t2 t13 t7_0 t7_1 t7_2 t12_0 t12_1 t12_2 w_ A hJ3000014
    have X : Ext w_ w_ := Ext.refl _
    refine br_map h (fun h_ => ?_) (fun h_ => ?_)
    · skip
      clear h
      have h := h_
      clear h_
      exact ⟨A, h⟩
    · skip
      clear h
      have h := h_
      clear h_
      refine ldB_t 0 B2 rfl ?_
      refine ldS_t 1 B2 rfl ?_
      refine ldI_t 2 B2 rfl ?_
      refine Calls.mono h ?_
      clear h
      rintro e18 w27 ⟨b16, s7, x12, he_, ha_w27, h⟩
      refine ⟨b16, s7, x12, he_, ?_⟩
      clear he_
      replace B2 := B2.ahead ha_w27
      replace B5 := B5.ahead ha_w27
      replace A := A.trans ha_w27
      replace X := X.trans (Ext.of_ahead ha_w27)
      replace X : Ext w27 w27 := Ext.refl _
      refine Calls.mono h ?_
      clear h
      rintro e19 w28 ⟨b17, s8, x13, he_, ha_w28, h⟩
      refine ⟨b17, s8, x13, he_, ?_⟩
      clear he_
      replace B2 := B2.ahead ha_w28
      replace B5 := B5.ahead ha_w28
      replace A := A.trans ha_w28
      replace X := X.trans (Ext.of_ahead ha_w28)
      replace X : Ext w28 w28 := Ext.refl _
      refine newC_t fun bk6 u18 hb6 ha_u18 hs B6 => ?_
      have g6 : w.heap.size ≤ bk6 := by have := A.size; omega
      have l2_6 : bk2 < bk6 := by have := B2.lt; omega
      have l5_6 : bk5 < bk6 := by have := B5.lt; omega
      replace B2 := B2.ahead ha_u18
      replace B5 := B5.ahead ha_u18
      replace A := A.trans ha_u18
      replace X := X.trans (Ext.of_ahead ha_u18)
      clear hs hb6
      refine stC_t 0 B6 rfl rfl rfl fun u19 k_u19 B6_ => ?_
      replace B6 : Blt u19 bk6 47 #[Value.bool b17, (⟨none, 0, 0⟩ : Slc).v, Value.int .i64 0] := B6_
      clear B6_
      refine stC_t 1 B6 rfl rfl rfl fun u20 k_u20 B6_ => ?_
      replace B6 : Blt u20 bk6 47 #[Value.bool b17, s8.v, Value.int .i64 0] := B6_
      clear B6_
      refine stC_t 2 B6 rfl rfl rfl fun u21 k_u21 B6_ => ?_
      replace B6 : Blt u21 bk6 47 #[Value.bool b17, s8.v, Value.int .i64 x13] := B6_
      clear B6_
      have kk_u19 := ((k_u19.trans k_u20).trans k_u21)
      replace B2 := kk_u19.blt B2 (by omega)
      replace B5 := kk_u19.blt B5 (by omega)
      replace A := kk_u19.ahead A g6
      replace X := X.trans kk_u19.ext
      clear k_u21 k_u20 k_u19
      refine br_map h (fun h_ => ?_) (fun h_ => ?_)
      · skip
        clear h
        have h := h_
        clear h_
        have hd_ := Sp.Ahead.drew u21
        replace B2 := B2.ahead hd_
        replace B5 := B5.ahead hd_
        replace B6 := B6.ahead hd_
        replace A := A.trans hd_
        replace X := X.trans (Ext.of_ahead hd_)
        clear hd_
        refine ldB_t 0 B5 rfl ?_
        refine ldS_t 1 B5 rfl ?_
        refine ldI_t 2 B5 rfl ?_
        refine ldB_t 0 B6 rfl ?_
        refine ldS_t 1 B6 rfl ?_
        refine ldI_t 2 B6 rfl ?_
        replace h := h _ X A
        refine Calls.mono h ?_
        clear h
        rintro e20 w30 ⟨b18, s9, x14, he_, ha_w30, h⟩
        refine ⟨b18, s9, x14, he_, ?_⟩
        clear he_
        replace B2 := B2.ahead ha_w30
        replace B5 := B5.ahead ha_w30
        replace B6 := B6.ahead ha_w30
        replace A := A.trans ha_w30
        replace X := X.trans (Ext.of_ahead ha_w30)
        replace X : Ext w30 w30 := Ext.refl _
        refine ⟨ha_w30, ?_⟩
        refine Calls.mono h ?_
        clear h
        rintro e21 w31 ⟨b19, s10, x15, he_, ha_w31, h⟩
        refine ⟨b19, s10, x15, he_, ?_⟩
        clear he_
        replace B2 := B2.ahead ha_w31
        replace B5 := B5.ahead ha_w31
        replace B6 := B6.ahead ha_w31
        replace A := A.trans ha_w31
        replace X := X.trans (Ext.of_ahead ha_w31)
        replace X : Ext w31 w31 := Ext.refl _
        refine ⟨ha_w31, ?_⟩
        refine Calls.mono h ?_
        clear h
        rintro e22 w32 ⟨x16, he_, ha_w32, h⟩
        refine ⟨x16, he_, ?_⟩
        clear he_
        replace B2 := B2.ahead ha_w32
        replace B5 := B5.ahead ha_w32
        replace B6 := B6.ahead ha_w32
        replace A := A.trans ha_w32
        replace X := X.trans (Ext.of_ahead ha_w32)
        replace X : Ext w32 w32 := Ext.refl _
        refine ⟨ha_w32, ?_⟩
        refine br_map h (fun h_ => ?_) (fun h_ => ?_)
        · skip
          clear h
          have h := h_
          clear h_
          refine Calls.mono h ?_
          clear h
          rintro e23 w33 ⟨b20, he_, ha_w33, h⟩
          refine ⟨b20, he_, ?_⟩
          clear he_
          replace B2 := B2.ahead ha_w33
          replace B5 := B5.ahead ha_w33
          replace B6 := B6.ahead ha_w33
          replace A := A.trans ha_w33
          replace X := X.trans (Ext.of_ahead ha_w33)
          replace X : Ext w33 w33 := Ext.refl _
          refine ⟨ha_w33, ?_⟩
          exact ⟨A, h⟩
        · skip
          clear h
          have h := h_
          clear h_
          exact ⟨A, h⟩
      · skip
        clear h
        have h := h_
        clear h_
        have hd_ := Sp.Ahead.drew u21
        replace B2 := B2.ahead hd_
        replace B5 := B5.ahead hd_
        replace B6 := B6.ahead hd_
        replace A := A.trans hd_
        replace X := X.trans (Ext.of_ahead hd_)
        clear hd_
        refine ldB_t 0 B5 rfl ?_
        refine ldS_t 1 B5 rfl ?_
        refine ldI_t 2 B5 rfl ?_
        refine ldB_t 0 B6 rfl ?_
        refine ldS_t 1 B6 rfl ?_
        refine ldI_t 2 B6 rfl ?_
        replace h := h _ X A
        refine Calls.mono h ?_
        clear h
        rintro e24 w35 ⟨b21, s11, x17, he_, ha_w35, h⟩
        refine ⟨b21, s11, x17, he_, ?_⟩
        clear he_
        replace B2 := B2.ahead ha_w35
        replace B5 := B5.ahead ha_w35
        replace B6 := B6.ahead ha_w35
        replace A := A.trans ha_w35
        replace X := X.trans (Ext.of_ahead ha_w35)
        replace X : Ext w35 w35 := Ext.refl _
        refine ⟨ha_w35, ?_⟩
        refine Calls.mono h ?_
        clear h
        rintro e25 w36 ⟨x18, he_, ha_w36, h⟩
        refine ⟨x18, he_, ?_⟩
        clear he_
        replace B2 := B2.ahead ha_w36
        replace B5 := B5.ahead ha_w36
        replace B6 := B6.ahead ha_w36
        replace A := A.trans ha_w36
        replace X := X.trans (Ext.of_ahead ha_w36)
        replace X : Ext w36 w36 := Ext.refl _
        refine ⟨ha_w36, ?_⟩
        refine br_map h (fun h_ => ?_) (fun h_ => ?_)
        · skip
          clear h
          have h := h_
          clear h_
          refine Calls.mono h ?_
          clear h
          rintro e26 w37 ⟨b22, he_, ha_w37, h⟩
          refine ⟨b22, he_, ?_⟩
          clear he_
          replace B2 := B2.ahead ha_w37
          replace B5 := B5.ahead ha_w37
          replace B6 := B6.ahead ha_w37
          replace A := A.trans ha_w37
          replace X := X.trans (Ext.of_ahead ha_w37)
          replace X : Ext w37 w37 := Ext.refl _
          refine ⟨ha_w37, ?_⟩
          exact ⟨A, h⟩
        · skip
          clear h
          have h := h_
          clear h_
          exact ⟨A, h⟩

end Go.Proofs.YthhbjhdnaopcnaaDoor
namespace Go.Proofs.YthhbjhdnaopcnaaDoor
open Go Go.RowKit Eng L2
set_option linter.unusedVariables false
set_option maxHeartbeats 2000000
set_option maxRecDepth 100000

/-- surd/dyadic.two: function 86, its local variables as values. -/
theorem dyadic_two_v2 (a0_a_0 : Bool) (a0_a_1 : Slc) (a0_a_2 : Int) (a1_b_0 : Bool) (a1_b_1 : Slc) (a1_b_2 : Int) (w : World) (R : Ending → World → Prop)
    
    (h : ∀ w1, Ext w w1 → Ahead w w1 →
    (Calls Tryd.prog 62 #[Value.agg #[Value.bool a0_a_0, a0_a_1.v, Value.int .i64 a0_a_2]] w1 fun e1 w2 =>
     ∃ b1 : Bool, ∃ s1 : Slc, ∃ x1 : Int, ∃ x2 : Int, e1 = .returned (Value.tuple #[Value.agg #[Value.bool b1, s1.v, Value.int .i64 x1], Value.int .i64 x2]) ∧ Ahead w1 w2 ∧
     (br (x2 != 0)
      (∀ w3, Ext w2 w3 → Ahead w w3 →
       (R (.returned (Value.tuple #[Value.agg #[Value.bool b1, s1.v, Value.int .i64 x1], Value.agg #[Value.bool b1, s1.v, Value.int .i64 x1], Value.int .i64 x2])) w3))
      (∀ w4, Ext w2 w4 → Ahead w w4 →
       (Calls Tryd.prog 62 #[Value.agg #[Value.bool a1_b_0, a1_b_1.v, Value.int .i64 a1_b_2]] w4 fun e2 w5 =>
        ∃ b2 : Bool, ∃ s2 : Slc, ∃ x3 : Int, ∃ x4 : Int, e2 = .returned (Value.tuple #[Value.agg #[Value.bool b2, s2.v, Value.int .i64 x3], Value.int .i64 x4]) ∧ Ahead w4 w5 ∧
        (∀ w6, Ext w5 w6 → Ahead w w6 →
         (R (.returned (Value.tuple #[Value.agg #[Value.bool b1, s1.v, Value.int .i64 x1], Value.agg #[Value.bool b2, s2.v, Value.int .i64 x3], Value.int .i64 x4])) w6)))))))
     :
    Calls Tryd.prog 86 #[Value.agg #[Value.bool a0_a_0, a0_a_1.v, Value.int .i64 a0_a_2], Value.agg #[Value.bool a1_b_0, a1_b_1.v, Value.int .i64 a1_b_2]] w (fun e_ w_ => Ahead w w_ ∧ R e_ w_) := by
  refine dyadic_two_vc a0_a_0 a0_a_1 a0_a_2 a1_b_0 a1_b_1 a1_b_2 w _  ?_
  · have A : Ahead w w := Ahead.refl w
    have X : Ext w w := Ext.refl w
    refine newC_t fun bk1 u1 hb1 ha_u1 hs B1 => ?_
    have g1 : w.heap.size ≤ bk1 := by have := A.size; omega
    replace A := A.trans ha_u1
    replace X := X.trans (Ext.of_ahead ha_u1)
    clear hs hb1
    refine newC_t fun bk2 u2 hb2 ha_u2 hs B2 => ?_
    have g2 : w.heap.size ≤ bk2 := by have := A.size; omega
    have l1_2 : bk1 < bk2 := by have := B1.lt; omega
    replace B1 := B1.ahead ha_u2
    replace A := A.trans ha_u2
    replace X := X.trans (Ext.of_ahead ha_u2)
    clear hs hb2
    refine newC_t fun bk3 u3 hb3 ha_u3 hs B3 => ?_
    have g3 : w.heap.size ≤ bk3 := by have := A.size; omega
    have l1_3 : bk1 < bk3 := by have := B1.lt; omega
    have l2_3 : bk2 < bk3 := by have := B2.lt; omega
    replace B1 := B1.ahead ha_u3
    replace B2 := B2.ahead ha_u3
    replace A := A.trans ha_u3
    replace X := X.trans (Ext.of_ahead ha_u3)
    clear hs hb3
    refine newC_t fun bk4 u4 hb4 ha_u4 hs B4 => ?_
    have g4 : w.heap.size ≤ bk4 := by have := A.size; omega
    have l1_4 : bk1 < bk4 := by have := B1.lt; omega
    have l2_4 : bk2 < bk4 := by have := B2.lt; omega
    have l3_4 : bk3 < bk4 := by have := B3.lt; omega
    replace B1 := B1.ahead ha_u4
    replace B2 := B2.ahead ha_u4
    replace B3 := B3.ahead ha_u4
    replace A := A.trans ha_u4
    replace X := X.trans (Ext.of_ahead ha_u4)
    clear hs hb4
    refine ldB_t 0 B1 rfl ?_
    refine ldS_t 1 B1 rfl ?_
    refine ldI_t 2 B1 rfl ?_
    replace h := h _ X A
    refine Calls.mono h ?_
    clear h
    rintro e1 w2 ⟨b1, s1, x1, x2, he_, ha_w2, h⟩
    refine ⟨b1, s1, x1, x2, he_, ?_⟩
    clear he_
    replace B1 := B1.ahead ha_w2
    replace B2 := B2.ahead ha_w2
    replace B3 := B3.ahead ha_w2
    replace B4 := B4.ahead ha_w2
    replace A := A.trans ha_w2
    replace X := X.trans (Ext.of_ahead ha_w2)
    replace X : Ext w2 w2 := Ext.refl _
    refine newC_t fun bk5 u5 hb5 ha_u5 hs B5 => ?_
    have g5 : w.heap.size ≤ bk5 := by have := A.size; omega
    have l1_5 : bk1 < bk5 := by have := B1.lt; omega
    have l2_5 : bk2 < bk5 := by have := B2.lt; omega
    have l3_5 : bk3 < bk5 := by have := B3.lt; omega
    have l4_5 : bk4 < bk5 := by have := B4.lt; omega
    replace B1 := B1.ahead ha_u5
    replace B2 := B2.ahead ha_u5
    replace B3 := B3.ahead ha_u5
    replace B4 := B4.ahead ha_u5
    replace A := A.trans ha_u5
    replace X := X.trans (Ext.of_ahead ha_u5)
    clear hs hb5
    refine stC_t 0 B5 rfl rfl rfl fun u6 k_u6 B5_ => ?_
    replace B5 : Blt u6 bk5 98 #[Value.bool b1, (⟨none, 0, 0⟩ : Slc).v, Value.int .i64 0] := B5_
    clear B5_
    refine stC_t 1 B5 rfl rfl rfl fun u7 k_u7 B5_ => ?_
    replace B5 : Blt u7 bk5 98 #[Value.bool b1, s1.v, Value.int .i64 0] := B5_
    clear B5_
    refine stC_t 2 B5 rfl rfl rfl fun u8 k_u8 B5_ => ?_
    replace B5 : Blt u8 bk5 98 #[Value.bool b1, s1.v, Value.int .i64 x1] := B5_
    clear B5_
    have kk_u6 := ((k_u6.trans k_u7).trans k_u8)
    replace B1 := kk_u6.blt B1 (by omega)
    replace B2 := kk_u6.blt B2 (by omega)
    replace B3 := kk_u6.blt B3 (by omega)
    replace B4 := kk_u6.blt B4 (by omega)
    replace A := kk_u6.ahead A g5
    replace X := X.trans kk_u6.ext
    clear k_u8 k_u7 k_u6
    refine br_map h (fun h_ => ?_) (fun h_ => ?_)
    · skip
      clear h
      have h := h_
      clear h_
      have hd_ := Sp.Ahead.drew u8
      replace B1 := B1.ahead hd_
      replace B2 := B2.ahead hd_
      replace B3 := B3.ahead hd_
      replace B4 := B4.ahead hd_
      replace B5 := B5.ahead hd_
      replace A := A.trans hd_
      replace X := X.trans (Ext.of_ahead hd_)
      clear hd_
      have z1 := B1.lt
      have z2 := B2.lt
      have z3 := B3.lt
      have z4 := B4.lt
      have z5 := B5.lt
      let V_ : Nat → Nat → Prop := fun (q_ k : Nat) => (k = bk3 ∨ k = bk4 ∨ u8.drew.heap.size ≤ k) ∧ 0 ≤ k
      refine ⟨V_, ?_⟩
      have Y_ : u8.drew.heap.size ≤ u8.drew.heap.size := Nat.le_refl _
      refine out_t (b := bk5) (i := 0) (by first | rfl | exact Sp.add_off) (fun hv_ => (by replace hv_ : _ ∧ _ := hv_; omega)) ?_
      refine ldB_t 0 B5 rfl ?_
      refine ldS_t 1 B5 rfl ?_
      refine ldI_t 2 B5 rfl ?_
      refine out_t (b := bk5) (i := 0) (by first | rfl | exact Sp.add_off) (fun hv_ => (by replace hv_ : _ ∧ _ := hv_; omega)) ?_
      refine ldB_t 0 B5 rfl ?_
      refine ldS_t 1 B5 rfl ?_
      refine ldI_t 2 B5 rfl ?_
      refine stC_t 0 B3 rfl rfl rfl fun u9 k_u9 B3_ => ?_
      replace B3 : Blt u9 bk3 98 #[Value.bool b1, (⟨none, 0, 0⟩ : Slc).v, Value.int .i64 0] := B3_
      clear B3_
      refine stC_t 1 B3 rfl rfl rfl fun u10 k_u10 B3_ => ?_
      replace B3 : Blt u10 bk3 98 #[Value.bool b1, s1.v, Value.int .i64 0] := B3_
      clear B3_
      refine stC_t 2 B3 rfl rfl rfl fun u11 k_u11 B3_ => ?_
      replace B3 : Blt u11 bk3 98 #[Value.bool b1, s1.v, Value.int .i64 x1] := B3_
      clear B3_
      have kk_u9 := ((k_u9.trans k_u10).trans k_u11)
      replace B1 := kk_u9.blt B1 (by omega)
      replace B2 := kk_u9.blt B2 (by omega)
      replace B4 := kk_u9.blt B4 (by omega)
      replace B5 := kk_u9.blt B5 (by omega)
      replace A := kk_u9.ahead A g3
      replace X := X.trans kk_u9.ext
      replace Y_ := Nat.le_trans Y_ (Nat.le_of_eq kk_u9.size.symm)
      clear k_u11 k_u10 k_u9
      refine ⟨(kk_u9.bar (V := V_ 1) (by show _ ∧ _; omega)), ?_⟩
      refine stC_t 0 B4 rfl rfl rfl fun u12 k_u12 B4_ => ?_
      replace B4 : Blt u12 bk4 98 #[Value.bool b1, (⟨none, 0, 0⟩ : Slc).v, Value.int .i64 0] := B4_
      clear B4_
      refine stC_t 1 B4 rfl rfl rfl fun u13 k_u13 B4_ => ?_
      replace B4 : Blt u13 bk4 98 #[Value.bool b1, s1.v, Value.int .i64 0] := B4_
      clear B4_
      refine stC_t 2 B4 rfl rfl rfl fun u14 k_u14 B4_ => ?_
      replace B4 : Blt u14 bk4 98 #[Value.bool b1, s1.v, Value.int .i64 x1] := B4_
      clear B4_
      have kk_u12 := ((k_u12.trans k_u13).trans k_u14)
      replace B1 := kk_u12.blt B1 (by omega)
      replace B2 := kk_u12.blt B2 (by omega)
      replace B3 := kk_u12.blt B3 (by omega)
      replace B5 := kk_u12.blt B5 (by omega)
      replace A := kk_u12.ahead A g4
      replace X := X.trans kk_u12.ext
      replace Y_ := Nat.le_trans Y_ (Nat.le_of_eq kk_u12.size.symm)
      clear k_u14 k_u13 k_u12
      refine ldB_t 0 B3 rfl ?_
      refine ldS_t 1 B3 rfl ?_
      refine ldI_t 2 B3 rfl ?_
      refine ldB_t 0 B4 rfl ?_
      refine ldS_t 1 B4 rfl ?_
      refine ldI_t 2 B4 rfl ?_
      replace h := h _ X A
      exact ⟨A, h⟩
    · skip
      clear h
      have h := h_
      clear h_
      refine ldB_t 0 B2 rfl ?_
      refine ldS_t 1 B2 rfl ?_
      refine ldI_t 2 B2 rfl ?_
      replace h := h _ X A
      refine Calls.mono h ?_
      clear h
      rintro e2 w5 ⟨b2, s2, x3, x4, he_, ha_w5, h⟩
      refine ⟨b2, s2, x3, x4, he_, ?_⟩
      clear he_
      replace B1 := B1.ahead ha_w5
      replace B2 := B2.ahead ha_w5
      replace B3 := B3.ahead ha_w5
      replace B4 := B4.ahead ha_w5
      replace B5 := B5.ahead ha_w5
      replace A := A.trans ha_w5
      replace X := X.trans (Ext.of_ahead ha_w5)
      replace X : Ext w5 w5 := Ext.refl _
      refine newC_t fun bk6 u15 hb6 ha_u15 hs B6 => ?_
      have g6 : w.heap.size ≤ bk6 := by have := A.size; omega
      have l1_6 : bk1 < bk6 := by have := B1.lt; omega
      have l2_6 : bk2 < bk6 := by have := B2.lt; omega
      have l3_6 : bk3 < bk6 := by have := B3.lt; omega
      have l4_6 : bk4 < bk6 := by have := B4.lt; omega
      have l5_6 : bk5 < bk6 := by have := B5.lt; omega
      replace B1 := B1.ahead ha_u15
      replace B2 := B2.ahead ha_u15
      replace B3 := B3.ahead ha_u15
      replace B4 := B4.ahead ha_u15
      replace B5 := B5.ahead ha_u15
      replace A := A.trans ha_u15
      replace X := X.trans (Ext.of_ahead ha_u15)
      clear hs hb6
      refine stC_t 0 B6 rfl rfl rfl fun u16 k_u16 B6_ => ?_
      replace B6 : Blt u16 bk6 98 #[Value.bool b2, (⟨none, 0, 0⟩ : Slc).v, Value.int .i64 0] := B6_
      clear B6_
      refine stC_t 1 B6 rfl rfl rfl fun u17 k_u17 B6_ => ?_
      replace B6 : Blt u17 bk6 98 #[Value.bool b2, s2.v, Value.int .i64 0] := B6_
      clear B6_
      refine stC_t 2 B6 rfl rfl rfl fun u18 k_u18 B6_ => ?_
      replace B6 : Blt u18 bk6 98 #[Value.bool b2, s2.v, Value.int .i64 x3] := B6_
      clear B6_
      have kk_u16 := ((k_u16.trans k_u17).trans k_u18)
      replace B1 := kk_u16.blt B1 (by omega)
      replace B2 := kk_u16.blt B2 (by omega)
      replace B3 := kk_u16.blt B3 (by omega)
      replace B4 := kk_u16.blt B4 (by omega)
      replace B5 := kk_u16.blt B5 (by omega)
      replace A := kk_u16.ahead A g6
      replace X := X.trans kk_u16.ext
      clear k_u18 k_u17 k_u16
      have hd_ := Sp.Ahead.drew u18
      replace B1 := B1.ahead hd_
      replace B2 := B2.ahead hd_
      replace B3 := B3.ahead hd_
      replace B4 := B4.ahead hd_
      replace B5 := B5.ahead hd_
      replace B6 := B6.ahead hd_
      replace A := A.trans hd_
      replace X := X.trans (Ext.of_ahead hd_)
      clear hd_
      have z1 := B1.lt
      have z2 := B2.lt
      have z3 := B3.lt
      have z4 := B4.lt
      have z5 := B5.lt
      have z6 := B6.lt
      let V_ : Nat → Nat → Prop := fun (q_ k : Nat) => (k = bk3 ∨ k = bk4 ∨ u18.drew.heap.size ≤ k) ∧ 0 ≤ k
      refine ⟨V_, ?_⟩
      have Y_ : u18.drew.heap.size ≤ u18.drew.heap.size := Nat.le_refl _
      refine out_t (b := bk5) (i := 0) (by first | rfl | exact Sp.add_off) (fun hv_ => (by replace hv_ : _ ∧ _ := hv_; omega)) ?_
      refine ldB_t 0 B5 rfl ?_
      refine ldS_t 1 B5 rfl ?_
      refine ldI_t 2 B5 rfl ?_
      refine out_t (b := bk6) (i := 0) (by first | rfl | exact Sp.add_off) (fun hv_ => (by replace hv_ : _ ∧ _ := hv_; omega)) ?_
      refine ldB_t 0 B6 rfl ?_
      refine ldS_t 1 B6 rfl ?_
      refine ldI_t 2 B6 rfl ?_
      refine stC_t 0 B3 rfl rfl rfl fun u19 k_u19 B3_ => ?_
      replace B3 : Blt u19 bk3 98 #[Value.bool b1, (⟨none, 0, 0⟩ : Slc).v, Value.int .i64 0] := B3_
      clear B3_
      refine stC_t 1 B3 rfl rfl rfl fun u20 k_u20 B3_ => ?_
      replace B3 : Blt u20 bk3 98 #[Value.bool b1, s1.v, Value.int .i64 0] := B3_
      clear B3_
      refine stC_t 2 B3 rfl rfl rfl fun u21 k_u21 B3_ => ?_
      replace B3 : Blt u21 bk3 98 #[Value.bool b1, s1.v, Value.int .i64 x1] := B3_
      clear B3_
      have kk_u19 := ((k_u19.trans k_u20).trans k_u21)
      replace B1 := kk_u19.blt B1 (by omega)
      replace B2 := kk_u19.blt B2 (by omega)
      replace B4 := kk_u19.blt B4 (by omega)
      replace B5 := kk_u19.blt B5 (by omega)
      replace B6 := kk_u19.blt B6 (by omega)
      replace A := kk_u19.ahead A g3
      replace X := X.trans kk_u19.ext
      replace Y_ := Nat.le_trans Y_ (Nat.le_of_eq kk_u19.size.symm)
      clear k_u21 k_u20 k_u19
      refine ⟨(kk_u19.bar (V := V_ 1) (by show _ ∧ _; omega)), ?_⟩
      refine stC_t 0 B4 rfl rfl rfl fun u22 k_u22 B4_ => ?_
      replace B4 : Blt u22 bk4 98 #[Value.bool b2, (⟨none, 0, 0⟩ : Slc).v, Value.int .i64 0] := B4_
      clear B4_
      refine stC_t 1 B4 rfl rfl rfl fun u23 k_u23 B4_ => ?_
      replace B4 : Blt u23 bk4 98 #[Value.bool b2, s2.v, Value.int .i64 0] := B4_
      clear B4_
      refine stC_t 2 B4 rfl rfl rfl fun u24 k_u24 B4_ => ?_
      replace B4 : Blt u24 bk4 98 #[Value.bool b2, s2.v, Value.int .i64 x3] := B4_
      clear B4_
      have kk_u22 := ((k_u22.trans k_u23).trans k_u24)
      replace B1 := kk_u22.blt B1 (by omega)
      replace B2 := kk_u22.blt B2 (by omega)
      replace B3 := kk_u22.blt B3 (by omega)
      replace B5 := kk_u22.blt B5 (by omega)
      replace B6 := kk_u22.blt B6 (by omega)
      replace A := kk_u22.ahead A g4
      replace X := X.trans kk_u22.ext
      replace Y_ := Nat.le_trans Y_ (Nat.le_of_eq kk_u22.size.symm)
      clear k_u24 k_u23 k_u22
      refine ldB_t 0 B3 rfl ?_
      refine ldS_t 1 B3 rfl ?_
      refine ldI_t 2 B3 rfl ?_
      refine ldB_t 0 B4 rfl ?_
      refine ldS_t 1 B4 rfl ?_
      refine ldI_t 2 B4 rfl ?_
      replace h := h _ X A
      exact ⟨A, h⟩

/-- surd/surdref06.Abs: function 97, its local variables as values. -/
theorem surdref06_Abs_v2 (a0_a_0 : Bool) (a0_a_1 : Slc) (w : World) (R : Ending → World → Prop)
    
    (h : ∀ w1, Ext w w1 → Ahead w w1 →
    (R (.returned (Value.agg #[Value.bool (false), a0_a_1.v])) w1))
     :
    Calls Tryd.prog 97 #[Value.agg #[Value.bool a0_a_0, a0_a_1.v]] w (fun e_ w_ => Ahead w w_ ∧ R e_ w_) := by
  refine surdref06_Abs_vc a0_a_0 a0_a_1 w _  ?_
  · have A : Ahead w w := Ahead.refl w
    have X : Ext w w := Ext.refl w
    refine newC_t fun bk1 u1 hb1 ha_u1 hs B1 => ?_
    have g1 : w.heap.size ≤ bk1 := by have := A.size; omega
    replace A := A.trans ha_u1
    replace X := X.trans (Ext.of_ahead ha_u1)
    clear hs hb1
    refine newC_t fun bk2 u2 hb2 ha_u2 hs B2 => ?_
    have g2 : w.heap.size ≤ bk2 := by have := A.size; omega
    have l1_2 : bk1 < bk2 := by have := B1.lt; omega
    replace B1 := B1.ahead ha_u2
    replace A := A.trans ha_u2
    replace X := X.trans (Ext.of_ahead ha_u2)
    clear hs hb2
    refine ldS_t 1 B1 rfl ?_
    refine stC_t 0 B2 rfl rfl rfl fun u3 k_u3 B2_ => ?_
    replace B2 : Blt u3 bk2 44 #[Value.bool false, (⟨none, 0, 0⟩ : Slc).v] := B2_
    clear B2_
    refine stC_t 1 B2 rfl rfl rfl fun u4 k_u4 B2_ => ?_
    replace B2 : Blt u4 bk2 44 #[Value.bool false, a0_a_1.v] := B2_
    clear B2_
    have kk_u3 := (k_u3.trans k_u4)
    replace B1 := kk_u3.blt B1 (by omega)
    replace A := kk_u3.ahead A g2
    replace X := X.trans kk_u3.ext
    clear k_u4 k_u3
    refine ldB_t 0 B2 rfl ?_
    refine ldS_t 1 B2 rfl ?_
    replace h := h _ X A
    exact ⟨A, h⟩

end Go.Proofs.YthhbjhdnaopcnaaDoor
namespace Go.Proofs.YthhbjhdnaopcnaaDoor
open Go Go.RowKit Eng Sp Dg L2
set_option linter.unusedVariables false
set_option linter.unusedSimpArgs false
set_option maxRecDepth 100000
namespace Dy
open _root_.Go.Proofs.YthhbjhdnaopcnaaDoor.Nat (OwnNil Num Num.bl OwnNil.mono OwnNil.ext OwnNil.rd OwnNil.ahead OwnNil.nil digs_len_bl num_of Yes)
open _root_.Go.Proofs.YthhbjhdnaopcnaaDoor.Ref (RN RN.nil RN.ext RN.ahead len_mono bl_len32 len32)
open Sb

theorem cmpZ_lt {a b : Int} : cmpZ a b < 0 ↔ a < b := by unfold cmpZ; split <;> (try split) <;> omega
theorem cmpZ_le {a b : Int} : cmpZ a b ≤ 0 ↔ a ≤ b := by unfold cmpZ; split <;> (try split) <;> omega
theorem cmpZ_eq {a b : Int} : cmpZ a b = 0 ↔ a = b := by unfold cmpZ; split <;> (try split) <;> omega

def twC (e e' : Int) : Int := if wi e then if wi e' then 0 else 80 else 80
theorem twC_zero {e e' : Int} (h : twC e e' = 0) : wi e ∧ wi e' := by
  unfold twC at h
  split at h
  · split at h
    · exact ⟨by assumption, by assumption⟩
    · omega
  · omega
theorem two_spec {w : World} {neg neg' : Bool} {s s' : Slc} {x x' : Nat} {e e' : Int} (hT : Tab w) (h : Num w s x) (h' : Num w s' x') :
    Calls pr dyadic_two_id #[.agg (c3 neg s e), .agg (c3 neg' s' e')] w fun en w' => Ahead w w' ∧ ∃ b1 s1 x1 b2 s2 x2, en = .returned (.tuple #[.agg (c3 b1 s1 x1), .agg (c3 b2 s2 x2), .int .i64 (twC e e')]) ∧
      (twC e e' = 0 → b1 = nD neg x ∧ x1 = eD x e ∧ b2 = nD neg' x' ∧ x2 = eD x' e' ∧ OwnNil w.heap.size w' s1 (digs B64 (od x)) ∧ OwnNil w.heap.size w' s2 (digs B64 (od x'))) := by
  refine dyadic_two_v2 neg s e neg' s' e' w _ fun w1 X1 a1 => Calls.mono (read_spec (hT.ahead a1) (h.ahead a1)) ?_
  rintro en w2 ⟨h2, s1, rfl, o1⟩
  have a2 := a1.trans h2
  refine ⟨_, _, _, _, rfl, h2, br_intro (fun hw => ?_) (fun hw => ?_)⟩
  · have hw' : ¬ wi e := fun h => by rw [if_pos h] at hw; simp at hw
    have hc : twC e e' = 80 := if_neg hw'
    intro w3 X3 a3
    rw [hc, if_neg hw', if_neg hw', if_neg hw']
    exact ⟨_, _, _, _, _, _, rfl, fun h => by omega⟩
  · have hw' : wi e := by
      by_cases h : wi e
      · exact h
      · rw [if_neg h] at hw; simp at hw
    rw [if_pos hw'] at o1
    rw [if_pos hw', if_pos hw']
    intro w4 X4 a4
    refine Calls.mono (read_spec (hT.ahead a4) (h'.ahead a4)) ?_
    rintro en w5 ⟨h5, s2, rfl, o2⟩
    refine ⟨_, _, _, _, rfl, h5, fun w6 X6 a6 => ?_⟩
    have hc : twC e e' = if wi e' then 0 else 80 := if_pos hw'
    rw [hc]
    refine ⟨_, _, _, _, _, _, rfl, fun h0 => ?_⟩
    have hw2 : wi e' := by
      by_cases h : wi e'
      · exact h
      · rw [if_neg h] at h0; omega
    rw [if_pos hw2] at o2
    rw [if_pos hw2, if_pos hw2]
    exact ⟨rfl, rfl, rfl, rfl, (((o1.ext X4).ahead h5).ext X6).mono a1.size, (o2.ext X6).mono a4.size⟩
theorem far_eD {w : World} {s : Slc} {x : Nat} {e : Int} (h : Num w s x) (he : wi e) : far (eD x e) := by
  have := eD_far h he
  unfold far; omega
theorem Compare_spec {w : World} {neg neg' : Bool} {s s' : Slc} {x x' : Nat} {e e' : Int} (hT : Tab w) (h : Num w s x) (h' : Num w s' x') (hl : (digs B64 x).length + 2 ≤ 2 ^ 44) (hl' : (digs B64 x').length + 2 ≤ 2 ^ 44) :
    Calls pr dyadic_Compare_id #[.agg (c3 neg s e), .agg (c3 neg' s' e')] w fun en w' => Ahead w w' ∧ en = .returned (.tuple #[.int .i64 (if twC e e' = 0 then dcmp (sg (nD neg x) (od x)) (eD x e) (sg (nD neg' x') (od x')) (eD x' e') else 0), .int .i64 (twC e e')]) := by
  refine dyadic_Compare_v2 neg s e neg' s' e' w _ fun w1 X1 a1 => Calls.mono (two_spec (hT.ahead a1) (h.ahead a1) (h'.ahead a1)) ?_
  rintro en w2 ⟨h2, b1, s1, x1, b2, s2, x2, rfl, hh⟩
  refine ⟨_, _, _, _, _, _, _, rfl, h2, br_intro (fun hc => ?_) (fun hc => ?_)⟩
  · have hc' : twC e e' ≠ 0 := by simpa using hc
    rw [if_neg hc']
    exact fun w3 X3 a3 => rfl
  · have hc' : twC e e' = 0 := by simpa using hc
    obtain ⟨rfl, rfl, rfl, rfl, o1, o2⟩ := hh hc'
    obtain ⟨hw, hw'⟩ := twC_zero hc'
    rw [if_pos hc', hc']
    intro w4 X4 a4
    have l1 := len_mono two64 (od_le x)
    have l2 := len_mono two64 (od_le x')
    refine Calls.mono (compare_spec (o1.ext X4).rd (o2.ext X4).rd (by omega) (by omega) (far_eD h hw) (far_eD h' hw')) ?_
    rintro en w5 ⟨h5, rfl⟩
    exact ⟨_, rfl, h5, rfl⟩

/-- What a rounding that was taken leaves. -/
theorem taken {base : Nat} {w : World} {s : Slc} {X : Nat} (o : OwnNil base w s (digs B64 (od X))) (h : bl (od X) ≤ 67108864) : Num w s (od X) ∧ (digs B64 (od X)).length ≤ 2 ^ 20 := by
  have := digs_len_bl (N := od X) (m := 2 ^ 20) (by omega)
  exact ⟨⟨_, o.rd, by omega, ok_digs two64 _, val_digs two64 _⟩, this⟩

end Dy
end Go.Proofs.YthhbjhdnaopcnaaDoor
namespace Go.Proofs.YthhbjhdnaopcnaaDoor
open Go Go.RowKit Eng Sp Dg L2
set_option linter.unusedVariables false
set_option linter.unusedSimpArgs false
set_option maxRecDepth 100000
namespace Dy
open _root_.Go.Proofs.YthhbjhdnaopcnaaDoor.Nat (OwnNil Num Num.bl OwnNil.mono OwnNil.ext OwnNil.rd OwnNil.ahead OwnNil.nil digs_len_bl num_of Yes)
open _root_.Go.Proofs.YthhbjhdnaopcnaaDoor.Ref (RN RN.nil RN.ext RN.ahead Len_spec len_mono bl_len32 len32)
open Sb

/-- A dyadic in lowest terms, as a whole number and an exponent. -/
structure NZ (z e : Int) : Prop where
  o : od z.natAbs = z.natAbs
  z : z = 0 → e = 0
theorem NF.nz {neg : Bool} {n : Nat} {e : Int} (h : NF neg n e) : NZ (sg neg n) e :=
  ⟨by rw [sg_abs]; exact h.o, fun h0 => h.z (by have := congrArg Int.natAbs h0; rw [sg_abs] at this; simpa using this)⟩
theorem NF.zb {neg : Bool} {n : Nat} {e : Int} (h : NF neg n e) : Dy.zb (sg neg n) = neg := by rw [zb_sg, h.s]
theorem NZ.neg {z e : Int} (h : NZ z e) : NZ (-z) e := ⟨by rw [Int.natAbs_neg]; exact h.o, fun h0 => h.z (by omega)⟩
theorem dv_neg (z e b : Int) : dv (-z) e b = -dv z e b := Int.neg_mul _ _
theorem dv_abs (z e b : Int) : dv (z.natAbs : Int) e b = ((dv z e b).natAbs : Int) := by
  unfold dv; rw [Int.natAbs_mul, Int.natAbs_natCast]; push_cast; rfl

theorem dNeg_spec {w : World} {s : Slc} {z e : Int} (r : RN w s z.natAbs) : Calls pr surdref08_Neg_id #[.agg (c3 (zb z) s e)] w fun en w' => Ahead w w' ∧ ∃ s', en = .returned (.agg (c3 (zb (-z)) s' e)) ∧ RN w' s' (-z).natAbs := by
  refine surdref08_Neg_v2 (zb z) s e w _ fun w1 X1 a1 => Calls.mono (zNeg_spec (r.ahead a1)) ?_
  rintro en w2 ⟨h2, s1, rfl, r1⟩
  exact ⟨_, _, rfl, h2, fun w3 X3 a3 => ⟨s1, rfl, r1.ext X3⟩⟩
theorem zb_abs (z : Int) : zb (z.natAbs : Int) = false := zb_nat _
theorem zAbs_spec {w : World} {s : Slc} {z : Int} : Calls pr surdref06_Abs_id #[.agg (c2 (zb z) s)] w fun en w' => Ahead w w' ∧ en = .returned (.agg (c2 false s)) :=
  surdref06_Abs_v2 (zb z) s w _ fun w1 X1 a1 => rfl
theorem dAbs_spec {w : World} {s : Slc} {z e : Int} (r : RN w s z.natAbs) : Calls pr surdref08_Abs_id #[.agg (c3 (zb z) s e)] w fun en w' => Ahead w w' ∧ ∃ s', en = .returned (.agg (c3 (zb (z.natAbs : Int)) s' e)) ∧ RN w' s' (z.natAbs : Int).natAbs := by
  refine surdref08_Abs_v2 (zb z) s e w _ fun w1 X1 a1 => Calls.mono zAbs_spec ?_
  rintro en w2 ⟨h2, rfl⟩
  exact ⟨_, _, rfl, h2, fun w3 X3 a3 => ⟨s, by rw [zb_abs], by rw [Int.natAbs_natCast]; exact r.ahead a3⟩⟩

theorem dScale_spec {w : World} {s : Slc} {z e k : Int} (r : RN w s z.natAbs) (hk : -9223372036854775808 ≤ e + k ∧ e + k ≤ 9223372036854775807) :
    Calls pr surdref08_Scale_id #[.agg (c3 (zb z) s e), .int .i64 k] w fun en w' => Ahead w w' ∧ en = .returned (.agg (c3 (zb z) s (if z = 0 then e else e + k))) := by
  refine surdref08_Scale_v2 (zb z) s e k w _ fun w1 X1 a1 => Calls.mono (zSign_zb (r.ahead a1)) ?_
  rintro en w2 ⟨h2, rfl⟩
  refine ⟨_, rfl, h2, br_intro (fun hz => ?_) (fun hz => ?_)⟩
  · have hz' : z = 0 := sgn_zb.1 (eq_of_beq hz)
    exact fun w3 X3 a3 => by rw [if_pos hz']
  · have hz' : ¬ z = 0 := fun h => by rw [sgn_zb.2 h] at hz; simp at hz
    exact fun w4 X4 a4 => by rw [if_neg hz', wrap_i64 hk.1 hk.2]
theorem dCmpZ {w : World} {s s' : Slc} {z z' e e' : Int} (r : RN w s z.natAbs) (r' : RN w s' z'.natAbs) (hl : (digs B32 z.natAbs).length + 2 ≤ 2 ^ 45) (hl' : (digs B32 z'.natAbs).length + 2 ≤ 2 ^ 45) (he : far e) (he' : far e') :
    Calls pr surdref08_Cmp_id #[.agg (c3 (zb z) s e), .agg (c3 (zb z') s' e')] w fun en w' => Ahead w w' ∧ en = .returned (.int .i64 (dcmp z e z' e')) := by
  have := dCmp_spec (e := e) (e' := e') r r' (zb_nD z) (zb_nD z') hl hl' he he'
  rw [sg_zb, sg_zb] at this
  exact this

def addOk (z e z' e' : Int) : Prop := z = 0 ∨ z' = 0 ∨ if e < e' then e' - e ≤ 67108864 + bl z.natAbs + 2 else e - e' ≤ 67108864 + bl z'.natAbs + 2
/-- A sum in lowest terms. -/
structure SumOf (Z E z e z' e' : Int) : Prop where
  nz : NZ Z E
  len : (digs B32 Z.natAbs).length + 3 ≤ 2 ^ 45
  lo : min (min e e') 0 ≤ E
  hi : E ≤ max (max e e') 0 + 2251799813685248
  val : ∀ b, b ≤ e → b ≤ e' → dv Z E b = dv z e b + dv z' e' b
theorem dl_shl {x k : Nat} : (digs B32 (x * 2 ^ k)).length ≤ (digs B32 x).length + k / 32 + 1 := by
  by_cases h : x = 0
  · rw [h, Nat.zero_mul, digs_zero]; simp
  · have h1 := bl_len32 (ok_digs two32 x)
    rw [val_digs two32] at h1
    have h2 := bl_shl (n := k) h
    exact digs_len_bl32 (by omega)
theorem dv_add (x y e b : Int) : dv (x + y) e b = dv x e b + dv y e b := Int.add_mul _ _ _
theorem hiLo {w0 w : World} {sh sl : Slc} {zh zl eh el : Int} (hw : Ahead w0 w) (rh : RN w sh zh.natAbs) (rl : RN w sl zl.natAbs) (hle : el ≤ eh) (heh : far eh) (hel : far el) (l1 : (digs B32 zh.natAbs).length + (eh - el).toNat / 32 + 6 ≤ 2 ^ 45) (l2 : (digs B32 zl.natAbs).length + 6 ≤ 2 ^ 45)
    {K : Bool → Slc → Int → World → Prop} (hk : ∀ Z E, NZ Z E → (digs B32 Z.natAbs).length + 3 ≤ 2 ^ 45 → min (min eh el) 0 ≤ E → E ≤ max (max eh el) 0 + 2251799813685248 → (∀ b, b ≤ el → dv Z E b = dv zh eh b + dv zl el b) → ∀ s w', RN w' s Z.natAbs → K (zb Z) s E w') :
    Calls pr surdref06_Shift_id #[.agg (c2 (zb zh) sh), .int .i64 (eh - el)] w fun e4 w10 => ∃ b1 : Bool, ∃ s1 : Slc, e4 = .returned (Value.agg #[Value.bool b1, s1.v]) ∧ Ahead w w10 ∧
      (Calls pr surdref06_Add_id #[Value.agg #[Value.bool b1, s1.v], .agg (c2 (zb zl) sl)] w10 fun e5 w11 => ∃ b2 : Bool, ∃ s2 : Slc, e5 = .returned (Value.agg #[Value.bool b2, s2.v]) ∧ Ahead w10 w11 ∧
        (Calls pr surdref08_Of_id #[Value.agg #[Value.bool b2, s2.v], Value.int .i64 el] w11 fun e6 w12 => ∃ b3 : Bool, ∃ s3 : Slc, ∃ x4 : Int, e6 = .returned (Value.agg #[Value.bool b3, s3.v, Value.int .i64 x4]) ∧ Ahead w11 w12 ∧
          (∀ w13, Ext w12 w13 → Ahead w0 w13 → K b3 s3 x4 w13))) := by
  unfold far at heh hel
  refine Calls.mono (zShift_spec rh (by omega) (by omega) (by omega)) ?_
  rintro en w2 ⟨h2, s1, rfl, r1⟩
  have ep : (2 : Int) ^ (eh - el).toNat = ((2 ^ (eh - el).toNat : Nat) : Int) := by push_cast; rfl
  rw [ep] at r1
  rw [ep]
  have ls : (digs B32 (zh * ((2 ^ (eh - el).toNat : Nat) : Int)).natAbs).length + 5 ≤ 2 ^ 45 := by
    rw [Int.natAbs_mul, Int.natAbs_natCast]
    have := dl_shl (x := zh.natAbs) (k := (eh - el).toNat)
    omega
  refine ⟨_, _, rfl, h2, Calls.mono (zAdd_spec r1 (rl.ahead h2) (by omega) (by omega)) ?_⟩
  rintro en w3 ⟨h3, s2, rfl, r2⟩
  have lS : (digs B32 (zh * ((2 ^ (eh - el).toNat : Nat) : Int) + zl).natAbs).length + 4 ≤ 2 ^ 45 := by
    have h1 := dl_le two32 (Int.natAbs_add_le (zh * ((2 ^ (eh - el).toNat : Nat) : Int)) zl)
    have h2 := dl_add (x := (zh * ((2 ^ (eh - el).toNat : Nat) : Int)).natAbs) (y := zl.natAbs) (k := 2 ^ 45 - 5) (by omega) (by omega)
    omega
  have hval : ∀ b, b ≤ el → dv (zh * ((2 ^ (eh - el).toNat : Nat) : Int) + zl) el b = dv zh eh b + dv zl el b := by
    intro b hb
    rw [dv_add]
    congr 1
    show zh * _ * _ = zh * _
    rw [Int.mul_assoc, ← Int.natCast_mul, ← Nat.pow_add]
    congr 3
    omega
  generalize zh * ((2 ^ (eh - el).toNat : Nat) : Int) + zl = S at *
  have hof := dOf_spec (neg := zb S) (e := el) r2 (by omega) (by omega)
  rw [zb_nD] at hof
  refine ⟨_, _, rfl, h3, Calls.mono hof ?_⟩
  rintro en w4 ⟨h4, s3, rfl, r3⟩
  refine ⟨_, _, _, rfl, h4, fun w5 X5 a5 => ?_⟩
  have hnf := NF.of (zb S) S.natAbs el
  have hzb := hnf.zb
  have hbl := bl_len32 (ok_digs two32 S.natAbs)
  rw [val_digs two32] at hbl
  have htz := tz_le S.natAbs
  have := hk _ _ hnf.nz (by rw [sg_abs]; have := dl_le two32 (od_le S.natAbs); omega) (by unfold eD; split <;> omega) (by unfold eD; split <;> omega) (fun b hb => by rw [dv_od hb, sg_zb]; exact hval b hb) s3 w5 (by rw [sg_abs]; exact r3.ext X5)
  rw [hzb, zb_nD] at this
  exact this

/-- A sum, or that it is too long for sure. -/
def AddRet (z e z' e' : Int) (en : Ending) (w' : World) : Prop := ∃ Z E s2 fl, en = .returned (.tuple #[.agg (c3 (zb Z) s2 E), .bool fl]) ∧ RN w' s2 Z.natAbs ∧ (fl = true ↔ addOk z e z' e') ∧ (fl = true → SumOf Z E z e z' e')
theorem dAdd_spec {w : World} {s s' : Slc} {z z' e e' : Int} (r : RN w s z.natAbs) (r' : RN w s' z'.natAbs) (h : NZ z e) (h' : NZ z' e') (he : far e) (he' : far e')
    (l : (digs B32 z.natAbs).length + 6 ≤ 2 ^ 45) (l' : (digs B32 z'.natAbs).length + 6 ≤ 2 ^ 45)
    (room : addOk z e z' e' → (digs B32 z.natAbs).length + (e - e').toNat / 32 + 6 ≤ 2 ^ 45 ∧ (digs B32 z'.natAbs).length + (e' - e).toNat / 32 + 6 ≤ 2 ^ 45) :
    Calls pr surdref08_Add_id #[.agg (c3 (zb z) s e), .agg (c3 (zb z') s' e')] w fun en w' => Ahead w w' ∧ AddRet z e z' e' en w' := by
  have hb1 := bl_len32 (ok_digs two32 z.natAbs)
  rw [val_digs two32] at hb1
  have hb2 := bl_len32 (ok_digs two32 z'.natAbs)
  rw [val_digs two32] at hb2
  have he0 := he
  have he0' := he'
  unfold far at he he'
  refine surdref08_Add_v2 (zb z) s e (zb z') s' e' w _ fun w1 X1 a1 => Calls.mono (zSign_zb (r.ahead a1)) ?_
  rintro en w2 ⟨h2, rfl⟩
  have a2 := a1.trans h2
  refine ⟨_, rfl, h2, br_intro (fun hz => ?_) (fun hz => ?_)⟩
  · have hz' : z = 0 := sgn_zb.1 (eq_of_beq hz)
    have hee := h.z hz'
    subst hz' hee
    exact fun w3 X3 a3 => ⟨z', e', s', true, rfl, r'.ahead a3, ⟨fun _ => .inl rfl, fun _ => rfl⟩, fun _ => ⟨h', by omega, by omega, by omega, fun b h1 h2 => by rw [dv_zero, Int.zero_add]⟩⟩
  have hz' : z ≠ 0 := fun h => by rw [sgn_zb.2 h] at hz; simp at hz
  refine Calls.mono (zSign_zb (r'.ahead a2)) ?_
  rintro en w4 ⟨h4, rfl⟩
  have a4 := a2.trans h4
  refine ⟨_, rfl, h4, br_intro (fun hy => ?_) (fun hy => ?_)⟩
  · have hy' : z' = 0 := sgn_zb.1 (eq_of_beq hy)
    have hee := h'.z hy'
    subst hy' hee
    exact fun w3 X3 a3 => ⟨z, e, s, true, rfl, r.ahead a3, ⟨fun _ => .inr (.inl rfl), fun _ => rfl⟩, fun _ => ⟨h, by omega, by omega, by omega, fun b h1 h2 => by rw [dv_zero, Int.add_zero]⟩⟩
  have hy' : z' ≠ 0 := fun h => by rw [sgn_zb.2 h] at hy; simp at hy
  refine br_intro (fun hlt => fun w6 X6 a6 => ?_) (fun hlt => ?_)
  · have hlt' : e < e' := of_decide_eq_true hlt
    have hok : addOk z e z' e' ↔ e' - e ≤ 67108864 + bl z.natAbs + 2 := by
      unfold addOk
      rw [if_pos hlt']
      constructor
      · rintro (h | h | h)
        · exact absurd h hz'
        · exact absurd h hy'
        · exact h
      · exact fun h => .inr (.inr h)
    refine Calls.mono (Len_spec (r.ahead a6) (by omega)) ?_
    rintro en w7 ⟨rfl, rfl⟩
    refine ⟨_, rfl, Ahead.refl _, ?_⟩
    rw [wrap_i64 (x := 67108864 + _) (by omega) (by omega), wrap_i64 (x := _ + 2) (by omega) (by omega), wrap_i64 (x := e' - e) (by omega) (by omega)]
    refine br_intro (fun hf => fun w8 X8 a8 => ?_) (fun hf => fun w9 X9 a9 => ?_)
    · have hf' := of_decide_eq_true hf
      exact ⟨0, 0, _, false, rfl, RN.nil, ⟨fun h => (by cases h), fun h => (by have := hok.1 h; omega)⟩, fun h => by cases h⟩
    · have hf' := of_decide_eq_false hf
      have hk : addOk z e z' e' := hok.2 (by omega)
      refine hiLo a9 (r'.ahead a9) (r.ahead a9) (by omega) he0' he0 (room hk).2 l fun Z E h1 h2 h3 h4 h5 s3 w13 r13 => ⟨Z, E, s3, true, rfl, r13, ⟨fun _ => hk, fun _ => rfl⟩, fun _ => ⟨h1, h2, by omega, by omega, fun b hb hb' => by rw [h5 b hb, Int.add_comm]⟩⟩
  · have hlt' : ¬ e < e' := of_decide_eq_false hlt
    have hok : addOk z e z' e' ↔ e - e' ≤ 67108864 + bl z'.natAbs + 2 := by
      unfold addOk
      rw [if_neg hlt']
      constructor
      · rintro (h | h | h)
        · exact absurd h hz'
        · exact absurd h hy'
        · exact h
      · exact fun h => .inr (.inr h)
    refine Calls.mono (Len_spec (r'.ahead a4) (by omega)) ?_
    rintro en w7 ⟨rfl, rfl⟩
    refine ⟨_, rfl, Ahead.refl _, ?_⟩
    rw [wrap_i64 (x := 67108864 + _) (by omega) (by omega), wrap_i64 (x := _ + 2) (by omega) (by omega), wrap_i64 (x := e - e') (by omega) (by omega)]
    refine br_intro (fun hf => fun w8 X8 a8 => ?_) (fun hf => fun w9 X9 a9 => ?_)
    · have hf' := of_decide_eq_true hf
      exact ⟨0, 0, _, false, rfl, RN.nil, ⟨fun h => (by cases h), fun h => (by have := hok.1 h; omega)⟩, fun h => by cases h⟩
    · have hf' := of_decide_eq_false hf
      have hk : addOk z e z' e' := hok.2 (by omega)
      refine hiLo a9 (r.ahead a9) (r'.ahead a9) (by omega) he0 he0' (room hk).1 l' fun Z E h1 h2 h3 h4 h5 s3 w13 r13 => ⟨Z, E, s3, true, rfl, r13, ⟨fun _ => hk, fun _ => rfl⟩, fun _ => ⟨h1, h2, by omega, by omega, fun b hb hb' => h5 b hb'⟩⟩
/-- What a law reads of an answer. -/
theorem dread_spec {w : World} {neg : Bool} {s : Slc} {n : Nat} {e : Int} (h : NF neg n e) (r : Rd .u64 w s (nn (digs B64 n))) (hl : (digs B64 n).length * 8 ≤ 140737488351232) (he : far e) :
    Calls pr surdlaw08_read_id #[.agg (c3 neg s e)] w fun en w' => Ahead w w' ∧ ∃ s', en = .returned (.agg (c3 (zb (sg neg n)) s' e)) ∧ RN w' s' (sg neg n).natAbs := by
  have h32 := len32 (ok_digs two64 n)
  rw [val_digs two64] at h32
  unfold far at he
  refine surdlaw08_read_v2 neg s e w _ fun w1 X1 a1 => Calls.mono (zOf_spec (r.ahead a1) hl (ok_digs two64 _)) ?_
  rw [val_digs two64]
  rintro en w2 ⟨h2, s1, rfl, r1⟩
  refine ⟨_, _, rfl, h2, Calls.mono (dOf_spec r1 (by omega) (by omega)) ?_⟩
  rw [h.s, h.o, h.eD]
  rintro en w3 ⟨h3, s2, rfl, r2⟩
  exact ⟨_, _, _, rfl, h3, fun w4 X4 a4 => ⟨s2, by rw [h.zb], by rw [sg_abs]; exact r2.ext X4⟩⟩

end Dy
end Go.Proofs.YthhbjhdnaopcnaaDoor
namespace Go.Proofs.YthhbjhdnaopcnaaDoor
open Go Go.RowKit Eng Sp Dg L2
set_option linter.unusedVariables false
set_option linter.unusedSimpArgs false
set_option maxRecDepth 100000
namespace Dy
open _root_.Go.Proofs.YthhbjhdnaopcnaaDoor.Nat (OwnNil Num Num.bl OwnNil.mono OwnNil.ext OwnNil.rd OwnNil.ahead OwnNil.nil digs_len_bl num_of Yes)
open _root_.Go.Proofs.YthhbjhdnaopcnaaDoor.Ref (RN RN.nil RN.ext RN.ahead Len_spec len_mono bl_len32 len32)
open Sb

theorem ctC_zero {neg : Bool} {x : Nat} {e bits m : Int} (h : ctC neg x e bits m = 0) : wi e ∧ tC (rX (nD neg x) (od x) (eD x e) (cpos (od x) (eD x e) bits) m) (rE (od x) (eD x e) (cpos (od x) (eD x e) bits)) = 0 := by
  unfold ctC at h
  split at h
  · split at h
    · omega
    · split at h
      · exact ⟨by assumption, h⟩
      · omega
  · omega
theorem bl_od (X : Nat) : bl X = bl (od X) + tz X := by
  by_cases h : X = 0
  · subst h; rw [od_zero, bl_zero, tz_zero]
  · have := bl_shl (n := tz X) (od_ne h)
    rw [Nat.mul_comm, od_mul] at this
    omega
/-- How long a cut number is. -/
theorem cut_len {neg : Bool} {n gap bits : Nat} {m : Int} (hb : bl n = gap + bits) (h0 : 0 < bits) : rq neg n gap m ≤ 2 ^ bits ∧ bl (od (rq neg n gap m)) ≤ bits ∧ rq neg n gap m ≠ 0 := by
  have h1 : n / 2 ^ gap < 2 ^ bits := by
    rw [Nat.div_lt_iff_lt_mul (two_pos _), ← Nat.pow_add, Nat.add_comm, ← hb]
    exact lt_bl n
  have h2 : rq neg n gap m ≤ n / 2 ^ gap + 1 := by unfold rq; split <;> omega
  have hn : n ≠ 0 := fun h => by rw [h, bl_zero] at hb; omega
  have h4 : n / 2 ^ gap ≠ 0 := by
    have h5 : 2 ^ gap ≤ n := Nat.le_trans (Nat.pow_le_pow_right (by omega) (by omega)) (bl_bounds hn).1
    exact Nat.ne_of_gt (Nat.div_pos h5 (two_pos gap))
  have h3 : n / 2 ^ gap ≤ rq neg n gap m := Nat.le_add_right _ _
  generalize n / 2 ^ gap = q at *
  refine ⟨by omega, ?_, by omega⟩
  generalize rq neg n gap m = X at *
  rcases Nat.lt_or_ge X (2 ^ bits) with h | h
  · exact Nat.le_trans (bl_mono (od_le X)) (bl_le h)
  · have : X = 1 * 2 ^ bits := by omega
    rw [this, od_shl]
    have : bl (od 1) ≤ 1 := Nat.le_trans (bl_mono (od_le 1)) (bl_le (by omega))
    omega

/-- How far off a cut number is. -/
theorem off_lt {v : Int} {S : Nat} {m : Int} (hS : 0 < S) (hm : okM m) : (rdm m v S * (S : Int) - v).natAbs ≤ S ∧ (m ≠ 2 → (rdm m v S * (S : Int) - v).natAbs < S) ∧ (m = 2 → 2 * (rdm m v S * (S : Int) - v).natAbs ≤ S) := by
  unfold okM at hm
  have : m = 0 ∨ m = 1 ∨ m = 2 := by omega
  rcases this with rfl | rfl | rfl
  · have := rdm_down (v := v) hS
    refine ⟨by omega, fun _ => by omega, fun h => by omega⟩
  · have := rdm_up (v := v) hS
    refine ⟨by omega, fun _ => by omega, fun h => by omega⟩
  · have := rdm_near (v := v) hS
    refine ⟨by omega, fun h => absurd rfl h, fun h => by omega⟩

set_option maxHeartbeats 4000000 in
theorem DyadicShort_ok {w : World} (hT : Tab w) {n0 : Bool} {s0 : Slc} {e0 : Int} {l0 : List Nat} (r0 : Rd .u64 w s0 (nn l0)) (o0 : ok B64 l0) (z0 : l0.length * 8 ≤ 140737488351232) (he0 : -9223372036854775808 ≤ e0 ∧ e0 ≤ 9223372036854775807)
    {x1 x2 : Int} (hx1 : -9223372036854775808 ≤ x1 ∧ x1 ≤ 9223372036854775807) (hx2 : -9223372036854775808 ≤ x2 ∧ x2 ≤ 9223372036854775807) :
    Calls pr surdlaw08_DyadicShort_id #[.agg (c3 n0 s0 e0), .int .i64 x1, .int .i64 x2] w (Yes w) := by
  have hl0 := Nat.len_le o0
  have h32 := len32 o0
  have N0 : Num w s0 (val B64 l0) := num_of r0 o0 z0
  have aw : ∀ w3 : World, Ahead w w3 → Calls pr surdlaw08_awake_id #[] w3 fun e1 w4 => ∃ b1 : Bool, e1 = .returned (Value.bool b1) ∧ Ahead w3 w4 ∧ (Ending.returned (Value.bool b1) = .returned (.bool true)) := by
    intro w3 a3
    refine Calls.mono (awake_spec (hT.ahead a3)) ?_
    rintro e w4 ⟨rfl, h4⟩
    exact ⟨_, rfl, h4, rfl⟩
  refine Calls.mono (surdlaw08_DyadicShort_v2 n0 s0 e0 x1 x2 w (fun e _ => e = .returned (.bool true))
    (fun t1 t2 fl b7 s7 x7 b12 s12 x12 w' => x1 = t1 ∧ x2 = t2 ∧ fl = true ∧ okM x2 ∧ 1 ≤ x1 ∧ x1 ≤ 1048576 ∧ ∃ z e Z E : Int, zb z = b7 ∧ e = x7 ∧ zb Z = b12 ∧ E = x12 ∧ RN w' s7 z.natAbs ∧ RN w' s12 Z.natAbs ∧ NZ Z E ∧ (digs B32 Z.natAbs).length + 3 ≤ 2 ^ 45 ∧ (digs B32 z.natAbs).length + 3 ≤ 2 ^ 45 ∧ z ≠ 0 ∧
      -1152921504606846976 ≤ e ∧ e ≤ 1152921504606846976 ∧ -2305843009213693952 ≤ E ∧ E ≤ 2305843009213693952 ∧
      ∃ b : Int, b ≤ e - 1048576 ∧ b ≤ E ∧ (x2 = 2 → ((dv Z E b).natAbs : Int) ≤ dv z.natAbs (e + (1 - x1) + -1) b) ∧ (x2 ≠ 2 → ((dv Z E b).natAbs : Int) < dv z.natAbs (e + (1 - x1)) b)) ?_ ?_) fun e w' ⟨h1, h2⟩ => ⟨h2, h1⟩
  · intro w1 X1 a1
    refine Calls.mono (of_spec (r0.ahead a1) z0 o0) ?_
    generalize val B64 l0 = X at *
    rintro en w2 ⟨h2, sv, rfl, rv⟩
    have a2 := a1.trans h2
    refine ⟨_, _, _, _, rfl, h2, br_intro (fun hw => fun w3 X3 a3 => aw w3 a3) (fun hw => br_intro (fun hb => fun w3 X3 a3 => aw w3 a3) (fun hb => br_intro (fun hb2 => fun w3 X3 a3 => aw w3 a3) (fun hb2 => fun w9 X9 a9 => ?_)))⟩
    have hw' : wi e0 := by simpa using hw
    have hb' := of_decide_eq_false hb
    have hb2' := of_decide_eq_false hb2
    rw [if_pos hw'] at rv
    rw [if_pos hw', if_pos hw']
    refine Calls.mono mode_spec ?_
    rintro en w10 ⟨rfl, rfl⟩
    refine ⟨_, rfl, Ahead.refl _, br_intro (fun hm => aw _ a9) (fun hm => ?_)⟩
    have hm' : okM x2 := by simpa using hm
    refine Calls.mono in_spec ?_
    rintro en w12 ⟨h12, rfl⟩
    have a12 := a9.trans h12
    refine ⟨_, _, _, rfl, h12, Calls.mono (Cut_spec (hT.ahead a12) (N0.ahead a12) (by omega)) ?_⟩
    rintro en w13 ⟨h13, sp, rfl, op⟩
    refine ⟨_, _, _, _, rfl, h13, fun w14 X14 a14 => Calls.mono num_spec ?_⟩
    rintro en w15 ⟨rfl, rfl⟩
    refine ⟨_, rfl, Ahead.refl _, br_intro (fun hc => aw _ a14) (fun hc => ?_)⟩
    have hc' : ctC n0 X e0 x1 x2 = 0 := by simpa using hc
    obtain ⟨_, tc⟩ := ctC_zero hc'
    obtain ⟨b1, f1⟩ := tC_zero tc
    rw [if_pos hc'] at op
    rw [if_pos hc', if_pos hc']
    have hef := eD_far N0 hw'
    have nfv := NF.of n0 X e0
    have hlv := len_mono two32 (od_le X)
    have hblv := Num.bl N0
    have hblo := bl_mono (od_le X)
    generalize hN : od X = n at *
    generalize hG : nD n0 X = neg at *
    generalize eD X e0 = e at *
    have rv15 : RN w15 sv n := ((rv.ext X9).ahead (h12.trans h13)).ext X14
    -- what is cut
    generalize hXX : rX neg n e (cpos n e x1) x2 = XX at *
    generalize hEE : rE n e (cpos n e x1) = EE at *
    have nfp := NF.of neg XX EE
    have tk := taken (op.ext X14) b1
    have ff1 : far (eD XX EE) := by unfold wi at f1; unfold far; omega
    refine Calls.mono (dread_spec nfp (op.ext X14).rd (by omega) ff1) ?_
    rintro en w17 ⟨h17, sc, rfl, rc⟩
    have a17 := a14.trans h17
    refine ⟨_, _, _, rfl, h17, fun w18 X18 a18 => ?_⟩
    have rc18 := rc.ext X18
    rw [sg_abs] at rc18
    have lc : (digs B32 (od XX)).length ≤ 2 ^ 21 := digs_len_bl32 (by omega)
    refine Calls.mono (Len_spec rc18 (by omega)) ?_
    rintro en w19 ⟨rfl, rfl⟩
    have rv19 : RN w19 sv n := (rv15.ahead h17).ext X18
    have hshort : (bl n : Int) ≤ x1 → XX = n ∧ EE = e := by
      intro h
      have : cpos n e x1 = e := if_pos h
      rw [this, rX_id] at hXX
      rw [this, rE_id] at hEE
      exact ⟨hXX.symm, hEE.symm⟩
    have hlong : ¬ (bl n : Int) ≤ x1 → ∃ gap : Nat, (gap : Int) = bl n - x1 ∧ 0 < gap ∧ XX = rq neg n gap x2 ∧ EE = e + gap := by
      intro h
      have hp : cpos n e x1 = e + bl n - x1 := if_neg h
      have hn : n ≠ 0 := fun h0 => by rw [h0, bl_zero] at h; omega
      have hc : ¬ (n = 0 ∨ e + bl n - x1 ≤ e) := by
        rintro (h1 | h1)
        · exact hn h1
        · omega
      rw [hp, rX, if_neg hc] at hXX
      rw [hp, rE, if_neg hc] at hEE
      refine ⟨(bl n - x1).toNat, by omega, by omega, ?_, by omega⟩
      rw [← hXX]; congr 1; omega
    have hle : (bl (od XX) : Int) ≤ x1 := by
      by_cases h : (bl n : Int) ≤ x1
      · rw [(hshort h).1]
        have := bl_mono (od_le n)
        omega
      · obtain ⟨gap, hg, hg0, rfl, _⟩ := hlong h
        have := (cut_len (neg := neg) (n := n) (gap := gap) (bits := x1.toNat) (m := x2) (by omega) (by omega)).2.1
        omega
    refine ⟨_, rfl, Ahead.refl _, br_intro (fun h => ?_) (fun h => ?_)⟩
    · have := of_decide_eq_true h
      omega
    clear h
    refine Calls.mono (Len_spec rv19 (by omega)) ?_
    rintro en w20 ⟨rfl, rfl⟩
    have ffv : far e := by unfold far; omega
    have rvz : RN w20 sv (sg neg n).natAbs := by rw [sg_abs]; exact rv19
    have rcz : RN w20 sc (sg (nD neg XX) (od XX)).natAbs := by rw [sg_abs]; exact rc18
    have zbv := nfv.zb
    refine ⟨_, rfl, Ahead.refl _, br_intro (fun h => ?_) (fun h => ?_)⟩
    · have hs := of_decide_eq_true h
      obtain ⟨rfl, rfl⟩ := hshort hs
      have hcm := dCmpZ (e := eD XX EE) (e' := EE) rcz rvz (by rw [sg_abs]; omega) (by rw [sg_abs]; omega) ff1 ffv
      rw [zbv] at hcm
      refine Calls.mono hcm ?_
      rintro en w21 ⟨h21, rfl⟩
      refine ⟨_, rfl, h21, br_intro (fun _ => aw _ (a18.trans h21)) (fun hne => ?_)⟩
      exfalso
      have : dcmp (sg (nD neg XX) (od XX)) (eD XX EE) (sg neg XX) EE = 0 := by
        rw [nfv.s, nfv.o, nfv.eD, dcmp_dv (Int.le_refl _) (Int.le_refl _)]
        exact cmpZ_eq.2 rfl
      rw [this] at hne
      simp at hne
    · have hs := of_decide_eq_false h
      obtain ⟨gap, hg, hg0, hX, hE⟩ := hlong hs
      have cl := cut_len (neg := neg) (n := n) (gap := gap) (bits := x1.toNat) (m := x2) (by omega) (by omega)
      rw [← hX] at cl
      have hn : n ≠ 0 := fun h0 => by rw [h0, bl_zero] at hs; omega
      intro w23 X23 a23
      have hng := dNeg_spec (w := w23) (e := e) (rvz.ext X23)
      rw [zbv] at hng
      refine Calls.mono hng ?_
      rintro en w24 ⟨h24, sn, rfl, rn⟩
      refine ⟨_, _, _, rfl, h24, fun w25 X25 a25 => ?_⟩
      have rc25 := ((rcz.ext X23).ahead h24).ext X25
      have rv25 := ((rvz.ext X23).ahead h24).ext X25
      have hblX : bl XX ≤ x1.toNat + 1 := bl_le (by rw [Nat.pow_succ]; have := two_pos x1.toNat; omega)
      have hto := bl_od XX
      have heX : eD XX EE = e + gap + tz XX := by rw [eD, if_neg cl.2.2, hE]
      have hzv : sg neg n ≠ 0 := fun h => by have := congrArg Int.natAbs h; rw [sg_abs] at this; simp at this; exact hn this
      have hok : addOk (sg (nD neg XX) (od XX)) (eD XX EE) (-sg neg n) e := by
        refine .inr (.inr ?_)
        rw [if_neg (by omega), Int.natAbs_neg, sg_abs]
        omega
      have hbo := bl_len32 (ok_digs two32 n)
      rw [val_digs two32] at hbo
      have lod := digs_len_bl32 (N := od XX) (m := bl (od XX) / 32 + 1) (by omega)
      refine Calls.mono (dAdd_spec (e := eD XX EE) (e' := e) rc25 (rn.ext X25) nfp.nz nfv.nz.neg ff1 ffv (by rw [sg_abs]; omega) (by rw [Int.natAbs_neg, sg_abs]; omega) (fun _ => by rw [sg_abs, Int.natAbs_neg, sg_abs]; exact ⟨by omega, by omega⟩)) ?_
      rintro en w26 ⟨h26, Z, E, so, fl, rfl, rz, hfl, hsum⟩
      have hfl' : fl = true := hfl.2 hok
      obtain ⟨nzZ, lenZ, loZ, hiZ, valZ⟩ := hsum hfl'
      refine ⟨_, _, _, _, rfl, h26, fun w38 X38 a38 => ⟨rfl, rfl, hfl', hm', by omega, by omega, sg neg n, e, Z, E, zbv, rfl, rfl, rfl, (rv25.ahead h26).ext X38, rz.ext X38, nzZ, lenZ, by rw [sg_abs]; omega, hzv, by omega, by omega, by omega, by omega, ?_⟩⟩
      obtain ⟨b, hb⟩ : ∃ b : Int, b ≤ e - 1048576 ∧ b ≤ E ∧ b ≤ e ∧ b ≤ EE ∧ b ≤ eD XX EE := ⟨min (e - 1048576) (min E (min EE (eD XX EE))), by omega⟩
      refine ⟨b, hb.1, hb.2.1, ?_⟩
      have hd : cpos n e x1 = EE := by rw [cpos, if_neg hs]; omega
      have hrd := rX_dv (neg := neg) (n := n) (e := e) (pos := cpos n e x1) (m := x2) (b := b) nfv hm' hb.2.2.1 (by omega)
      rw [hXX, hEE, hd] at hrd
      have hv := valZ b hb.2.2.2.2 hb.2.2.1
      rw [dv_od hb.2.2.2.1, hrd, dv_neg] at hv
      have hoff := off_lt (v := dv (sg neg n) e b) (S := 2 ^ (EE - b).toNat) (m := x2) (two_pos _) hm'
      have e1 : dv Z E b = rdm x2 (dv (sg neg n) e b) (2 ^ (EE - b).toNat) * ((2 ^ (EE - b).toNat : Nat) : Int) - dv (sg neg n) e b := by omega
      rw [← e1] at hoff
      rw [sg_abs]
      -- the room
      have hnb := (bl_bounds hn).1
      have room : 2 ^ (EE - b).toNat ≤ n * 2 ^ (e + (1 - x1) - b).toNat := by
        refine Nat.le_trans ?_ (Nat.mul_le_mul_right _ hnb)
        rw [← Nat.pow_add]
        exact Nat.pow_le_pow_right (by omega) (by omega)
      have half : n * 2 ^ (e + (1 - x1) - b).toNat = 2 * (n * 2 ^ (e + (1 - x1) + -1 - b).toNat) := by
        rw [show (e + (1 - x1) - b).toNat = (e + (1 - x1) + -1 - b).toNat + 1 by omega, Nat.pow_succ, ← Nat.mul_assoc, Nat.mul_comm]
      have d1 : dv (n : Int) (e + (1 - x1)) b = ((n * 2 ^ (e + (1 - x1) - b).toNat : Nat) : Int) := by unfold dv; push_cast; rfl
      have d2 : dv (n : Int) (e + (1 - x1) + -1) b = ((n * 2 ^ (e + (1 - x1) + -1 - b).toNat : Nat) : Int) := by unfold dv; push_cast; rfl
      rw [d1, d2]
      generalize n * 2 ^ (e + (1 - x1) - b).toNat = A at *
      generalize n * 2 ^ (e + (1 - x1) + -1 - b).toNat = C at *
      generalize 2 ^ (EE - b).toNat = S at *
      generalize dv Z E b = D at *
      exact ⟨fun h => by have := hoff.2.2 h; omega, fun h => by have := hoff.2.1 h; omega⟩
  · rintro t1 t2 fl _ s7 _ _ s12 _ w1 a1 ⟨rfl, rfl, rfl, hm, hx1a, hx1b, z, e, Z, E, rfl, rfl, rfl, rfl, rz, rZ, nzZ, lZ, lz, hz, he1, he2, hE1, hE2, b, hb1, hb2, hA, hB⟩
    refine br_false rfl ?_
    refine Calls.mono (dAbs_spec (e := e) rz) ?_
    rintro en w27 ⟨h27, s7', rfl, r7⟩
    have a27 := a1.trans h27
    have hz' : (z.natAbs : Int) ≠ 0 := by omega
    refine ⟨_, _, _, rfl, h27, ?_⟩
    rw [wrap_i64 (x := 1 - x1) (by omega) (by omega)]
    refine Calls.mono (dScale_spec r7 (by omega)) ?_
    rintro en w28 ⟨h28, rfl⟩
    rw [if_neg hz']
    have a28 := a27.trans h28
    refine ⟨_, _, _, rfl, h28, br_intro (fun h2 => fun w29 X29 a29 => ?_) (fun h2 => fun w34 X34 a34 => ?_)⟩
    · have h2' : x2 = 2 := eq_of_beq h2
      refine Calls.mono (dAbs_spec (e := E) ((rZ.ahead (h27.trans h28)).ext X29)) ?_
      rintro en w30 ⟨h30, s12', rfl, r12⟩
      have r7' := ((r7.ahead h28).ext X29).ahead h30
      refine ⟨_, _, _, rfl, h30, Calls.mono (dScale_spec r7' (by omega)) ?_⟩
      rintro en w31 ⟨h31, rfl⟩
      rw [if_neg hz']
      refine ⟨_, _, _, rfl, h31, Calls.mono (dCmpZ (e := E) (e' := e + (1 - x1) + -1) (r12.ahead h31) (r7'.ahead h31) (by simp; omega) (by simp; omega) ⟨hE1, hE2⟩ ⟨by omega, by omega⟩) ?_⟩
      rintro en w32 ⟨h32, rfl⟩
      refine ⟨_, rfl, h32, br_intro (fun _ => aw _ (((a29.trans h30).trans h31).trans h32)) (fun hno => ?_)⟩
      exfalso
      have := of_decide_eq_false hno
      rw [dcmp_dv (b := b) hb2 (by omega), dv_abs] at this
      exact this (cmpZ_le.2 (hA h2'))
    · have h2' : x2 ≠ 2 := fun h => by rw [h] at h2; simp at h2
      refine Calls.mono (dAbs_spec (e := E) ((rZ.ahead (h27.trans h28)).ext X34)) ?_
      rintro en w30 ⟨h30, s12', rfl, r12⟩
      have r7' := ((r7.ahead h28).ext X34).ahead h30
      refine ⟨_, _, _, rfl, h30, Calls.mono (dCmpZ (e := E) (e' := e + (1 - x1)) r12 r7' (by simp; omega) (by simp; omega) ⟨hE1, hE2⟩ ⟨by omega, by omega⟩) ?_⟩
      rintro en w32 ⟨h32, rfl⟩
      refine ⟨_, rfl, h32, br_intro (fun _ => aw _ ((a34.trans h30).trans h32)) (fun hno => ?_)⟩
      exfalso
      have := of_decide_eq_false hno
      rw [dcmp_dv (b := b) hb2 (by omega), dv_abs] at this
      exact this (cmpZ_lt.2 (hB h2'))

end Dy
end Go.Proofs.YthhbjhdnaopcnaaDoor
