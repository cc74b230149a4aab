/- dyadic's inner functions: shifted, odd, told, read; Make, Scale. No condition: the library's table is a premise. -/
import Derived.Test.YthhbjhdnaopcnaaDoorTz
import Derived.Test.YthhbjhdnaopcnaaDoorNatC
import Derived.Test.YthhbjhdnaopcnaaDoorRef3
import Derived.Test.YthhbjhdnaopcnaaDoorVcDyL
namespace Go.Proofs.YthhbjhdnaopcnaaDoor
open Go Go.RowKit Eng Sp Dg
set_option linter.unusedVariables false
set_option linter.unusedSimpArgs false
set_option maxRecDepth 100000
namespace Dy
open _root_.Go.Proofs.YthhbjhdnaopcnaaDoor.Nat (ldN ldNf stF stFf mkF Fill OwnNil Num Num.bl OwnNil.mono bigC bigC_ok rightC right_num Norm_spec Length_spec len_num semShr fixShl orI_nat digs_len_bl)
open Sb

theorem tdivN {n : Nat} (h : n ≤ 9223372036854775807) : IntKind.i64.wrap (Int.tdiv (n : Int) 64) = ((n / 64 : Nat) : Int) := by
  have : Int.tdiv (n : Int) 64 = ((n / 64 : Nat) : Int) := by rw [Int.tdiv_eq_ediv_of_nonneg (by omega)]; omega
  rw [this, wrap_i64 (by omega) (by omega)]
theorem tmodN (n : Nat) : IntKind.u64.wrap (Int.tmod (n : Int) 64) = ((n % 64 : Nat) : Int) := by
  rw [Int.tmod_eq_emod_of_nonneg (by omega), wrap_u64]; omega

set_option maxHeartbeats 1000000 in
theorem shifted_spec {w : World} {a : Slc} {x k : Nat} (ra : Rd .u64 w a (nn (digs B64 x))) (na : (digs B64 x).length ≤ 2 ^ 44) (hk : k < bl x) :
    Calls pr dyadic_shifted_id #[a.v, .int .i64 (k : Int)] w fun e w' => Ahead w w' ∧ ∃ s, e = .returned (Slc.v s) ∧ OwnNil w.heap.size w' s (digs B64 (x / 2 ^ k)) := by
  have hB := B64v
  have h64 : B64 = 2 ^ 64 := rfl
  have hA0 := val_digs two64 x
  have hoA := ok_digs two64 x
  have hbl := bl_len hoA
  rw [hA0] at hbl
  have hw : k % 64 < 64 := Nat.mod_lt _ (by omega)
  have hp2 : B64 ^ (k / 64) * 2 ^ (k % 64) = 2 ^ k := (pow_split k 64).symm
  have hnum : Num w a x := ⟨_, ra, na, hoA, hA0⟩
  have hna : a.n = (digs B64 x).length := by rw [ra.n, nn_length]
  generalize digs B64 x = A at *
  have hk64 : k / 64 < A.length := by omega
  refine dyadic_shifted_vc a k w _ (fun t0 t7 t8 t9 t31 t32 w' => t0 = a ∧ t7 = ((k / 64 : Nat) : Int) ∧ t8 = ((k % 64 : Nat) : Int) ∧ t31 = ((A.length - k / 64 : Nat) : Int) ∧ ∃ (l : List Nat) (j : Nat), t32 = (j : Int) ∧ j ≤ A.length - k / 64 ∧
    Fill w w' t9 l (fun w' => Rd .u64 w' a (nn A)) ∧ l.length = A.length - k / 64 ∧ ok B64 l ∧ ∀ i, i < j → l.getD i 0 = x / 2 ^ k / B64 ^ i % B64) (fun _ _ _ _ n i _ => (n - i).toNat) ?_ ?_
  · refine Calls.mono (right_num hnum (n := (k : Int))) ?_
    rintro e w1 ⟨h1, s, rfl, os⟩
    have ek : ((k : Int)).toNat = k := by omega
    rw [ek] at os
    refine ⟨_, _, rfl, br_intro (fun hc => ?_) (fun hc => ?_)⟩
    · have hc0 : rightC x (k : Int) = 0 := by simpa using hc
      rw [if_pos hc0] at os
      exact ⟨h1, s, rfl, os⟩
    · rw [tdivN (by omega), tmodN, hna, wrap_i64 (by omega) (by omega), show (A.length : Int) - ((k / 64 : Nat) : Int) = ((A.length - k / 64 : Nat) : Int) by omega]
      refine mkF (w0 := w) (S := fun w' => Rd .u64 w' a (nn A)) (by omega) (by omega) h1 (ra.ahead h1) ?_
      intro c w3 hcn hf ha
      exact ⟨rfl, rfl, rfl, by rw [hcn]; simp, _, 0, rfl, Nat.zero_le _, hf, by simp, ok_replicate (by omega) _, fun i hi => by omega⟩
  · rintro t0 t7 t8 t9 t31 t32 w' ⟨rfl, rfl, rfl, rfl, l, j, rfl, hj, hf, hl, ol, hd⟩
    have hS := hf.src (fun _ h hs => Rd.ahead hs h)
    have hN : ∀ i, x / 2 ^ k / B64 ^ i % B64 = A.getD (k / 64 + i) 0 / 2 ^ (k % 64) + 2 ^ (64 - k % 64) * (A.getD (k / 64 + i + 1) 0 % 2 ^ (k % 64)) := by
      intro i
      rw [digit (by omega : 0 < B64) A hoA (k / 64 + i), digit (by omega : 0 < B64) A hoA (k / 64 + i + 1), hA0, ← hp2]
      rw [h64, div_pow_add, right_digit _ _ _ _ hw]
      congr 2
      generalize x / (2 ^ 64) ^ (k / 64 + i + 1) = U
      rw [show 2 ^ 64 = 2 ^ (k % 64) * 2 ^ (64 - k % 64) by rw [← Nat.pow_add]; congr 1; omega, Nat.mod_mul_right_mod]
    refine br_intro (fun hlt => ?_) (fun hge => ?_)
    · have hj' : j < A.length - k / 64 := by simp at hlt; omega
      have hx := ok_getD hoA (by omega : 0 < B64) (k / 64 + j)
      have hN' := hN j
      have e8 : IntKind.i64.wrap ((j : Int) + 1) = ((j + 1 : Nat) : Int) := by rw [wrap_i64 (by omega) (by omega)]; omega
      rw [wrap_i64 (x := (j : Int) + ((k / 64 : Nat) : Int)) (by omega) (by omega), show (j : Int) + ((k / 64 : Nat) : Int) = ((k / 64 + j : Nat) : Int) by omega,
        wrap_i64 (x := ((k / 64 + j : Nat) : Int) + 1) (by omega) (by omega), show ((k / 64 + j : Nat) : Int) + 1 = ((k / 64 + j + 1 : Nat) : Int) by omega]
      refine ldN hS (by omega) (by omega) ?_
      refine semShr (by omega) ?_
      simp only [Int.toNat_natCast]
      have hq : A.getD (k / 64 + j) 0 / 2 ^ (k % 64) < B64 := Nat.lt_of_le_of_lt (Nat.div_le_self _ _) hx
      have hvlt : x / 2 ^ k / B64 ^ j % B64 < B64 := Nat.mod_lt _ (by omega)
      refine stF hf (by omega) (by omega) ?_
      intro w6 hf6
      simp only [Int.toNat_natCast] at hf6
      have fin : ∀ {w7 : World}, Fill w w7 t9 (l.set j (x / 2 ^ k / B64 ^ j % B64)) (fun w' => Rd .u64 w' t0 (nn A)) →
          (True ∧ True ∧ True ∧ True ∧ ∃ (l : List Nat) (j' : Nat), IntKind.i64.wrap ((j : Int) + 1) = (j' : Int) ∧ j' ≤ A.length - k / 64 ∧
            Fill w w7 t9 l (fun w' => Rd .u64 w' t0 (nn A)) ∧ l.length = A.length - k / 64 ∧ ok B64 l ∧ ∀ i, i < j' → l.getD i 0 = x / 2 ^ k / B64 ^ i % B64) ∧
          (((A.length - k / 64 : Nat) : Int) - IntKind.i64.wrap ((j : Int) + 1)).toNat < (((A.length - k / 64 : Nat) : Int) - (j : Int)).toNat := by
        intro w7 hf7
        refine ⟨⟨trivial, trivial, trivial, trivial, _, j + 1, e8, by omega, hf7, by simpa using hl, ok_set ol hvlt, fun i hi => ?_⟩, by rw [e8]; omega⟩
        rw [getD_set _ _ _ _ (by omega)]
        split
        · rename_i h; subst h; rfl
        · exact hd i (by omega)
      refine br_intro (fun hs => br_intro (fun hin => ?_) (fun hin => ?_)) (fun hs => ?_)
      · have hs1 : 0 < k % 64 := by simp at hs; omega
        have hin' : k / 64 + j + 1 < A.length := by simp at hin; omega
        have hS6 := hf6.src (fun _ h hs => Rd.ahead hs h)
        refine ldNf hf6.rd (by omega) (by simp; omega) ?_
        refine ldNf hS6 (by omega) (by omega) ?_
        simp only [Int.toNat_natCast]
        rw [show IntKind.u64.wrap (64 - ((k % 64 : Nat) : Int)) = ((64 - k % 64 : Nat) : Int) by rw [wrap_u64' (by omega) (by omega)]; omega]
        refine fixShl (by omega) ?_
        rw [getD_set _ _ _ _ (by omega), if_pos rfl, orI_nat hq (Nat.mod_lt _ (by omega))]
        have e5 : A.getD (k / 64 + j + 1) 0 * 2 ^ (64 - k % 64) % B64 = 2 ^ (64 - k % 64) * (A.getD (k / 64 + j + 1) 0 % 2 ^ (k % 64)) := by
          rw [h64, shl_lo _ _ _ (by omega)]
          congr 3; omega
        have hql : A.getD (k / 64 + j) 0 / 2 ^ (k % 64) < 2 ^ (64 - k % 64) := by
          rw [Nat.div_lt_iff_lt_mul (Nat.pow_pos (by omega)), ← Nat.pow_add, show 64 - k % 64 + k % 64 = 64 by omega]
          exact hx
        rw [e5, or_add hql, ← hN']
        refine stFf hf6 (Ahead.drew _) (by omega) (by simp; omega) ?_
        intro w7 hf7
        simp only [Int.toNat_natCast, List.set_set] at hf7
        exact fin hf7
      · have hin' : A.length ≤ k / 64 + j + 1 := by simp at hin; omega
        rw [getD_ge A 0 hin', Nat.zero_mod, Nat.mul_zero, Nat.add_zero] at hN'
        rw [← hN'] at hf6
        exact fin hf6
      · have hs0 : k % 64 = 0 := by simp at hs; omega
        have : x / 2 ^ k / B64 ^ j % B64 = A.getD (k / 64 + j) 0 / 2 ^ (k % 64) := by rw [hN', hs0]; simp [Nat.mod_one]
        rw [← this] at hf6
        exact fin hf6
    · have hj' : j = A.length - k / 64 := by simp at hge; omega
      subst hj'
      have hv : val B64 l = x / 2 ^ k := by
        refine val_of_digits (by omega) l _ ?_ (fun i hi => hd i (by omega))
        rw [Nat.div_lt_iff_lt_mul (Nat.pow_pos (by omega)), ← hp2, ← Nat.mul_assoc, hl, ← Nat.pow_add, show A.length - k / 64 + k / 64 = A.length by omega, ← hA0]
        exact Nat.lt_of_lt_of_le (val_lt hoA) (Nat.le_mul_of_pos_right _ (Nat.pow_pos (by omega)))
      refine Calls.mono (Norm_spec hf.rd (by omega) ol) ?_
      rw [hv]
      rintro e w3 ⟨h3, s, rfl, os⟩
      exact ⟨_, rfl, hf.base.trans h3, _, rfl, os.mono hf.base.size⟩

/-! ### The forms of a dyadic -/
def nD (neg : Bool) (x : Nat) : Bool := neg && decide (x ≠ 0)
def eD (x : Nat) (e : Int) : Int := if x = 0 then 0 else e + tz x
def wi (e : Int) : Prop := -1099511627776 ≤ e ∧ e ≤ 1099511627776
instance (e : Int) : Decidable (wi e) := inferInstanceAs (Decidable (_ ∧ _))
/-- The number of an answer. -/
def tC (x : Nat) (e : Int) : Int := if 67108864 < bl (od x) then 3 else if wi (eD x e) then 0 else 80
/-- An answer: a dyadic in lowest terms, or nothing and a number. -/
def DOut (w : World) (code : Int) (neg : Bool) (x : Nat) (e : Int) (en : Ending) (w' : World) : Prop := Ahead w w' ∧ ∃ s, en = .returned (.tuple #[.agg (c3 (if code = 0 then nD neg x else false) s (if code = 0 then eD x e else 0)), .int .i64 code]) ∧
  OwnNil w.heap.size w' s (if code = 0 then digs B64 (od x) else [])
theorem DOut.refused {w w' : World} {code c : Int} {neg : Bool} {x : Nat} {e : Int} (h : Ahead w w') (hc : code = c) (h0 : c ≠ 0) : DOut w code neg x e (.returned (.tuple #[.agg (c3 false ⟨none, 0, 0⟩ 0), .int .i64 c])) w' := by
  subst hc
  exact ⟨h, _, by rw [if_neg h0, if_neg h0], Or.inl ⟨rfl, if_neg h0⟩⟩
theorem DOut.told {w w' : World} {code : Int} {neg : Bool} {x : Nat} {e : Int} {s : Slc} (h : Ahead w w') (hc : code = 0) (ho : OwnNil w.heap.size w' s (digs B64 (od x))) : DOut w code neg x e (.returned (.tuple #[.agg (c3 (nD neg x) s (eD x e)), .int .i64 0])) w' := by
  subst hc
  exact ⟨h, s, rfl, ho⟩
theorem nD_zero (neg : Bool) : nD neg 0 = false := by simp [nD]
theorem nD_ne {neg : Bool} {x : Nat} (h : x ≠ 0) : nD neg x = neg := by simp [nD, h]
theorem nD_od (neg : Bool) (x : Nat) : nD (nD neg x) (od x) = nD neg x := by
  by_cases h : x = 0
  · subst h; simp [nD, od_zero]
  · rw [nD_ne h, nD_ne (od_ne h)]
theorem eD_od (x : Nat) (e : Int) : eD (od x) (eD x e) = eD x e := by
  by_cases h : x = 0
  · subst h; simp [eD, od_zero]
  · rw [eD, if_neg (od_ne h), tz_od]; omega
theorem eD_zero (e : Int) : eD 0 e = 0 := if_pos rfl

theorem within_spec {w : World} {e : Int} : Calls pr dyadic_within_id #[.int .i64 e] w fun en w' => w' = w ∧ en = .returned (.bool (decide (wi e))) := by
  refine dyadic_within_vc e w _ (br_intro (fun h => ⟨rfl, ?_⟩) (fun h => ⟨rfl, ?_⟩))
  · have h1 : -1099511627776 ≤ e := by simpa using h
    congr 2
    simp [wi, h1]
  · have h1 : ¬ -1099511627776 ≤ e := by simpa using h
    congr 2
    simp [wi, h1]

theorem bl_zero_iff {x : Nat} : bl x = 0 ↔ x = 0 := ⟨fun h => by rcases Nat.eq_zero_or_pos x with h1 | h1; exact h1; have := bl_pos (n := x) (by omega); omega, fun h => by rw [h, bl_zero]⟩
def sgn (neg : Bool) (x : Nat) : Int := if x = 0 then 0 else if neg then -1 else 1
theorem Sign_spec {w : World} {neg : Bool} {s : Slc} {x : Nat} (h : Num w s x) : Calls pr whole_Sign_id #[.agg (c2 neg s)] w fun e w' => Ahead w w' ∧ e = .returned (.int .i64 (sgn neg x)) := by
  refine whole_Sign_vc neg s w _ (newC_b fun b w1 hb h1 hs1 B1 => ?_)
  refine ldS_b 1 B1 rfl (Calls.mono (len_num (h.ahead h1)) ?_)
  rintro e w2 ⟨rfl, rfl⟩
  refine ⟨_, rfl, br_intro (fun hz => ?_) (fun hz => ?_)⟩
  · have hx : x = 0 := bl_zero_iff.1 (by simpa using hz)
    exact ⟨h1, by rw [sgn, if_pos hx]⟩
  · have hx : x ≠ 0 := fun e => by rw [e, bl_zero] at hz; simp at hz
    refine ldB_b 0 B1 rfl ?_
    cases neg
    · exact br_false rfl ⟨h1, by rw [sgn, if_neg hx]; rfl⟩
    · exact br_true rfl ⟨h1, by rw [sgn, if_neg hx]; rfl⟩
theorem sgn_zero_iff {neg : Bool} {x : Nat} : sgn neg x = 0 ↔ x = 0 := by
  unfold sgn
  by_cases h : x = 0
  · simp [h]
  · rw [if_neg h]
    cases neg <;> simp [h]
theorem part_sign_spec {w : World} {neg : Bool} {s : Slc} {x : Nat} (h : Num w s x) : Calls pr dyadic_part_sign_id #[.agg (c2 neg s)] w fun e w' => Ahead w w' ∧ e = .returned (.int .i64 (sgn neg x)) := by
  refine dyadic_part_sign_vc neg s w _ (newC_b fun b w1 hb h1 hs1 B1 => ?_)
  refine get2 B1 rfl rfl (Calls.mono (Sign_spec (h.ahead h1)) ?_)
  rintro e w2 ⟨h2, rfl⟩
  exact ⟨_, rfl, h1.trans h2, rfl⟩
theorem part_length_spec {w : World} {neg : Bool} {s : Slc} {x : Nat} (h : Num w s x) : Calls pr dyadic_part_length_id #[.agg (c2 neg s)] w fun e w' => Ahead w w' ∧ e = .returned (.int .i64 (bl x)) := by
  refine dyadic_part_length_vc neg s w _ (newC_b fun b w1 hb h1 hs1 B1 => ?_)
  refine ldS_b 1 B1 rfl (Calls.mono (len_num (h.ahead h1)) ?_)
  rintro e w2 ⟨rfl, rfl⟩
  exact ⟨_, rfl, h1, rfl⟩

theorem odd_spec {w : World} {neg : Bool} {s : Slc} {x : Nat} {e : Int} (hT : Tab w) (h : Num w s x) (he : -4611686018427387904 ≤ e ∧ e ≤ 4611686018427387904) :
    Calls pr dyadic_odd_id #[.agg (c2 neg s), .int .i64 e] w fun en w' => Ahead w w' ∧ ∃ s', en = .returned (.agg (c3 (nD neg x) s' (eD x e))) ∧ OwnNil w.heap.size w' s' (digs B64 (od x)) := by
  refine dyadic_odd_vc neg s e w _ (newC_b fun b1 w1 hb1 h1 hs1 B1 => newC_b fun b2 w2 hb2 h2 hs2 B2 => ?_)
  have B1' := B1.ahead h2
  have h12 := h1.trans h2
  have hne : b2 ≠ b1 := by omega
  have n2 := h.ahead h12
  refine get2 B1' rfl rfl (Calls.mono (Sign_spec n2) ?_)
  rintro en w3 ⟨h3, rfl⟩
  have h13 := h12.trans h3
  have B13 := B1'.ahead h3
  have B23 := B2.ahead h3
  refine ⟨_, rfl, br_intro (fun hz => ?_) (fun hz => ?_)⟩
  · have hx : x = 0 := sgn_zero_iff.1 (by simpa using hz)
    subst hx
    refine ret3 B23 fun w' u _ => ⟨u.ahead h13 (by omega), _, by rw [nD_zero, eD_zero], Or.inl ⟨rfl, by rw [od_zero, digs_zero]⟩⟩
  · have hx : x ≠ 0 := fun e0 => by rw [e0] at hz; simp [sgn] at hz
    obtain ⟨l, ra, na, oa, hv⟩ := h.ahead h13
    refine ldS_b 1 B13 rfl (Calls.mono (Norm_spec ra na oa) ?_)
    rw [hv]
    rintro en w7 ⟨h7, s4, rfl, o4⟩
    have hdl := Nat.len_le oa
    rw [hv] at hdl
    have hbl := Num.bl h
    have htz := tz_lt hx
    refine ⟨_, rfl, stC_b 1 (B13.ahead h7) (by simp) rfl fun w8 u8 C1 => ?_⟩
    have o8 := u8.own o4 (by have := h13.size; have := h3.size; omega)
    have h18 : Ahead w w8 := u8.ahead (h13.trans h7) (by omega)
    have B28 : Blk w8 b2 _ := u8.blk (B23.ahead h7) hne
    refine ldS_b (x := s4) 1 C1 rfl (Calls.mono (Tail_spec (hT.ahead h18) o8.rd (by omega) (ok_digs two64 _)) ?_)
    rw [val_digs two64]
    rintro en w9 ⟨rfl, rfl⟩
    refine ⟨_, rfl, br_intro (fun hk => ?_) (fun hk => ?_)⟩
    · refine ldS_b (x := s4) 1 C1 rfl (Calls.mono (shifted_spec o8.rd (by omega) htz) ?_)
      rintro en w10 ⟨h10, s7, rfl, o7⟩
      have C10 := C1.ahead h10
      refine ⟨_, rfl, stC_b 1 C10 (by simp) rfl fun w11 u11 C11 => ?_⟩
      have hsz := h18.size
      have o11 := u11.own o7 (by have := u8.size; have := h7.size; have := h3.size; omega)
      refine get2 (x := neg) (s := s7) C11 rfl rfl ?_
      have B211 : Blk w11 b2 _ := u11.blk (B28.ahead h10) hne
      refine ret3 B211 fun w' u _ => ?_
      have h11 : Ahead w w11 := u11.ahead (h18.trans h10) (by omega)
      refine ⟨u.ahead h11 (by omega), s7, ?_, (u.own o11 (by have := u8.size; have := h7.size; have := h3.size; omega)).mono hsz⟩
      rw [nD_ne hx, eD, if_neg hx, wrap_i64 (by omega) (by omega)]
    · have hk0 : tz x = 0 := by simp at hk; omega
      refine get2 (x := neg) (s := s4) C1 rfl rfl ?_
      refine ret3 B28 fun w' u _ => ?_
      refine ⟨u.ahead h18 (by omega), s4, ?_, ?_⟩
      · rw [nD_ne hx, eD, if_neg hx, wrap_i64 (by omega) (by omega)]
      · rw [od, hk0, Nat.pow_zero, Nat.div_one]
        exact (u.own o8 (by have := h13.size; have := h3.size; omega)).mono (by have := h13.size; omega)

theorem num_od {w : World} {s : Slc} {x b : Nat} (h : OwnNil b w s (digs B64 (od x))) (hl : (digs B64 x).length ≤ 2 ^ 44) : Num w s (od x) :=
  ⟨_, h.rd, Nat.le_trans (Ref.len_mono two64 (od_le x)) hl, ok_digs two64 _, val_digs two64 _⟩
theorem num_len {w : World} {s : Slc} {x : Nat} (h : Num w s x) : (digs B64 x).length ≤ 2 ^ 44 := by
  obtain ⟨l, _, hl, ol, rfl⟩ := h
  exact Nat.le_trans (Nat.len_le ol) hl

theorem told_spec {w : World} {neg : Bool} {s : Slc} {x : Nat} {e : Int} (hT : Tab w) (h : Num w s x) (he : -4611686018427387904 ≤ e ∧ e ≤ 4611686018427387904) :
    Calls pr dyadic_told_id #[.agg (c2 neg s), .int .i64 e] w (DOut w (tC x e) neg x e) := by
  refine dyadic_told_vc neg s e w _ (newC_b fun b1 w1 hb1 h1 hs1 B1 => newC_b fun b2 w2 hb2 h2 hs2 B2 => ?_)
  have h12 := h1.trans h2
  refine get2 (B1.ahead h2) rfl rfl (Calls.mono (odd_spec (hT.ahead h12) (h.ahead h12) he) ?_)
  rintro en w3 ⟨h3, s2, rfl, o2⟩
  have h13 := h12.trans h3
  have B23 := B2.ahead h3
  refine ⟨_, _, _, rfl, newC_b fun b3 w4 hb3 h4 hs4 B3 => ?_⟩
  have B24 := B23.ahead h4
  refine set3 B3 fun w7 u7 C3 => ?_
  have hle := B23.lt
  have B27 : Blk w7 b2 _ := u7.blk B24 (by omega)
  have h17 : Ahead w w7 := u7.ahead (h13.trans h4) (by have := h13.size; omega)
  have hl := num_len h
  have n7 : Num w7 s2 (od x) := by
    have n4 : Num w4 s2 (od x) := (num_od o2 hl).ahead h4
    obtain ⟨l, r, q⟩ := n4
    exact ⟨l, u7.rd _ _ r, q⟩
  have o7 := u7.own2 o2 h4 (by omega)
  refine get2 (x := nD neg x) (s := s2) C3 rfl rfl (Calls.mono (part_sign_spec n7) ?_)
  rintro en w8 ⟨h8, rfl⟩
  have h18 := h17.trans h8
  have B28 := B27.ahead h8
  have C38 := C3.ahead h8
  have o8 := o7.ahead h8
  have hsz := h12.size
  have hb2 : w.heap.size ≤ b2 := by have := h1.size; omega
  have hbase : w.heap.size ≤ w2.heap.size := h12.size
  refine ⟨_, rfl, br_intro (fun hz => ?_) (fun hz => ?_)⟩
  · have hx : x = 0 := od_zero_iff.1 (sgn_zero_iff.1 (by simpa using hz))
    subst hx
    refine ret3 B28 fun w' u _ => ?_
    have hc : tC 0 e = 0 := by
      rw [tC, od_zero, bl_zero, if_neg (by omega), eD_zero, if_pos (by unfold wi; omega)]
    have := DOut.told (w := w) (w' := w') (neg := neg) (x := 0) (e := e) (s := ⟨none, 0, 0⟩) (u.ahead h18 hb2) hc (Or.inl ⟨rfl, by rw [od_zero, digs_zero]⟩)
    rwa [nD_zero, eD_zero] at this
  · have hx : x ≠ 0 := fun e0 => by rw [e0, od_zero] at hz; simp [sgn] at hz
    refine get2 (x := nD neg x) (s := s2) C38 rfl rfl (Calls.mono (part_length_spec (n7.ahead h8)) ?_)
    rintro en w12 ⟨h12', rfl⟩
    have h112 := h18.trans h12'
    have B212 := B28.ahead h12'
    have C312 := C38.ahead h12'
    refine ⟨_, rfl, br_intro (fun hg => ?_) (fun hg => ?_)⟩
    · refine ret3 B212 fun w' u _ => DOut.refused (u.ahead h112 hb2) ?_ (by omega)
      rw [tC, if_pos (by simp at hg; omega)]
    · refine ldI_b (x := eD x e) 2 C312 rfl (Calls.mono within_spec ?_)
      rintro en w16 ⟨rfl, rfl⟩
      refine ⟨_, rfl, br_intro (fun hw => ?_) (fun hw => ?_)⟩
      · refine ret3 B212 fun w' u _ => DOut.refused (u.ahead h112 hb2) ?_ (by omega)
        rw [tC, if_neg (by simp at hg; omega), if_neg (by simpa using hw)]
      · refine get3 C312 (ret3 B212 fun w' u _ => DOut.told (u.ahead h112 hb2) ?_ ?_)
        · rw [tC, if_neg (by simp at hg; omega), if_pos (by simpa using hw)]
        · refine OwnNil.mono (u.own (o8.ahead h12') ?_) hbase
          omega

theorem read_spec {w : World} {neg : Bool} {s : Slc} {x : Nat} {e : Int} (hT : Tab w) (h : Num w s x) :
    Calls pr dyadic_read_id #[.agg (c3 neg s e)] w (fun en w' => Ahead w w' ∧ ∃ s', en = .returned (.tuple #[.agg (c3 (if wi e then nD neg x else false) s' (if wi e then eD x e else 0)), .int .i64 (if wi e then 0 else 80)]) ∧
      OwnNil w.heap.size w' s' (if wi e then digs B64 (od x) else [])) := by
  refine dyadic_read_vc neg s e w _ (newC_b fun b1 w1 hb1 h1 hs1 B1 => newC_b fun b2 w2 hb2 h2 hs2 B2 => ?_)
  have h12 := h1.trans h2
  have B12 := B1.ahead h2
  have hb : w.heap.size ≤ b2 := by have := h1.size; omega
  refine ldI_b (x := e) 2 B12 rfl (Calls.mono within_spec ?_)
  rintro en w3 ⟨rfl, rfl⟩
  refine ⟨_, rfl, br_intro (fun hw => ?_) (fun hw => ?_)⟩
  · have hw' : ¬ wi e := by simpa using hw
    refine ret3 B2 fun w' u _ => ⟨u.ahead h12 hb, _, ?_, Or.inl ⟨rfl, if_neg hw'⟩⟩
    rw [if_neg hw', if_neg hw', if_neg hw']
  · have hw' : wi e := by simpa using hw
    refine get3 B12 (Calls.mono (odd_spec (hT.ahead h12) (h.ahead h12) (by unfold wi at hw'; omega)) ?_)
    rintro en w7 ⟨h7, s3, rfl, o3⟩
    refine ⟨_, _, _, rfl, ret3 (B2.ahead h7) fun w' u _ => ⟨u.ahead (h12.trans h7) hb, s3, ?_, ?_⟩⟩
    · rw [if_pos hw', if_pos hw', if_pos hw']
    · rw [if_pos hw']
      exact (u.own o3 (by omega)).mono h12.size

theorem Make_spec {w : World} {neg : Bool} {s : Slc} {x : Nat} {e : Int} (hT : Tab w) (h : Num w s x) :
    Calls pr dyadic_Make_id #[.agg (c2 neg s), .int .i64 e] w (DOut w (if wi e then tC x e else 1) neg x e) := by
  refine dyadic_Make_vc neg s e w _ (newC_b fun b1 w1 hb1 h1 hs1 B1 => newC_b fun b2 w2 hb2 h2 hs2 B2 => ?_)
  have h12 := h1.trans h2
  have hb : w.heap.size ≤ b2 := by have := h1.size; omega
  refine Calls.mono within_spec ?_
  rintro en w3 ⟨rfl, rfl⟩
  refine ⟨_, rfl, br_intro (fun hw => ?_) (fun hw => ?_)⟩
  · have hw' : ¬ wi e := by simpa using hw
    exact ret3 B2 fun w' u _ => DOut.refused (u.ahead h12 hb) (if_neg hw') (by omega)
  · have hw' : wi e := by simpa using hw
    rw [if_pos hw']
    refine get2 (B1.ahead h2) rfl rfl (Calls.mono (told_spec (hT.ahead h12) (h.ahead h12) (by unfold wi at hw'; omega)) ?_)
    rintro en w7 ⟨h7, s3, rfl, o3⟩
    exact ⟨_, _, _, _, rfl, ret3 (B2.ahead h7) fun w' u _ => ⟨u.ahead (h12.trans h7) hb, s3, rfl, (u.own o3 (by omega)).mono h12.size⟩⟩

/-- Scale's answer's number. -/
def scC (x : Nat) (e k : Int) : Int := if wi e then if wi k then tC (od x) (eD x e + k) else 1 else 80
theorem Scale_spec {w : World} {neg : Bool} {s : Slc} {x : Nat} {e k : Int} (hT : Tab w) (h : Num w s x) :
    Calls pr dyadic_Scale_id #[.agg (c3 neg s e), .int .i64 k] w (DOut w (scC x e k) (nD neg x) (od x) (eD x e + k)) := by
  refine dyadic_Scale_vc neg s e k w _ (newC_b fun b1 w1 hb1 h1 hs1 B1 => newC_b fun b2 w2 hb2 h2 hs2 B2 => ?_)
  have h12 := h1.trans h2
  have hb : w.heap.size ≤ b2 := by have := h1.size; omega
  have hl := num_len h
  have hbl := Num.bl h
  refine get3 (B1.ahead h2) (Calls.mono (read_spec (hT.ahead h12) (h.ahead h12)) ?_)
  rintro en w3 ⟨h3, s3, rfl, o3⟩
  have h13 := h12.trans h3
  refine ⟨_, _, _, _, rfl, newC_b fun b3 w4 hb3 h4 hs4 B3 => ?_⟩
  refine set3 B3 fun w7 u7 C3 => ?_
  have hlt := (B2.ahead h3).lt
  have B27 : Blk w7 b2 _ := u7.blk ((B2.ahead h3).ahead h4) (by omega)
  have h17 : Ahead w w7 := u7.ahead (h13.trans h4) (by have := h13.size; omega)
  refine br_intro (fun hw => ?_) (fun hw => ?_)
  · have hw' : ¬ wi e := fun h => by rw [if_pos h] at hw; simp at hw
    rw [if_neg hw']
    exact ret3 B27 fun w' u _ => DOut.refused (u.ahead h17 hb) (by rw [scC, if_neg hw']) (by omega)
  · have hw' : wi e := by
      by_cases h : wi e
      · exact h
      · rw [if_neg h] at hw; simp at hw
    simp only [if_pos hw'] at o3 C3
    refine Calls.mono within_spec ?_
    rintro en w11 ⟨rfl, rfl⟩
    refine ⟨_, rfl, br_intro (fun hk => ?_) (fun hk => ?_)⟩
    · have hk' : ¬ wi k := by simpa using hk
      exact ret3 B27 fun w' u _ => DOut.refused (u.ahead h17 hb) (by rw [scC, if_pos hw', if_neg hk']) (by omega)
    · have hk' : wi k := by simpa using hk
      have n7 : Num w11 s3 (od x) := num_od (u7.own2 o3 h4 (by omega)) hl
      have htz := tz_le x
      have heD : -4611686018427387904 ≤ eD x e + k ∧ eD x e + k ≤ 4611686018427387904 := by
        unfold wi at hw' hk'
        unfold eD
        split <;> omega
      refine get3 C3 ?_
      rw [wrap_i64 (by omega) (by omega)]
      refine Calls.mono (told_spec (hT.ahead h17) n7 heD) ?_
      rintro en w15 ⟨h15, s6, rfl, o6⟩
      have hc : scC x e k = tC (od x) (eD x e + k) := by rw [scC, if_pos hw', if_pos hk']
      rw [hc]
      exact ⟨_, _, _, _, rfl, ret3 (B27.ahead h15) fun w' u _ => ⟨u.ahead (h17.trans h15) hb, s6, rfl, (u.own o6 (by have := B27.lt; omega)).mono h17.size⟩⟩

theorem in_spec {w : World} {neg : Bool} {s : Slc} {e : Int} : Calls pr surdlaw08_in_id #[.agg (c3 neg s e)] w fun en w' => Ahead w w' ∧ en = .returned (.agg (c3 neg s e)) := by
  refine surdlaw08_in_vc neg s e w _ (newC_b fun b1 w1 hb1 h1 hs1 B1 => newC_b fun b2 w2 hb2 h2 hs2 B2 => ?_)
  refine get3 (B1.ahead h2) (ret3 B2 fun w' u _ => ⟨u.ahead (h1.trans h2) (by have := h1.size; omega), rfl⟩)

end Dy
end Go.Proofs.YthhbjhdnaopcnaaDoor
