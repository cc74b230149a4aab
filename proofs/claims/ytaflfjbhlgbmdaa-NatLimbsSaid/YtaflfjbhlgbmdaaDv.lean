/- math/bits.Div64: the quotient and the rest of a double limb. No condition but that the quotient fits. -/
import Derived.Test.YtaflfjbhlgbmdaaPc
import Derived.Test.YtaflfjbhlgbmdaaVcDiv
namespace Go.Proofs.Ytaflfjbhlgbmdaa
open Go Go.RowKit Eng Sp Dg
set_option linter.unusedVariables false
set_option linter.unusedSimpArgs false
set_option maxRecDepth 100000
namespace Nat

theorem binQuo {x y : Nat} {t : TypeId} (hx : x < B64) (hy : y ≠ 0) : binOp .quo t (.int .u64 (x : Int)) (.int .u64 (y : Int)) = pure (.int .u64 ((x / y : Nat) : Int)) := by
  have e : Int.tdiv (x : Int) (y : Int) = ((x / y : Nat) : Int) := by rw [Int.tdiv_eq_ediv_of_nonneg (by omega)]; simp
  have hle := Nat.div_le_self x y
  have hB := B64v
  unfold binOp
  simp only [Op.intDiv]
  rw [if_neg (by simp), if_neg (by simpa using hy)]
  simp only [e]
  generalize x / y = q at *
  rw [wrap_u64' (by omega) (by omega)]
theorem binRem {x y : Nat} {t : TypeId} (hx : x < B64) (hy : y ≠ 0) : binOp .rem t (.int .u64 (x : Int)) (.int .u64 (y : Int)) = pure (.int .u64 ((x % y : Nat) : Int)) := by
  have e : Int.tmod (x : Int) (y : Int) = ((x % y : Nat) : Int) := by rw [Int.tmod_eq_emod_of_nonneg (by omega)]; simp
  have hle := Nat.mod_le x y
  have hB := B64v
  unfold binOp
  simp only [Op.intDiv]
  rw [if_neg (by simp), if_neg (by simpa using hy)]
  simp only [e]

theorem semQuo {x y : Nat} {t : TypeId} {w : World} {K : Int → World → Prop} (hx : x < B64) (hy : y ≠ 0) (h : K ((x / y : Nat) : Int) w) : semI pr .u64 (binOp .quo t (.int .u64 (x : Int)) (.int .u64 (y : Int))) w K := by
  unfold semI
  rw [binQuo hx hy, Sem.wp_iff_run]
  exact ⟨_, rfl, h⟩
theorem fixQuo {x y : Nat} {t : TypeId} {w : World} {K : Int → Prop} (hx : x < B64) (hy : y ≠ 0) (h : K ((x / y : Nat) : Int)) : fixI pr .u64 (binOp .quo t (.int .u64 (x : Int)) (.int .u64 (y : Int))) w K := by
  rw [fixI, binQuo hx hy]
  exact ⟨_, fun _ _ => rfl, h⟩
theorem fixRem {x y : Nat} {t : TypeId} {w : World} {K : Int → Prop} (hx : x < B64) (hy : y ≠ 0) (h : K ((x % y : Nat) : Int)) : fixI pr .u64 (binOp .rem t (.int .u64 (x : Int)) (.int .u64 (y : Int))) w K := by
  rw [fixI, binRem hx hy]
  exact ⟨_, fun _ _ => rfl, h⟩

/-! ### A guess and its mending (base b = 2^32) -/
/-- The guess q, with its rest r, of U b + u through y = y1 b + y0. -/
structure Guess (U u y y1 y0 q r : Nat) : Prop where
  eq : q * y1 + r = U
  ge : (U * 4294967296 + u) / y ≤ q
theorem Guess.over {U u y y1 y0 q r : Nat} (h : Guess U u y y1 y0 q r) (hy : y = y1 * 4294967296 + y0) : q * y0 > 4294967296 * r + u ↔ q * y > U * 4294967296 + u := by
  have e1 : q * y = q * y1 * 4294967296 + q * y0 := by rw [hy, Nat.mul_add, Nat.mul_assoc]
  have := h.eq
  generalize q * y1 = A at *
  generalize q * y0 = B at *
  generalize q * y = C at *
  omega
theorem Guess.less {U u y y1 y0 q r : Nat} (h : Guess U u y y1 y0 q r) (hq : 0 < q) (hl : (U * 4294967296 + u) / y < q) : Guess U u y y1 y0 (q - 1) (r + y1) := by
  refine ⟨?_, by omega⟩
  have := h.eq
  obtain ⟨k, rfl⟩ : ∃ k, q = k + 1 := ⟨q - 1, by omega⟩
  rw [Nat.add_sub_cancel]
  rw [Nat.succ_mul] at this
  omega
theorem Guess.done {U u y y1 y0 q r : Nat} (h : Guess U u y y1 y0 q r) (hy0 : 0 < y) (hl : q * y ≤ U * 4294967296 + u) : q = (U * 4294967296 + u) / y :=
  Nat.le_antisymm ((Nat.le_div_iff_mul_le hy0).2 hl) h.ge
theorem Guess.far {U u y y1 y0 q r : Nat} (h : Guess U u y y1 y0 q r) (hy : y = y1 * 4294967296 + y0) (h0 : y0 < 4294967296) (hq : q ≤ 4294967296) (hr : 4294967296 ≤ r) : q * y ≤ U * 4294967296 + u := by
  have e1 : q * y = q * y1 * 4294967296 + q * y0 := by rw [hy, Nat.mul_add, Nat.mul_assoc]
  have := h.eq
  have h2 : q * y0 ≤ 4294967296 * 4294967295 := Nat.mul_le_mul hq (by omega)
  generalize q * y1 = A at *
  generalize q * y0 = B at *
  generalize q * y = C at *
  omega
theorem Guess.first {U u y y1 y0 : Nat} (hy : y = y1 * 4294967296 + y0) (h1 : 2147483648 ≤ y1) (h0 : y0 < 4294967296) (hu : u < 4294967296) (hU : U < y) :
    Guess U u y y1 y0 (U / y1) (U - U / y1 * y1) ∧ U / y1 ≤ 4294967297 ∧ U - U / y1 * y1 < 4294967296 + y1 := by
  have hd := Nat.div_add_mod U y1
  have hm := Nat.mod_lt U (show y1 > 0 by omega)
  have hc : y1 * (U / y1) = U / y1 * y1 := Nat.mul_comm _ _
  refine ⟨⟨by omega, ?_⟩, ?_, by omega⟩
  · rw [← Nat.lt_succ_iff, Nat.div_lt_iff_lt_mul (by omega)]
    have e1 : (U / y1).succ * y = (U / y1 * y1 + y1) * 4294967296 + (U / y1).succ * y0 := by
      rw [hy, Nat.mul_add, ← Nat.mul_assoc, Nat.succ_mul]
    rw [e1]
    have : U + 1 ≤ U / y1 * y1 + y1 := by omega
    generalize U / y1 * y1 = A at *
    generalize (U / y1).succ * y0 = B at *
    omega
  · rw [← Nat.lt_succ_iff, Nat.div_lt_iff_lt_mul (by omega)]
    omega
theorem quot_lt {U u y : Nat} (hu : u < 4294967296) (hU : U < y) : (U * 4294967296 + u) / y < 4294967296 := by
  rw [Nat.div_lt_iff_lt_mul (by omega)]; omega
/-- What stays, reckoned modulo 2^64. -/
theorem rest_wrap {U u y q : Nat} (hy : y < 18446744073709551616) (hy0 : 0 < y) (hq : q = (U * 4294967296 + u) / y) :
    IntKind.u64.wrap (IntKind.u64.wrap (IntKind.u64.wrap ((U : Int) * 4294967296) + (u : Int)) - IntKind.u64.wrap ((q : Int) * (y : Int))) = (((U * 4294967296 + u) % y : Nat) : Int) := by
  have hd := Nat.div_add_mod (U * 4294967296 + u) y
  have hm := Nat.mod_lt (U * 4294967296 + u) hy0
  rw [← hq, Nat.mul_comm] at hd
  have e : (q : Int) * (y : Int) = ((q * y : Nat) : Int) := by push_cast; rfl
  rw [e, wrap_u64, wrap_u64, wrap_u64, wrap_u64]
  generalize (U * 4294967296 + u) % y = m at *
  generalize q * y = C at *
  omega


def J0r (w : World) (Y s y1 y0 U u1 u0 : Nat) (t2 t8 t9 t10 t11 t13 t14 t15 t16 : Int) (w' : World) : Prop :=
  w' = w ∧ t2 = (Y : Int) ∧ t8 = (s : Int) ∧ t9 = (y1 : Int) ∧ t10 = (y0 : Int) ∧ t11 = (U : Int) ∧ t13 = (u1 : Int) ∧ t14 = (u0 : Int) ∧ ∃ q r : Nat, t15 = (q : Int) ∧ t16 = (r : Int) ∧ Guess U u1 Y y1 y0 q r ∧ r < 4294967296 ∧ q ≤ 4294967297
def J2r (w : World) (Y s y1 y0 u0 Q1 R1 : Nat) (t2 t8 t9 t10 t14 t15 t16 t17 t18 : Int) (w' : World) : Prop :=
  w' = w ∧ t2 = (Y : Int) ∧ t8 = (s : Int) ∧ t9 = (y1 : Int) ∧ t10 = (y0 : Int) ∧ t14 = (u0 : Int) ∧ t15 = (Q1 : Int) ∧ t17 = (R1 : Int) ∧ ∃ q r : Nat, t18 = (q : Int) ∧ t16 = (r : Int) ∧ Guess R1 u0 Y y1 y0 q r ∧ r < 4294967296 ∧ q ≤ 4294967297
theorem guess_wrap {U y1 : Nat} (hU : U < B64) (h1 : 0 < y1) : IntKind.u64.wrap ((U : Int) - IntKind.u64.wrap (((U / y1 : Nat) : Int) * (y1 : Int))) = ((U - U / y1 * y1 : Nat) : Int) ∧ U - U / y1 * y1 < y1 := by
  have hB := B64v
  have hd := Nat.div_mul_le_self U y1
  have h2 := Nat.div_add_mod U y1
  have h3 := Nat.mod_lt U h1
  have h4 : y1 * (U / y1) = U / y1 * y1 := Nat.mul_comm _ _
  have e : ((U / y1 : Nat) : Int) * (y1 : Int) = ((U / y1 * y1 : Nat) : Int) := by push_cast; rfl
  rw [e]
  generalize U / y1 * y1 = A at *
  refine ⟨?_, by omega⟩
  rw [wrap_u64' (x := (A : Int)) (by omega) (by omega), wrap_u64' (by omega) (by omega)]
  omega
theorem exit1 {w : World} {Y s y1 y0 u0 Q1 R1 : Nat} (eY : Y = y1 * 4294967296 + y0) (hy1lo : 2147483648 ≤ y1) (hy1hi : y1 < 4294967296) (hy0lt : y0 < 4294967296) (hu0lt : u0 < 4294967296) (hR : R1 < Y) :
    semI pr .u64 (binOp .quo tU64 (.int .u64 (R1 : Int)) (.int .u64 (y1 : Int))) w fun x9 w8 => J2r w Y s y1 y0 u0 Q1 R1 Y s y1 y0 u0 Q1 (IntKind.u64.wrap ((R1 : Int) - IntKind.u64.wrap (x9 * (y1 : Int)))) R1 x9 w8 := by
  have hB := B64v
  obtain ⟨k1, k2, k3⟩ := Guess.first (u := u0) eY hy1lo hy0lt hu0lt hR
  obtain ⟨e6, hm⟩ := guess_wrap (U := R1) (y1 := y1) (by omega) (by omega)
  refine semQuo (by omega) (by omega) ?_
  rw [e6]
  exact ⟨rfl, rfl, rfl, rfl, rfl, rfl, rfl, rfl, _, _, rfl, rfl, k1, by omega, k2⟩


theorem Div64_spec {w : World} {hi lo y : Nat} (hh : hi < y) (hl : lo < B64) (hy : y < B64) :
    Calls pr bits_Div64_id #[.int .u64 (hi : Int), .int .u64 (lo : Int), .int .u64 (y : Int)] w fun e w' => Ahead w w' ∧ e = .returned (.tuple #[.int .u64 (((hi * B64 + lo) / y : Nat) : Int), .int .u64 (((hi * B64 + lo) % y : Nat) : Int)]) := by
  have hB := B64v
  obtain ⟨s, hs⟩ : ∃ s, s = 64 - bl y := ⟨_, rfl⟩
  have hbl : bl y ≤ 64 := bl_le_iff.2 hy
  have hbp : 0 < bl y := bl_pos (by omega)
  obtain ⟨Y, hY⟩ : ∃ Y, Y = y * 2 ^ s := ⟨_, rfl⟩
  obtain ⟨M, hM⟩ : ∃ M, M = (hi * B64 + lo) * 2 ^ s := ⟨_, rfl⟩
  have hp : 0 < 2 ^ s := Nat.pow_pos (by omega)
  have hYlo : 9223372036854775808 ≤ Y := by
    have h1 : 2 ^ (bl y - 1) ≤ y := by
      rcases Nat.lt_or_ge y (2 ^ (bl y - 1)) with h | h
      · have := bl_le h; omega
      · exact h
    have h2 : (2 : Nat) ^ (bl y - 1) * 2 ^ s = 9223372036854775808 := by rw [← Nat.pow_add, show bl y - 1 + s = 63 by omega]
    rw [hY, ← h2]
    exact Nat.mul_le_mul_right _ h1
  have hYhi : Y < 18446744073709551616 := by
    have h1 := bl_le_iff.1 (Nat.le_refl (bl y))
    have h2 : (2 : Nat) ^ bl y * 2 ^ s = 18446744073709551616 := by rw [← Nat.pow_add, show bl y + s = 64 by omega]
    rw [hY, ← h2]
    exact Nat.mul_lt_mul_of_pos_right h1 hp
  -- the parts
  obtain ⟨y1, hy1⟩ : ∃ y1, y1 = Y / 4294967296 := ⟨_, rfl⟩
  obtain ⟨y0, hy0⟩ : ∃ y0, y0 = Y % 4294967296 := ⟨_, rfl⟩
  obtain ⟨U, hU⟩ : ∃ U, U = M / 18446744073709551616 := ⟨_, rfl⟩
  obtain ⟨L, hL⟩ : ∃ L, L = M % 18446744073709551616 := ⟨_, rfl⟩
  obtain ⟨u1, hu1⟩ : ∃ u1, u1 = L / 4294967296 := ⟨_, rfl⟩
  obtain ⟨u0, hu0⟩ : ∃ u0, u0 = L % 4294967296 := ⟨_, rfl⟩
  have eY : Y = y1 * 4294967296 + y0 := by omega
  have hUY : U < Y := by
    rw [hU, Nat.div_lt_iff_lt_mul (by omega), hM, hY, Nat.mul_right_comm]
    refine Nat.mul_lt_mul_of_pos_right ?_ hp
    rw [← hB]
    calc hi * B64 + lo < hi * B64 + B64 := by omega
      _ = (hi + 1) * B64 := by rw [Nat.succ_mul]
      _ ≤ y * B64 := Nat.mul_le_mul_right _ hh
  have hu1lt : u1 < 4294967296 := by omega
  have hu0lt : u0 < 4294967296 := by omega
  have hy0lt : y0 < 4294967296 := by omega
  have hy1lo : 2147483648 ≤ y1 := by omega
  have hy1hi : y1 < 4294967296 := by omega
  obtain ⟨Q1, hQ1⟩ : ∃ Q1, Q1 = (U * 4294967296 + u1) / Y := ⟨_, rfl⟩
  obtain ⟨R1, hR1⟩ : ∃ R1, R1 = (U * 4294967296 + u1) % Y := ⟨_, rfl⟩
  have hR1lt : R1 < Y := by rw [hR1]; exact Nat.mod_lt _ (by omega)
  have hQ1lt := quot_lt hu1lt hUY
  rw [← hQ1] at hQ1lt
  obtain ⟨Q0, hQ0⟩ : ∃ Q0, Q0 = (R1 * 4294967296 + u0) / Y := ⟨_, rfl⟩
  have hQ0lt := quot_lt hu0lt hR1lt
  rw [← hQ0] at hQ0lt
  have eM : M = (U * 4294967296 + u1) * 4294967296 + u0 := by omega
  have hq : (hi * B64 + lo) / y = Q1 * 4294967296 + Q0 := by
    have e1 : (hi * B64 + lo) / y = M / Y := by rw [hM, hY, Nat.mul_div_mul_right _ _ hp]
    have d1 := Nat.div_add_mod (U * 4294967296 + u1) Y
    have d0 := Nat.div_add_mod (R1 * 4294967296 + u0) Y
    rw [← hQ1, ← hR1] at d1
    have m0 := Nat.mod_lt (R1 * 4294967296 + u0) (show Y > 0 by omega)
    rw [← hQ0] at d0
    rw [e1]
    refine Nat.div_eq_of_lt_le ?_ ?_
    · rw [eM, ← d1, Nat.add_mul, Nat.add_mul, Nat.mul_comm Y Q1] 
      have : Q1 * 4294967296 * Y = Q1 * Y * 4294967296 := Nat.mul_right_comm _ _ _
      have e3 : Y * Q0 = Q0 * Y := Nat.mul_comm _ _
      omega
    · rw [eM, ← d1, Nat.add_mul, Nat.succ_mul, Nat.add_mul, Nat.mul_comm Y Q1]
      have : Q1 * 4294967296 * Y = Q1 * Y * 4294967296 := Nat.mul_right_comm _ _ _
      have e3 : Y * Q0 = Q0 * Y := Nat.mul_comm _ _
      omega
  have hr : (R1 * 4294967296 + u0) % Y / 2 ^ s = (hi * B64 + lo) % y := by
    have e2 : (R1 * 4294967296 + u0) % Y = M % Y := by
      rw [eM, hR1]
      have d1 := Nat.div_add_mod (U * 4294967296 + u1) Y
      rw [← hQ1] at d1
      conv => rhs; rw [← d1, Nat.add_mul, Nat.mul_assoc, Nat.add_assoc, Nat.mul_add_mod]
    rw [e2, hM, hY, Nat.mul_mod_mul_right, Nat.mul_div_cancel _ hp]
  refine bits_Div64_vc hi lo y w _ (J0r w Y s y1 y0 U u1 u0) (fun _ _ _ _ _ _ _ t15 _ _ => t15.toNat) (J2r w Y s y1 y0 u0 Q1 R1)
    (fun _ _ _ _ _ _ _ _ t18 _ => t18.toNat) ?_ ?_ ?_
  · refine br_false (by simp; omega) (br_false (by simp; omega) (br_intro (fun h0 => ?_) (fun h0 => ?_)))
    · have h0' : hi = 0 := by simpa using h0
      refine fixQuo hl (by omega) (fixRem hl (by omega) fun w1 ha => ⟨ha, ?_⟩)
      rw [h0', Nat.zero_mul, Nat.zero_add]
    · have hlz := Try.bits_LeadingZeros64 (y : Int) w (by omega) (by omega)
      refine Calls.mono hlz ?_
      rintro e w1 ⟨rfl, rfl⟩
      have e3 : (64 : Int) - (Lib.bitLen ((y : Int)).toNat : Int) = (s : Int) := by
        rw [Int.toNat_natCast, bitLen_eq hy]; omega
      rw [e3]
      have e4 : IntKind.u64.wrap (s : Int) = (s : Int) := wrap_u64' (by omega) (by omega)
      have e5 : IntKind.u64.wrap (64 - (s : Int)) = ((64 - s : Nat) : Int) := by rw [wrap_u64' (by omega) (by omega)]; omega
      refine ⟨_, rfl, ?_⟩
      rw [e4, e5]
      refine semShl (by omega) (semShl (by omega) (semShr (by omega) (semShl (by omega) ?_)))
      have f1 : y * 2 ^ s % B64 = Y := by rw [← hY]; exact Nat.mod_eq_of_lt (by omega)
      have hhi : hi * 2 ^ s < B64 := by
        have : hi * 2 ^ s < y * 2 ^ s := Nat.mul_lt_mul_of_pos_right hh hp
        omega
      have eM2 : M = hi * 2 ^ s * 18446744073709551616 + lo * 2 ^ s := by rw [hM, Nat.add_mul, hB, Nat.mul_right_comm]
      have hlo2 : lo * 2 ^ s / 18446744073709551616 = lo / 2 ^ (64 - s) := by
        rw [show (18446744073709551616 : Nat) = 2 ^ (64 - s) * 2 ^ s by rw [← Nat.pow_add, show 64 - s + s = 64 by omega], Nat.mul_div_mul_right _ _ hp]
      have hlos : lo / 2 ^ (64 - s) < 2 ^ s := by
        rw [Nat.div_lt_iff_lt_mul (Nat.pow_pos (by omega)), ← Nat.pow_add, show s + (64 - s) = 64 by omega]
        omega
      have f2 : (hi * 2 ^ s % B64) ||| (lo / 2 ^ (64 - s)) = U := by
        rw [Nat.mod_eq_of_lt hhi, Nat.mul_comm, ← Nat.two_pow_add_eq_or_of_lt hlos, hU, eM2]
        rw [Nat.mul_comm (hi * 2 ^ s), Nat.mul_add_div (by omega), hlo2, Nat.mul_comm]
      have f3 : lo * 2 ^ s % B64 = L := by rw [hL, eM2, Nat.mul_comm (hi * 2 ^ s), Nat.mul_add_mod, hB]
      have hlo3 : lo / 2 ^ (64 - s) < B64 := Nat.lt_of_le_of_lt (Nat.div_le_self _ _) hl
      rw [f1, orI_nat (Nat.mod_lt _ (by omega)) hlo3, f2, f3, show (4294967295 : Int) = ((4294967295 : Nat) : Int) from rfl, andI_nat (by omega) (by omega), andI_nat (by omega) (by omega)]
      have g1 : ∀ x : Nat, Int.fdiv (x : Int) (2 ^ (32 : Nat)) = ((x / 4294967296 : Nat) : Int) := fun x => by
        have := fdivN x 32
        exact this
      have g2 : ∀ x : Nat, x &&& 4294967295 = x % 4294967296 := fun x => Nat.and_two_pow_sub_one_eq_mod x 32
      rw [g1, g1, g2, g2, ← hy1, ← hu1, ← hy0, ← hu0]
      obtain ⟨k1, k2, k3⟩ := Guess.first (u := u1) eY hy1lo hy0lt hu1lt hUY
      obtain ⟨e6, hm⟩ := guess_wrap (U := U) (y1 := y1) (by omega) (by omega)
      refine semQuo (by omega) (by omega) ?_
      rw [e6]
      exact ⟨rfl, rfl, rfl, rfl, rfl, rfl, rfl, rfl, _, _, rfl, rfl, k1, by omega, k2⟩
  · rintro t2 t8 t9 t10 t11 t13 t14 t15 t16 w' ⟨rfl, rfl, rfl, rfl, rfl, rfl, rfl, rfl, q, r, rfl, rfl, hg, hr', hqm⟩
    have out : ∀ {t : Int}, t = (Q1 : Int) → IntKind.u64.wrap (IntKind.u64.wrap (IntKind.u64.wrap ((U : Int) * 4294967296) + (u1 : Int)) - IntKind.u64.wrap (t * (Y : Int))) = (R1 : Int) := by
      rintro t rfl
      rw [rest_wrap (by omega) (by omega) hQ1, hR1]
    have e2 : IntKind.u64.wrap ((r : Int) + (y1 : Int)) = ((r + y1 : Nat) : Int) := by rw [wrap_u64' (by omega) (by omega)]; omega
    have dec : Q1 < q → br (decide (IntKind.u64.wrap ((r : Int) + (y1 : Int)) ≥ 4294967296))
        (semI pr .u64 (binOp .quo tU64 (.int .u64 (IntKind.u64.wrap (IntKind.u64.wrap (IntKind.u64.wrap ((U : Int) * 4294967296) + (u1 : Int)) - IntKind.u64.wrap (IntKind.u64.wrap ((q : Int) - 1) * (Y : Int))))) (.int .u64 (y1 : Int))) w' fun x9 w8 =>
          J2r w' Y s y1 y0 u0 Q1 R1 Y s y1 y0 u0 (IntKind.u64.wrap ((q : Int) - 1)) (IntKind.u64.wrap (IntKind.u64.wrap (IntKind.u64.wrap (IntKind.u64.wrap ((U : Int) * 4294967296) + (u1 : Int)) - IntKind.u64.wrap (IntKind.u64.wrap ((q : Int) - 1) * (Y : Int))) - IntKind.u64.wrap (x9 * (y1 : Int))))
            (IntKind.u64.wrap (IntKind.u64.wrap (IntKind.u64.wrap ((U : Int) * 4294967296) + (u1 : Int)) - IntKind.u64.wrap (IntKind.u64.wrap ((q : Int) - 1) * (Y : Int)))) x9 w8)
        (J0r w' Y s y1 y0 U u1 u0 Y s y1 y0 U u1 u0 (IntKind.u64.wrap ((q : Int) - 1)) (IntKind.u64.wrap ((r : Int) + (y1 : Int))) w' ∧ (IntKind.u64.wrap ((q : Int) - 1)).toNat < ((q : Int)).toNat) := by
      intro hlt
      have hg' := hg.less (by omega) (by omega)
      have e1 : IntKind.u64.wrap ((q : Int) - 1) = ((q - 1 : Nat) : Int) := by rw [wrap_u64' (by omega) (by omega)]; omega
      refine br_intro (fun h => ?_) (fun h => ?_)
      · rw [e2] at h
        have hf := hg'.done (by omega) (hg'.far eY hy0lt (by omega) (by simp at h; omega))
        rw [out (by rw [e1]; omega), e1, show q - 1 = Q1 by omega]
        exact exit1 eY hy1lo hy1hi hy0lt hu0lt hR1lt
      · rw [e2] at h ⊢
        rw [e1]
        exact ⟨⟨rfl, rfl, rfl, rfl, rfl, rfl, rfl, rfl, _, _, rfl, rfl, hg', by simp at h; omega, by omega⟩, by omega⟩
    refine br_intro (fun h1 => dec (by simp at h1; omega)) (fun h1 => ?_)
    have h1' : q < 4294967296 := by simp at h1; omega
    have m1 : q * y0 ≤ 4294967295 * 4294967295 := Nat.mul_le_mul (by omega) (by omega)
    have e3 : IntKind.u64.wrap ((q : Int) * (y0 : Int)) = ((q * y0 : Nat) : Int) := by
      have e : (q : Int) * (y0 : Int) = ((q * y0 : Nat) : Int) := by push_cast; rfl
      rw [e, wrap_u64' (by omega) (by omega)]
    have e4 : IntKind.u64.wrap (IntKind.u64.wrap (4294967296 * (r : Int)) + (u1 : Int)) = ((4294967296 * r + u1 : Nat) : Int) := by
      rw [wrap_u64' (x := 4294967296 * (r : Int)) (by omega) (by omega), wrap_u64' (by omega) (by omega)]; omega
    rw [e3, e4]
    have ho := hg.over eY
    refine br_intro (fun h2 => dec ?_) (fun h2 => ?_)
    · have := ho.1 (by simp at h2; omega)
      rw [hQ1, Nat.div_lt_iff_lt_mul (by omega)]
      exact this
    · have hle : q * Y ≤ U * 4294967296 + u1 := by
        rcases Nat.lt_or_ge (U * 4294967296 + u1) (q * Y) with h | h
        · have := ho.2 h; simp at h2; omega
        · exact h
      have hf := hg.done (by omega) hle
      rw [out (by omega), show q = Q1 by omega]
      exact exit1 eY hy1lo hy1hi hy0lt hu0lt hR1lt
  · rintro t2 t8 t9 t10 t14 t15 t16 t17 t18 w' ⟨rfl, rfl, rfl, rfl, rfl, rfl, rfl, rfl, q, r, rfl, rfl, hg, hr', hqm⟩
    have out : ∀ {t : Int}, t = (Q0 : Int) → IntKind.u64.wrap (IntKind.u64.wrap (IntKind.u64.wrap ((R1 : Int) * 4294967296) + (u0 : Int)) - IntKind.u64.wrap (t * (Y : Int))) = (((R1 * 4294967296 + u0) % Y : Nat) : Int) := by
      rintro t rfl
      rw [rest_wrap (by omega) (by omega) hQ0]
    have e2 : IntKind.u64.wrap ((r : Int) + (y1 : Int)) = ((r + y1 : Nat) : Int) := by rw [wrap_u64' (by omega) (by omega)]; omega
    have eq : IntKind.u64.wrap (IntKind.u64.wrap ((Q1 : Int) * 4294967296) + (Q0 : Int)) = (((hi * B64 + lo) / y : Nat) : Int) := by
      rw [hq, wrap_u64' (x := (Q1 : Int) * 4294967296) (by omega) (by omega), wrap_u64' (by omega) (by omega)]; omega
    have fin : semI pr .u64 (binOp .shr tU64 (.int .u64 (((R1 * 4294967296 + u0) % Y : Nat) : Int)) (.int .u64 (s : Int))) w' fun x10 w9 =>
        Ahead w' w9 ∧ Ending.returned (.tuple #[.int .u64 (((hi * B64 + lo) / y : Nat) : Int), .int .u64 x10]) = .returned (.tuple #[.int .u64 (((hi * B64 + lo) / y : Nat) : Int), .int .u64 (((hi * B64 + lo) % y : Nat) : Int)]) := by
      refine semShr (by omega) ⟨Ahead.refl _, ?_⟩
      rw [hr]
    have dec : Q0 < q → br (decide (IntKind.u64.wrap ((r : Int) + (y1 : Int)) ≥ 4294967296))
        (semI pr .u64 (binOp .shr tU64 (.int .u64 (IntKind.u64.wrap (IntKind.u64.wrap (IntKind.u64.wrap ((R1 : Int) * 4294967296) + (u0 : Int)) - IntKind.u64.wrap (IntKind.u64.wrap ((q : Int) - 1) * (Y : Int))))) (.int .u64 (s : Int))) w' fun x10 w9 =>
          Ahead w' w9 ∧ Ending.returned (.tuple #[.int .u64 (IntKind.u64.wrap (IntKind.u64.wrap ((Q1 : Int) * 4294967296) + IntKind.u64.wrap ((q : Int) - 1))), .int .u64 x10]) = .returned (.tuple #[.int .u64 (((hi * B64 + lo) / y : Nat) : Int), .int .u64 (((hi * B64 + lo) % y : Nat) : Int)]))
        (J2r w' Y s y1 y0 u0 Q1 R1 Y s y1 y0 u0 Q1 (IntKind.u64.wrap ((r : Int) + (y1 : Int))) R1 (IntKind.u64.wrap ((q : Int) - 1)) w' ∧ (IntKind.u64.wrap ((q : Int) - 1)).toNat < ((q : Int)).toNat) := by
      intro hlt
      have hg' := hg.less (by omega) (by omega)
      have e1 : IntKind.u64.wrap ((q : Int) - 1) = ((q - 1 : Nat) : Int) := by rw [wrap_u64' (by omega) (by omega)]; omega
      refine br_intro (fun h => ?_) (fun h => ?_)
      · rw [e2] at h
        have hf := hg'.done (by omega) (hg'.far eY hy0lt (by omega) (by simp at h; omega))
        rw [out (by rw [e1]; omega), e1, show q - 1 = Q0 by omega, eq]
        exact fin
      · rw [e2] at h ⊢
        rw [e1]
        exact ⟨⟨rfl, rfl, rfl, rfl, rfl, rfl, rfl, rfl, _, _, rfl, rfl, hg', by simp at h; omega, by omega⟩, by omega⟩
    refine br_intro (fun h1 => dec (by simp at h1; omega)) (fun h1 => ?_)
    have h1' : q < 4294967296 := by simp at h1; omega
    have m1 : q * y0 ≤ 4294967295 * 4294967295 := Nat.mul_le_mul (by omega) (by omega)
    have e3 : IntKind.u64.wrap ((q : Int) * (y0 : Int)) = ((q * y0 : Nat) : Int) := by
      have e : (q : Int) * (y0 : Int) = ((q * y0 : Nat) : Int) := by push_cast; rfl
      rw [e, wrap_u64' (by omega) (by omega)]
    have e4 : IntKind.u64.wrap (IntKind.u64.wrap (4294967296 * (r : Int)) + (u0 : Int)) = ((4294967296 * r + u0 : Nat) : Int) := by
      rw [wrap_u64' (x := 4294967296 * (r : Int)) (by omega) (by omega), wrap_u64' (by omega) (by omega)]; omega
    rw [e3, e4]
    have ho := hg.over eY
    refine br_intro (fun h2 => dec ?_) (fun h2 => ?_)
    · have := ho.1 (by simp at h2; omega)
      rw [hQ0, Nat.div_lt_iff_lt_mul (by omega)]
      exact this
    · have hle : q * Y ≤ R1 * 4294967296 + u0 := by
        rcases Nat.lt_or_ge (R1 * 4294967296 + u0) (q * Y) with h | h
        · have := ho.2 h; simp at h2; omega
        · exact h
      have hf := hg.done (by omega) hle
      rw [out (by omega), show q = Q0 by omega, eq]
      exact fin

end Nat
end Go.Proofs.Ytaflfjbhlgbmdaa
