/- How often 2 divides a number; math/bits.TrailingZeros64 and nat.Tail. No condition: the library's table is a premise. -/
import Derived.Test.YthhbjhdnaopcnaaDoorSb
import Derived.Test.YthhbjhdnaopcnaaDoorVcDy
import Derived.Test.YthhbjhdnaopcnaaDoorTzL
namespace Go.Proofs.YthhbjhdnaopcnaaDoor
open Go Go.RowKit Eng Sp Dg
set_option linter.unusedVariables false
set_option linter.unusedSimpArgs false
set_option maxRecDepth 100000
namespace Dg
/-- How often 2 divides x; 0 for x = 0. -/
def tz (x : Nat) : Nat := if x = 0 then 0 else Lib.ctzFrom (bl x) x
theorem tz_spec {x : Nat} (h : x ≠ 0) : ∃ m, x = 2 ^ tz x * (2 * m + 1) := by
  obtain ⟨m, hm, _⟩ := Lib.ctzFrom_spec (bl x) x (by omega) (lt_bl x)
  exact ⟨m, by rw [tz, if_neg h]; exact hm⟩
theorem pow_odd_inj : ∀ {a b m n : Nat}, 2 ^ a * (2 * m + 1) = 2 ^ b * (2 * n + 1) → a = b
  | 0, 0, _, _, _ => rfl
  | 0, b + 1, m, n, h => by rw [Nat.pow_succ] at h; simp at h; have : 2 ^ b * 2 * (2 * n + 1) = 2 * (2 ^ b * (2 * n + 1)) := by ac_rfl
                            omega
  | a + 1, 0, m, n, h => by rw [Nat.pow_succ] at h; simp at h; have : 2 ^ a * 2 * (2 * m + 1) = 2 * (2 ^ a * (2 * m + 1)) := by ac_rfl
                            omega
  | a + 1, b + 1, m, n, h => by
    rw [Nat.pow_succ, Nat.pow_succ] at h
    have h1 : 2 ^ a * 2 * (2 * m + 1) = 2 * (2 ^ a * (2 * m + 1)) := by ac_rfl
    have h2 : 2 ^ b * 2 * (2 * n + 1) = 2 * (2 ^ b * (2 * n + 1)) := by ac_rfl
    have := pow_odd_inj (a := a) (b := b) (m := m) (n := n) (by omega)
    omega
theorem tz_eq {x k m : Nat} (h : x = 2 ^ k * (2 * m + 1)) : tz x = k := by
  have hx : x ≠ 0 := by
    have : 0 < 2 ^ k := Nat.pow_pos (by omega)
    rw [h]; exact Nat.mul_ne_zero (by omega) (by omega)
  obtain ⟨n, hn⟩ := tz_spec hx
  exact pow_odd_inj (hn.symm.trans h)
theorem tz_zero : tz 0 = 0 := if_pos rfl
theorem tz_lt {x : Nat} (h : x ≠ 0) : tz x < bl x := by
  rw [tz, if_neg h]
  exact (Lib.ctzFrom_spec (bl x) x (by omega) (lt_bl x)).choose_spec.2
theorem tz_le (x : Nat) : tz x ≤ bl x := by
  by_cases h : x = 0
  · rw [h, tz_zero]; omega
  · exact Nat.le_of_lt (tz_lt h)
/-- The odd part. -/
def od (x : Nat) : Nat := x / 2 ^ tz x
theorem od_mul (x : Nat) : 2 ^ tz x * od x = x := by
  by_cases h : x = 0
  · subst h; simp [od]
  · obtain ⟨m, hm⟩ := tz_spec h
    exact Nat.mul_div_cancel' ⟨_, hm⟩
theorem od_odd {x : Nat} (h : x ≠ 0) : od x % 2 = 1 := by
  obtain ⟨m, hm⟩ := tz_spec h
  have : od x = 2 * m + 1 := by
    have h1 := od_mul x
    have hp : 0 < 2 ^ tz x := Nat.pow_pos (by omega)
    exact Nat.eq_of_mul_eq_mul_left hp (h1.trans hm)
  omega
theorem od_zero : od 0 = 0 := by simp [od]
theorem od_ne {x : Nat} (h : x ≠ 0) : od x ≠ 0 := fun e => by have := od_odd h; omega
theorem od_zero_iff {x : Nat} : od x = 0 ↔ x = 0 := ⟨fun h => by rcases Nat.eq_zero_or_pos x with h1 | h1; exact h1; exact absurd h (od_ne (by omega)), fun h => by rw [h, od_zero]⟩
theorem od_le (x : Nat) : od x ≤ x := Nat.div_le_self _ _
theorem tz_odd {x : Nat} (h : x % 2 = 1) : tz x = 0 := tz_eq (k := 0) (m := x / 2) (by simp; omega)
theorem od_of_odd {x : Nat} (h : x % 2 = 1) : od x = x := by rw [od, tz_odd h]; simp
theorem od_od (x : Nat) : od (od x) = od x := by
  by_cases h : x = 0
  · rw [h, od_zero, od_zero]
  · exact od_of_odd (od_odd h)
theorem tz_od (x : Nat) : tz (od x) = 0 := by
  by_cases h : x = 0
  · rw [h, od_zero, tz_zero]
  · exact tz_odd (od_odd h)
theorem tz_shl {x k : Nat} (h : x ≠ 0) : tz (x * 2 ^ k) = tz x + k := by
  obtain ⟨m, hm⟩ := tz_spec h
  refine tz_eq (m := m) ?_
  rw [Nat.pow_add]
  calc x * 2 ^ k = (2 ^ tz x * (2 * m + 1)) * 2 ^ k := by rw [← hm]
    _ = 2 ^ tz x * 2 ^ k * (2 * m + 1) := by ac_rfl
theorem od_shl {x k : Nat} : od (x * 2 ^ k) = od x := by
  by_cases h : x = 0
  · subst h; simp
  · rw [od, tz_shl h, Nat.pow_add, Nat.mul_comm (2 ^ tz x), ← Nat.div_div_eq_div_mul, Nat.mul_div_cancel _ (Nat.pow_pos (by omega))]; rfl
theorem ctz64 {x : Nat} (h0 : x ≠ 0) (h : x < 2 ^ 64) : Lib.ctz 64 x = tz x ∧ tz x < 64 := by
  obtain ⟨m, hm, hk⟩ := Lib.ctzFrom_spec 64 x (by omega) h
  have e : Lib.ctz 64 x = Lib.ctzFrom 64 x := by simp [Lib.ctz, h0]
  have e2 := tz_eq hm
  rw [e, e2]
  exact ⟨rfl, hk⟩
theorem tz_append {l : List Nat} {j : Nat} (h0 : l.take j = List.replicate j 0) (hj : j < l.length) (ol : ok B64 l) (hx : l.getD j 0 ≠ 0) : tz (val B64 l) = 64 * j + tz (l.getD j 0) ∧ val B64 l ≠ 0 := by
  have h64 : B64 = 2 ^ 64 := rfl
  have hlt := ok_getD ol (by rw [B64v]; omega) j
  rw [h64] at hlt
  obtain ⟨_, h1⟩ := ctz64 hx hlt
  obtain ⟨m, hm⟩ := tz_spec hx
  have hv := val_split3 (B := B64) l j hj
  rw [h0, val_replicate, Nat.zero_add] at hv
  have e : val B64 l = 2 ^ (64 * j + tz (l.getD j 0)) * (2 * (m + 2 ^ (63 - tz (l.getD j 0)) * val B64 (l.drop (j + 1))) + 1) := by
    rw [hv, b64_pow, Nat.pow_add, Nat.mul_assoc]
    congr 1
    generalize val B64 (l.drop (j + 1)) = r
    have h2 : B64 = 2 ^ tz (l.getD j 0) * (2 * 2 ^ (63 - tz (l.getD j 0))) := by
      rw [h64, ← Nat.pow_succ', ← Nat.pow_add]; congr 1; omega
    generalize tz (l.getD j 0) = t at *
    rw [h2, Nat.mul_assoc]
    conv => lhs; lhs; rw [hm]
    rw [← Nat.mul_add]
    congr 1
    rw [Nat.mul_add, Nat.mul_assoc]
    omega
  refine ⟨tz_eq e, ?_⟩
  rw [e]
  exact Nat.mul_ne_zero (Nat.ne_of_gt (Nat.pow_pos (by omega))) (by omega)
end Dg
namespace Dy
open _root_.Go.Proofs.YthhbjhdnaopcnaaDoor.Nat (ldN OwnNil andI_nat)

theorem fdiv_pow (x : Int) (k : Nat) : Int.fdiv x (2 ^ (k : Nat)) = x / 2 ^ k := Int.fdiv_eq_ediv_of_nonneg _ (Int.le_of_lt (Int.pow_pos (by omega)))

/-- The library's table stands as its initialiser lays it. -/
def Tab (w : World) : Prop := ∀ j, j < 64 → w.cell? ⟨0, j, none⟩ = some (.int .u8 ((Lib.deBruijn64tab.getD j 0 : Nat) : Int))
theorem Tab.ahead {w w' : World} (h : Tab w) (ha : Ahead w w') : Tab w' := fun j hj => ha.cell (h j hj)

theorem TrailingZeros64_spec {w : World} {x : Nat} (hT : Tab w) (h0 : x ≠ 0) (h : x < B64) :
    Calls pr bits_TrailingZeros64_id #[.int .u64 (x : Int)] w fun e w' => w' = w ∧ e = .returned (.int .i64 (tz x)) := by
  refine Calls.mono (tz64_laid x h w fun _ j hj => hT j (by simpa [Lib.deBruijn64tab] using hj)) ?_
  rintro e w' ⟨rfl, rfl⟩
  rw [(ctz64 h0 h).1]
  exact ⟨rfl, rfl⟩

theorem ne_of_bne {x : Nat} (h : ((x : Int) != 0) = true) : x ≠ 0 := by simpa using h
theorem eq_of_bne {x : Nat} (h : ((x : Int) != 0) = false) : x = 0 := by simpa using h

theorem Tail_spec {w : World} {s : Slc} {l : List Nat} (hT : Tab w) (h : Rd .u64 w s (nn l)) (hl : l.length ≤ 2 ^ 46) (ol : ok B64 l) :
    Calls pr nat_Tail_id #[s.v] w fun e w' => w' = w ∧ e = .returned (.int .i64 (tz (val B64 l))) := by
  have hn : s.n = l.length := by rw [h.n, nn_length]
  refine nat_Tail_vc s w _ (fun t n i w' => t = s ∧ n = (l.length : Int) ∧ w' = w ∧ ∃ j : Nat, i = (j : Int) ∧ j ≤ l.length ∧ l.take j = List.replicate j 0) (fun _ n i _ => (n - i).toNat)
    ⟨rfl, by rw [hn], rfl, 0, rfl, Nat.zero_le _, by simp⟩ ?_
  rintro t n i w1 ⟨rfl, rfl, rfl, j, rfl, hj, hz⟩
  refine br_intro (fun hlt => ?_) (fun hge => ?_)
  · have hj' : j < l.length := by simp at hlt; omega
    refine ldN h (by omega) (by omega) ?_
    rw [Int.toNat_natCast]
    have e8 : IntKind.i64.wrap ((j : Int) + 1) = ((j + 1 : Nat) : Int) := by rw [wrap_i64 (by omega) (by omega)]; omega
    refine br_intro (fun hx => ?_) (fun hx => ?_)
    · have hx0 : l.getD j 0 ≠ 0 := ne_of_bne hx
      have hlt := ok_getD ol (by rw [B64v]; omega) j
      obtain ⟨h1, _⟩ := tz_append hz hj' ol hx0
      obtain ⟨_, h2⟩ := ctz64 hx0 hlt
      refine Calls.mono (TrailingZeros64_spec hT hx0 hlt) ?_
      rintro e w2 ⟨rfl, rfl⟩
      refine ⟨_, rfl, rfl, ?_⟩
      rw [h1, wrap_i64 (x := 64 * (j : Int)) (by omega) (by omega), wrap_i64 (by omega) (by omega)]
      congr 2
    · have hx0 : l.getD j 0 = 0 := eq_of_bne hx
      refine ⟨⟨rfl, rfl, rfl, j + 1, e8, hj', ?_⟩, by rw [e8]; omega⟩
      rw [List.take_succ_eq_append_getElem hj', hz, List.replicate_succ']
      congr 2
      rw [← getD_lt l 0 hj', hx0]
  · have hj' : j = l.length := by simp at hge; omega
    subst hj'
    rw [List.take_length] at hz
    refine ⟨rfl, ?_⟩
    rw [hz, val_replicate, tz_zero]; rfl

end Dy
end Go.Proofs.YthhbjhdnaopcnaaDoor
