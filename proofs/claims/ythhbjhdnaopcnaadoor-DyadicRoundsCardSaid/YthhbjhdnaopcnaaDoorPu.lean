/- Plain laws on digits: a number's digits one by one, shifts. No condition. -/
import Derived.Test.YthhbjhdnaopcnaaDoorNm
namespace Go.Proofs.YthhbjhdnaopcnaaDoor
open Dg
set_option linter.unusedVariables false
set_option linter.unusedSimpArgs false
namespace Dg
/-- Setting a digit. -/
theorem val_set {B : Nat} (l : List Nat) (i x : Nat) (h : i < l.length) : val B (l.set i x) + B ^ i * l.getD i 0 = val B l + B ^ i * x := by
  rw [val_split3 l i h, val_split3 (l.set i x) i (by simpa using h), take_set_self, getD_set _ _ _ _ h, if_pos rfl]
  have : (l.set i x).drop (i + 1) = l.drop (i + 1) := by rw [List.drop_set_of_lt (by omega)]
  rw [this]
  simp only [Nat.mul_add]
  omega
theorem digit_le {B : Nat} (l : List Nat) (i : Nat) (h : i < l.length) : B ^ i * l.getD i 0 ≤ val B l := by
  rw [val_split3 l i h, Nat.mul_add]; omega
theorem or_add {x a s : Nat} (h : x < 2 ^ s) : x ||| 2 ^ s * a = x + 2 ^ s * a := by
  rw [Nat.or_comm, ← Nat.two_pow_add_eq_or_of_lt h, Nat.add_comm]
theorem bl_len {l : List Nat} (h : ok B64 l) : bl (val B64 l) ≤ 64 * l.length := bl_le (by rw [← b64_pow]; exact val_lt h)
theorem digit {B : Nat} (hB : 0 < B) : ∀ (l : List Nat), ok B l → ∀ i, l.getD i 0 = val B l / B ^ i % B
  | [], _, i => by simp [val]
  | x :: l, h, 0 => by
    have := (ok_cons.1 h).1
    simp [val, Nat.add_mul_mod_self_left, Nat.mod_eq_of_lt this]
  | x :: l, h, i + 1 => by
    have hx := (ok_cons.1 h).1
    have := digit hB l (ok_cons.1 h).2 i
    rw [List.getD_cons_succ, this]
    have e : val B (x :: l) = x + B * val B l := rfl
    rw [e, Nat.pow_succ', ← Nat.div_div_eq_div_mul, Nat.add_mul_div_left _ _ hB, Nat.div_eq_of_lt hx, Nat.zero_add]
theorem val_of_digits {B : Nat} (hB : 0 < B) : ∀ (l : List Nat) (N : Nat), N < B ^ l.length → (∀ i, i < l.length → l.getD i 0 = N / B ^ i % B) → val B l = N
  | [], N, h, _ => by simp at h; subst h; rfl
  | x :: l, N, h, hd => by
    have h0 := hd 0 (by simp)
    simp at h0
    have ih := val_of_digits hB l (N / B) (by
      rw [List.length_cons, Nat.pow_succ] at h
      exact (Nat.div_lt_iff_lt_mul hB).2 h) fun i hi => by
        have := hd (i + 1) (by simpa using hi)
        rw [List.getD_cons_succ, Nat.pow_succ', ← Nat.div_div_eq_div_mul] at this
        exact this
    have e : val B (x :: l) = x + B * val B l := rfl
    rw [e, ih, h0]
    exact Nat.mod_add_div N B
theorem drop_val {B : Nat} (hB : 0 < B) {l : List Nat} (h : ok B l) (m : Nat) : val B (l.drop m) = val B l / B ^ m := by
  rcases Nat.lt_or_ge l.length m with hm | hm
  · rw [List.drop_of_length_le (by omega), Nat.div_eq_of_lt]
    · rfl
    · exact Nat.lt_of_lt_of_le (val_lt h) (Nat.pow_le_pow_right hB (by omega))
  · have hlt : val B (l.take m) < B ^ m := by
      have := val_lt (ok_take h m)
      rw [List.length_take, Nat.min_eq_left hm] at this
      exact this
    rw [val_take_drop l m hm, Nat.add_mul_div_left _ _ (Nat.pow_pos hB), Nat.div_eq_of_lt hlt, Nat.zero_add]
theorem take_val {B : Nat} (hB : 0 < B) {l : List Nat} (h : ok B l) (m : Nat) : val B (l.take m) = val B l % B ^ m := by
  rcases Nat.lt_or_ge l.length m with hm | hm
  · rw [List.take_of_length_le (by omega), Nat.mod_eq_of_lt]
    exact Nat.lt_of_lt_of_le (val_lt h) (Nat.pow_le_pow_right hB (by omega))
  · have hlt : val B (l.take m) < B ^ m := by
      have := val_lt (ok_take h m)
      rw [List.length_take, Nat.min_eq_left hm] at this
      exact this
    rw [val_take_drop l m hm, Nat.add_mul_mod_self_left, Nat.mod_eq_of_lt hlt]

/-- 2^(kw + s), w the digits' width. -/
theorem pow_split (n w : Nat) : 2 ^ n = (2 ^ w) ^ (n / w) * 2 ^ (n % w) := by
  rw [← Nat.pow_mul, ← Nat.pow_add, Nat.div_add_mod]

/-- A product's digit: low part and high part of x * 2^s. -/
theorem shl_lo (x s w : Nat) (hs : s ≤ w) : x * 2 ^ s % 2 ^ w = 2 ^ s * (x % 2 ^ (w - s)) := by
  have : 2 ^ w = 2 ^ s * 2 ^ (w - s) := by rw [← Nat.pow_add]; congr 1; omega
  rw [this, Nat.mul_comm x, Nat.mul_mod_mul_left]
theorem shl_hi (x s w : Nat) (hs : s ≤ w) : x * 2 ^ s / 2 ^ w = x / 2 ^ (w - s) := by
  have : 2 ^ w = 2 ^ (w - s) * 2 ^ s := by rw [← Nat.pow_add]; congr 1; omega
  rw [this, Nat.mul_div_mul_right _ _ (Nat.pow_pos (by omega))]

/-- One round of a shift to the left, in a base 2^w: what stands at k is below 2^s, what stands at k + 1 is 0. -/
theorem left_facts {w : Nat} {l A : List Nat} {j wd s : Nat} (hs : s < w) (hl : wd + j + 1 < l.length) (hA : ok (2 ^ w) A) (hj : j < A.length) (hv : val (2 ^ w) l = val (2 ^ w) (A.take j) * ((2 ^ w) ^ wd * 2 ^ s)) :
    l.getD (wd + j) 0 < 2 ^ s ∧ l.getD (wd + j + 1) 0 = 0 := by
  have hB : 0 < 2 ^ w := Nat.pow_pos (by omega)
  have hlt : val (2 ^ w) (A.take j) < (2 ^ w) ^ j := by
    have := val_lt (ok_take hA j)
    rw [List.length_take, Nat.min_eq_left (by omega)] at this
    exact this
  have hV : val (2 ^ w) l < (2 ^ w) ^ (wd + j) * 2 ^ s := by
    rw [hv, Nat.pow_add, show (2 ^ w) ^ wd * (2 ^ w) ^ j * 2 ^ s = (2 ^ w) ^ j * ((2 ^ w) ^ wd * 2 ^ s) by ac_rfl]
    exact Nat.mul_lt_mul_of_pos_right hlt (Nat.mul_pos (Nat.pow_pos hB) (Nat.pow_pos (by omega)))
  constructor
  · have := digit_le (B := 2 ^ w) l (wd + j) (by omega)
    exact Nat.lt_of_mul_lt_mul_left (Nat.lt_of_le_of_lt this hV)
  · have := digit_le (B := 2 ^ w) l (wd + j + 1) (by omega)
    have h2 : (2 ^ w) ^ (wd + j) * 2 ^ s ≤ (2 ^ w) ^ (wd + j + 1) * 1 := by
      rw [Nat.pow_succ, Nat.mul_one]
      exact Nat.mul_le_mul_left _ (Nat.pow_le_pow_right (by omega) (by omega))
    have h3 := Nat.lt_of_mul_lt_mul_left (Nat.lt_of_le_of_lt this (Nat.lt_of_lt_of_le hV h2))
    omega
theorem left_step {w : Nat} {l A : List Nat} {j wd s lo hi : Nat} (hs : s < w) (hl : wd + j + 1 < l.length) (hA : ok (2 ^ w) A) (hj : j < A.length) (hv : val (2 ^ w) l = val (2 ^ w) (A.take j) * ((2 ^ w) ^ wd * 2 ^ s))
    (hlo : lo = l.getD (wd + j) 0 + A.getD j 0 * 2 ^ s % 2 ^ w) (hhi : hi = A.getD j 0 * 2 ^ s / 2 ^ w) :
    val (2 ^ w) ((l.set (wd + j) lo).set (wd + j + 1) hi) = val (2 ^ w) (A.take (j + 1)) * ((2 ^ w) ^ wd * 2 ^ s) := by
  obtain ⟨h3, h5⟩ := left_facts hs hl hA hj hv
  have v1 := val_set (B := 2 ^ w) l (wd + j) lo (by omega)
  have v2 := val_set (B := 2 ^ w) (l.set (wd + j) lo) (wd + j + 1) hi (by simpa using hl)
  rw [getD_set _ _ _ _ (by omega), if_neg (by omega), h5, Nat.mul_zero, Nat.add_zero] at v2
  rw [v2, val_take_succ', Nat.add_mul, ← hv]
  rw [hlo, Nat.mul_add] at v1
  have v1' : val (2 ^ w) (l.set (wd + j) lo) = val (2 ^ w) l + (2 ^ w) ^ (wd + j) * (A.getD j 0 * 2 ^ s % 2 ^ w) := by rw [hlo]; omega
  rw [v1', Nat.add_assoc]
  congr 1
  rw [hhi, Nat.pow_succ, Nat.mul_assoc, ← Nat.mul_add, Nat.mod_add_div, Nat.pow_add]
  ac_rfl

/-- One digit of what is shifted to the right, in a base 2^w. -/
theorem right_digit (V w m s : Nat) (hs : s < w) : V / ((2 ^ w) ^ m * 2 ^ s) % 2 ^ w = V / (2 ^ w) ^ m % 2 ^ w / 2 ^ s + 2 ^ (w - s) * (V / (2 ^ w) ^ (m + 1) % 2 ^ s) := by
  rw [← Nat.div_div_eq_div_mul, Nat.pow_succ, ← Nat.div_div_eq_div_mul]
  generalize V / (2 ^ w) ^ m = U
  have e : 2 ^ w = 2 ^ s * 2 ^ (w - s) := by rw [← Nat.pow_add]; congr 1; omega
  have h1 : U = U % 2 ^ w + 2 ^ w * (U / 2 ^ w) := (Nat.mod_add_div _ _).symm
  have h2 : U / 2 ^ s = U % 2 ^ w / 2 ^ s + 2 ^ (w - s) * (U / 2 ^ w) := by
    conv => lhs; rw [h1]
    conv => lhs; rw [show 2 ^ w * (U / 2 ^ w) = 2 ^ s * (2 ^ (w - s) * (U / 2 ^ w)) by rw [← Nat.mul_assoc, ← e]]
    rw [Nat.add_mul_div_left _ _ (Nat.pow_pos (by omega))]
  have hlt : U % 2 ^ w / 2 ^ s < 2 ^ (w - s) := by
    rw [Nat.div_lt_iff_lt_mul (Nat.pow_pos (by omega)), Nat.mul_comm, ← e]
    exact Nat.mod_lt _ (Nat.pow_pos (by omega))
  have e2 : 2 ^ w = 2 ^ (w - s) * 2 ^ s := by rw [← Nat.pow_add]; congr 1; omega
  rw [h2]
  clear h2 h1 e
  rw [e2] at hlt ⊢
  generalize U % (2 ^ (w - s) * 2 ^ s) / 2 ^ s = r at *
  generalize U / (2 ^ (w - s) * 2 ^ s) = q at *
  have hq : 2 ^ (w - s) * q = 2 ^ (w - s) * (q % 2 ^ s) + 2 ^ (w - s) * 2 ^ s * (q / 2 ^ s) := by
    conv => lhs; rw [← Nat.mod_add_div q (2 ^ s)]
    rw [Nat.mul_add, Nat.mul_assoc]
  rw [hq, ← Nat.add_assoc, Nat.add_mul_mod_self_left]
  apply Nat.mod_eq_of_lt
  have hm : q % 2 ^ s + 1 ≤ 2 ^ s := Nat.mod_lt _ (Nat.pow_pos (by omega))
  have := Nat.mul_le_mul_left (2 ^ (w - s)) hm
  rw [Nat.mul_add] at this
  omega
theorem div_pow_add (V w m i s : Nat) : V / ((2 ^ w) ^ m * 2 ^ s) / (2 ^ w) ^ i = V / ((2 ^ w) ^ (m + i) * 2 ^ s) := by
  rw [Nat.div_div_eq_div_mul, Nat.pow_add]
  congr 1; ac_rfl
end Dg
end Go.Proofs.YthhbjhdnaopcnaaDoor
