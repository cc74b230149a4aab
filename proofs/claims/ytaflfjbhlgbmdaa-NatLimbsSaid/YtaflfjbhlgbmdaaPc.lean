/- How many bits of a limb, of a number are 1. No condition. -/
import Derived.Test.YtaflfjbhlgbmdaaFi
import Derived.Test.YtaflfjbhlgbmdaaVcNat
namespace Go.Proofs.Ytaflfjbhlgbmdaa
open Go Go.RowKit Eng Sp Dg
set_option linter.unusedVariables false
set_option linter.unusedSimpArgs false
set_option maxRecDepth 100000
namespace Dg
def pcF : Nat → Nat → Nat
  | 0, _ => 0
  | f + 1, n => n % 2 + pcF f (n / 2)
theorem pcF_zero : ∀ f, pcF f 0 = 0
  | 0 => rfl
  | f + 1 => by simp [pcF, pcF_zero f]
theorem pcF_and_or : ∀ f x y, pcF f (x &&& y) + pcF f (x ||| y) = pcF f x + pcF f y
  | 0, _, _ => rfl
  | f + 1, x, y => by
    have ih := pcF_and_or f (x / 2) (y / 2)
    have e1 : (x &&& y) / 2 = x / 2 &&& y / 2 := by have := Nat.and_div_two_pow (a := x) (b := y) (n := 1); simpa using this
    have e2 : (x ||| y) / 2 = x / 2 ||| y / 2 := by have := Nat.or_div_two_pow (a := x) (b := y) (n := 1); simpa using this
    have e3 : (x &&& y) % 2 = (x % 2) &&& (y % 2) := by have := Nat.and_mod_two_pow (a := x) (b := y) (n := 1); simpa using this
    have e4 : (x ||| y) % 2 = (x % 2) ||| (y % 2) := by have := Nat.or_mod_two_pow (a := x) (b := y) (n := 1); simpa using this
    have e5 : ((x % 2) &&& (y % 2)) + ((x % 2) ||| (y % 2)) = x % 2 + y % 2 := by
      rcases Nat.mod_two_eq_zero_or_one x with h | h <;> rcases Nat.mod_two_eq_zero_or_one y with h' | h' <;> rw [h, h'] <;> rfl
    simp only [pcF]
    rw [e1, e2, e3, e4]
    omega
theorem pcF_split : ∀ k f n, pcF (k + f) n = pcF k (n % 2 ^ k) + pcF f (n / 2 ^ k)
  | 0, f, n => by simp [pcF]
  | k + 1, f, n => by
    rw [show k + 1 + f = (k + f) + 1 by omega]
    simp only [pcF]
    rw [pcF_split k f (n / 2)]
    have e1 : n % 2 ^ (k + 1) % 2 = n % 2 := Nat.mod_mod_of_dvd _ ⟨2 ^ k, by rw [Nat.pow_succ, Nat.mul_comm]⟩
    have e2 : n % 2 ^ (k + 1) / 2 = n / 2 % 2 ^ k := by rw [Nat.pow_succ, Nat.mul_comm, Nat.mod_mul_right_div_self]
    have e3 : n / 2 / 2 ^ k = n / 2 ^ (k + 1) := by rw [Nat.div_div_eq_div_mul, Nat.pow_succ, Nat.mul_comm]
    rw [e1, e2, e3]; omega
theorem pcF_le : ∀ f n, pcF f n ≤ f
  | 0, _ => Nat.le_refl _
  | f + 1, n => by have := pcF_le f (n / 2); simp only [pcF]; omega

theorem and_split {s a A c C : Nat} (ha : a < 2 ^ s) (hc : c < 2 ^ s) : (a + 2 ^ s * A) &&& (c + 2 ^ s * C) = (a &&& c) + 2 ^ s * (A &&& C) := by
  have hp : 0 < 2 ^ s := Nat.pow_pos (by omega)
  have hlt : a &&& c < 2 ^ s := Nat.and_lt_two_pow _ hc
  have h1 := Nat.and_mod_two_pow (a := a + 2 ^ s * A) (b := c + 2 ^ s * C) (n := s)
  have h2 := Nat.and_div_two_pow (a := a + 2 ^ s * A) (b := c + 2 ^ s * C) (n := s)
  rw [Nat.add_mul_mod_self_left, Nat.add_mul_mod_self_left, Nat.mod_eq_of_lt ha, Nat.mod_eq_of_lt hc] at h1
  rw [Nat.add_mul_div_left _ _ hp, Nat.add_mul_div_left _ _ hp, Nat.div_eq_of_lt ha, Nat.div_eq_of_lt hc, Nat.zero_add, Nat.zero_add] at h2
  rw [← h1, ← h2, Nat.mod_add_div]

def rep (p : Nat) : Nat → Nat
  | 0 => 0
  | n + 1 => p + 256 * rep p n
def st1 (M x : Nat) : Nat := (x / 2 &&& M) + (x &&& M)
def st2 (M x : Nat) : Nat := (x / 4 &&& M) + (x &&& M)
def st3 (M x : Nat) : Nat := (x / 16 + x) &&& M
theorem st1_byte : ∀ b, b < 256 → ∀ r, r < 2 → (b / 2 + 128 * r) &&& 85 = b / 2 &&& 85 := by decide +kernel
theorem st2_byte : ∀ b, b < 256 → ∀ r, r < 4 → (b / 4 + 64 * r) &&& 51 = b / 4 &&& 51 := by decide +kernel
theorem st3_byte : ∀ b, b < 69 → ∀ r, r < 5 → (b / 16 + b + 16 * r) &&& 15 = (b / 16 + b) &&& 15 := by decide +kernel
theorem st1_lt : ∀ b, b < 256 → st1 85 b < 171 := by decide +kernel
theorem st12_le : ∀ b, b < 256 → st2 51 (st1 85 b) < 69 ∧ st2 51 (st1 85 b) % 16 < 5 := by decide +kernel
theorem st123 : ∀ b, b < 256 → st3 15 (st2 51 (st1 85 b)) = pcF 8 b := by decide +kernel
theorem st1_split {b X n : Nat} (hb : b < 256) : st1 (rep 85 (n + 1)) (b + 256 * X) = st1 85 b + 256 * st1 (rep 85 n) X := by
  have h1 : (b + 256 * X) / 2 = (b / 2 + 128 * (X % 2)) + 256 * (X / 2) := by omega
  have h2 := and_split (s := 8) (a := b / 2 + 128 * (X % 2)) (A := X / 2) (c := 85) (C := rep 85 n) (by omega) (by omega)
  have h3 := and_split (s := 8) (a := b) (A := X) (c := 85) (C := rep 85 n) (by omega) (by omega)
  simp only [show (2 : Nat) ^ 8 = 256 from rfl] at h2 h3
  rw [st1, st1, st1, rep, h1, h2, h3, st1_byte b hb _ (by omega), Nat.mul_add]; omega
theorem st2_split {b X n : Nat} (hb : b < 256) : st2 (rep 51 (n + 1)) (b + 256 * X) = st2 51 b + 256 * st2 (rep 51 n) X := by
  have h1 : (b + 256 * X) / 4 = (b / 4 + 64 * (X % 4)) + 256 * (X / 4) := by omega
  have h2 := and_split (s := 8) (a := b / 4 + 64 * (X % 4)) (A := X / 4) (c := 51) (C := rep 51 n) (by omega) (by omega)
  have h3 := and_split (s := 8) (a := b) (A := X) (c := 51) (C := rep 51 n) (by omega) (by omega)
  simp only [show (2 : Nat) ^ 8 = 256 from rfl] at h2 h3
  rw [st2, st2, st2, rep, h1, h2, h3, st2_byte b hb _ (by omega), Nat.mul_add]; omega
theorem st3_split {b X n : Nat} (hb : b < 69) (hX : X % 16 < 5) : st3 (rep 15 (n + 1)) (b + 256 * X) = st3 15 b + 256 * st3 (rep 15 n) X := by
  have h1 : (b + 256 * X) / 16 + (b + 256 * X) = (b / 16 + b + 16 * (X % 16)) + 256 * (X / 16 + X) := by omega
  have h2 := and_split (s := 8) (a := b / 16 + b + 16 * (X % 16)) (A := X / 16 + X) (c := 15) (C := rep 15 n) (by omega) (by omega)
  simp only [show (2 : Nat) ^ 8 = 256 from rfl] at h2
  rw [st3, st3, st3, rep, h1, h2, st3_byte b hb _ hX]
/-- The bytes' counts, as bytes. -/
def pcB : Nat → Nat → Nat
  | 0, _ => 0
  | n + 1, x => pcF 8 (x % 256) + 256 * pcB n (x / 256)
theorem st_all : ∀ n x, st2 (rep 51 n) (st1 (rep 85 n) x) % 16 < 5 ∧ st3 (rep 15 n) (st2 (rep 51 n) (st1 (rep 85 n) x)) = pcB n x
  | 0, x => by simp [st3, st2, st1, rep, pcB]
  | n + 1, x => by
    have hb : x % 256 < 256 := Nat.mod_lt _ (by omega)
    have hx : x = x % 256 + 256 * (x / 256) := by omega
    obtain ⟨i1, i2⟩ := st_all n (x / 256)
    have e1 : st1 (rep 85 (n + 1)) x = st1 85 (x % 256) + 256 * st1 (rep 85 n) (x / 256) := by
      have := st1_split (X := x / 256) (n := n) hb
      rwa [← hx] at this
    have l1 := st1_lt _ hb
    obtain ⟨l2, l3⟩ := st12_le _ hb
    have e2 := st2_split (X := st1 (rep 85 n) (x / 256)) (n := n) (show st1 85 (x % 256) < 256 by omega)
    have e3 := st3_split (X := st2 (rep 51 n) (st1 (rep 85 n) (x / 256))) (n := n) l2 i1
    rw [e1, e2, e3, i2, st123 _ hb, pcB]
    exact ⟨by omega, rfl⟩
theorem pcB_sum : ∀ n x, pcF (8 * n) x = (List.range n).foldr (fun i s => pcF 8 (x / 256 ^ i % 256) + s) 0 := by
  intro n x
  suffices h : ∀ n k, pcF (8 * n) (x / 256 ^ k) = (List.range' k n).foldr (fun i s => pcF 8 (x / 256 ^ i % 256) + s) 0 by
    have := h n 0
    rw [List.range_eq_range']
    simpa using this
  intro n
  induction n with
  | zero => intro k; rfl
  | succ n ih =>
    intro k
    rw [show 8 * (n + 1) = 8 + 8 * n by omega, pcF_split, show (2 : Nat) ^ 8 = 256 from rfl, Nat.div_div_eq_div_mul, ← Nat.pow_succ, ih (k + 1), List.range'_succ, List.foldr_cons]

theorem div_split {p q M : Nat} (h : p < M) : (p + M * q) / M = q := by
  rw [Nat.add_mul_div_left _ _ (by omega), Nat.div_eq_of_lt h, Nat.zero_add]
theorem fA (c0 c1 c2 c3 c4 c5 c6 c7 : Nat) : c0 + 256 * (c1 + 256 * (c2 + 256 * (c3 + 256 * (c4 + 256 * (c5 + 256 * (c6 + 256 * c7)))))) + (c1 + 256 * (c2 + 256 * (c3 + 256 * (c4 + 256 * (c5 + 256 * (c6 + 256 * c7)))))) =
    (c0 + c1 + 256 * (c1 + c2)) + 65536 * (c2 + c3 + 256 * (c3 + c4) + 65536 * (c4 + c5 + 256 * (c5 + c6) + 65536 * (c6 + c7 + 256 * c7))) := by omega
theorem fB (c0 c1 c2 c3 c4 c5 c6 c7 : Nat) : (c0 + c1 + 256 * (c1 + c2)) + 65536 * (c2 + c3 + 256 * (c3 + c4) + 65536 * (c4 + c5 + 256 * (c5 + c6) + 65536 * (c6 + c7 + 256 * c7))) + (c2 + c3 + 256 * (c3 + c4) + 65536 * (c4 + c5 + 256 * (c5 + c6) + 65536 * (c6 + c7 + 256 * c7))) =
    (c0 + c1 + c2 + c3 + 256 * (c1 + c2 + c3 + c4) + 65536 * (c2 + c3 + c4 + c5 + 256 * (c3 + c4 + c5 + c6))) + 4294967296 * (c4 + c5 + c6 + c7 + 256 * (c5 + c6 + c7) + 65536 * (c6 + c7 + 256 * c7)) := by omega
theorem fC (c0 c1 c2 c3 c4 c5 c6 c7 : Nat) : (c0 + c1 + c2 + c3 + 256 * (c1 + c2 + c3 + c4) + 65536 * (c2 + c3 + c4 + c5 + 256 * (c3 + c4 + c5 + c6))) + 4294967296 * (c4 + c5 + c6 + c7 + 256 * (c5 + c6 + c7) + 65536 * (c6 + c7 + 256 * c7)) + (c4 + c5 + c6 + c7 + 256 * (c5 + c6 + c7) + 65536 * (c6 + c7 + 256 * c7)) =
    (c0 + (c1 + (c2 + (c3 + (c4 + (c5 + (c6 + c7))))))) + 128 * (2 * (c1 + c2 + c3 + c4 + 256 * (c2 + c3 + c4 + c5 + 256 * (c3 + c4 + c5 + c6)) + 16777216 * (c4 + c5 + c6 + c7 + 256 * (c5 + c6 + c7) + 65536 * (c6 + c7 + 256 * c7)) + (c5 + c6 + c7) + 256 * (c6 + c7 + 256 * c7))) := by omega
theorem fold_core (c0 c1 c2 c3 c4 c5 c6 c7 : Nat) (b0 : c0 ≤ 8) (b1 : c1 ≤ 8) (b2 : c2 ≤ 8) (b3 : c3 ≤ 8) (b4 : c4 ≤ 8) (b5 : c5 ≤ 8) (b6 : c6 ≤ 8) (b7 : c7 ≤ 8) {y : Nat} (hy : y = c0 + 256 * (c1 + 256 * (c2 + 256 * (c3 + 256 * (c4 + 256 * (c5 + 256 * (c6 + 256 * c7))))))) :
    (y + y / 256 + (y + y / 256) / 65536 + (y + y / 256 + (y + y / 256) / 65536) / 4294967296) % 128 = c0 + (c1 + (c2 + (c3 + (c4 + (c5 + (c6 + c7)))))) := by
  have h1 : y / 256 = c1 + 256 * (c2 + 256 * (c3 + 256 * (c4 + 256 * (c5 + 256 * (c6 + 256 * c7))))) := by rw [hy]; exact div_split (by omega)
  have h2 := fA c0 c1 c2 c3 c4 c5 c6 c7
  rw [h1, hy, h2, div_split (show c0 + c1 + 256 * (c1 + c2) < 65536 by omega), fB,
    div_split (show c0 + c1 + c2 + c3 + 256 * (c1 + c2 + c3 + c4) + 65536 * (c2 + c3 + c4 + c5 + 256 * (c3 + c4 + c5 + c6)) < 4294967296 by omega), fC, Nat.add_mul_mod_self_left, Nat.mod_eq_of_lt (by omega)]
theorem fold_le (c0 c1 c2 c3 c4 c5 c6 c7 : Nat) (b0 : c0 ≤ 8) (b1 : c1 ≤ 8) (b2 : c2 ≤ 8) (b3 : c3 ≤ 8) (b4 : c4 ≤ 8) (b5 : c5 ≤ 8) (b6 : c6 ≤ 8) (b7 : c7 ≤ 8) :
    c0 + 256 * (c1 + 256 * (c2 + 256 * (c3 + 256 * (c4 + 256 * (c5 + 256 * (c6 + 256 * c7)))))) ≤ 578721382704613384 := by omega
/-- The last steps: of eight bytes of at most 8 each the sum. -/
theorem fold8 (x : Nat) : (pcB 8 x + pcB 8 x / 256 + (pcB 8 x + pcB 8 x / 256) / 65536 + (pcB 8 x + pcB 8 x / 256 + (pcB 8 x + pcB 8 x / 256) / 65536) / 4294967296) % 128 = pcF 64 x ∧ pcB 8 x ≤ 578721382704613384 := by
  have hs : pcF 64 x = pcF 8 (x % 256) + (pcF 8 (x / 256 % 256) + (pcF 8 (x / 256 / 256 % 256) + (pcF 8 (x / 256 / 256 / 256 % 256) + (pcF 8 (x / 256 / 256 / 256 / 256 % 256) + (pcF 8 (x / 256 / 256 / 256 / 256 / 256 % 256) + (pcF 8 (x / 256 / 256 / 256 / 256 / 256 / 256 % 256) + pcF 8 (x / 256 / 256 / 256 / 256 / 256 / 256 / 256 % 256))))))) := by
    rw [show 64 = 8 + 56 by rfl, pcF_split, show 56 = 8 + 48 by rfl, pcF_split, show 48 = 8 + 40 by rfl, pcF_split, show 40 = 8 + 32 by rfl, pcF_split, show 32 = 8 + 24 by rfl, pcF_split, show 24 = 8 + 16 by rfl, pcF_split, show 16 = 8 + 8 by rfl, pcF_split]
    simp only [show (2 : Nat) ^ 8 = 256 from rfl]
    have : ∀ n, pcF 8 n = pcF 8 (n % 256) := fun n => by
      have := pcF_split 8 0 n
      simpa [pcF] using this
    rw [this (x / 256 / 256 / 256 / 256 / 256 / 256 / 256)]
  have hB : pcB 8 x = pcF 8 (x % 256) + 256 * (pcF 8 (x / 256 % 256) + 256 * (pcF 8 (x / 256 / 256 % 256) + 256 * (pcF 8 (x / 256 / 256 / 256 % 256) + 256 * (pcF 8 (x / 256 / 256 / 256 / 256 % 256) + 256 * (pcF 8 (x / 256 / 256 / 256 / 256 / 256 % 256) + 256 * (pcF 8 (x / 256 / 256 / 256 / 256 / 256 / 256 % 256) + 256 * pcF 8 (x / 256 / 256 / 256 / 256 / 256 / 256 / 256 % 256))))))) := rfl
  refine ⟨?_, ?_⟩
  · rw [hs]
    exact fold_core _ _ _ _ _ _ _ _ (pcF_le 8 _) (pcF_le 8 _) (pcF_le 8 _) (pcF_le 8 _) (pcF_le 8 _) (pcF_le 8 _) (pcF_le 8 _) (pcF_le 8 _) hB
  · rw [hB]
    exact fold_le _ _ _ _ _ _ _ _ (pcF_le 8 _) (pcF_le 8 _) (pcF_le 8 _) (pcF_le 8 _) (pcF_le 8 _) (pcF_le 8 _) (pcF_le 8 _) (pcF_le 8 _)
end Dg
namespace Nat
theorem andI_i64 {x y : Nat} (hx : x < 9223372036854775808) (hy : y < 9223372036854775808) : andI .i64 (x : Int) (y : Int) = ((x &&& y : Nat) : Int) := by
  unfold andI
  have e : (BitVec.ofInt IntKind.i64.bits (x : Int) &&& BitVec.ofInt IntKind.i64.bits (y : Int)).toNat = x &&& y := by
    rw [BitVec.toNat_and, BitVec.ofInt_natCast, BitVec.ofInt_natCast, BitVec.toNat_ofNat, BitVec.toNat_ofNat]
    show x % 2 ^ 64 &&& y % 2 ^ 64 = _
    rw [Nat.mod_eq_of_lt (by omega), Nat.mod_eq_of_lt (by omega)]
  rw [e]
  have : x &&& y < 2 ^ 63 := Nat.and_lt_two_pow _ (by omega)
  exact wrap_i64 (by omega) (by omega)
theorem fdivN (x k : Nat) : Int.fdiv (x : Int) (2 ^ (k : Nat)) = ((x / 2 ^ k : Nat) : Int) := by
  rw [Int.fdiv_eq_ediv_of_nonneg _ (Int.le_of_lt (Int.pow_pos (by omega)))]
  norm_cast

theorem OnesCount64_spec {w : World} {x : Nat} (hx : x < B64) : Calls pr bits_OnesCount64_id #[.int .u64 (x : Int)] w fun e w' => w' = w ∧ e = .returned (.int .i64 (pcF 64 x)) := by
  have hB := B64v
  refine bits_OnesCount64_vc _ w _ ⟨rfl, ?_⟩
  have m1 : (6148914691236517205 : Int) = ((rep 85 8 : Nat) : Int) := by decide +kernel
  have m2 : (3689348814741910323 : Int) = ((rep 51 8 : Nat) : Int) := by decide +kernel
  have m3 : (1085102592571150095 : Int) = ((rep 15 8 : Nat) : Int) := by decide +kernel
  have l1 : rep 85 8 < B64 := by decide +kernel
  have l2 : rep 51 8 < B64 := by decide +kernel
  have l3 : rep 15 8 < B64 := by decide +kernel
  have v1 : rep 85 8 = 6148914691236517205 := by decide +kernel
  have v2 : rep 51 8 = 3689348814741910323 := by decide +kernel
  have v3 : rep 15 8 = 1085102592571150095 := by decide +kernel
  have a1 : x / 2 &&& rep 85 8 ≤ rep 85 8 := Nat.and_le_right
  have a2 : x &&& rep 85 8 ≤ rep 85 8 := Nat.and_le_right
  have hst1 : st1 (rep 85 8) x < B64 := by unfold st1; omega
  have e1 : IntKind.u64.wrap (andI .u64 (Int.fdiv (x : Int) (2 ^ (1 : Nat))) 6148914691236517205 + andI .u64 (x : Int) 6148914691236517205) = ((st1 (rep 85 8) x : Nat) : Int) := by
    rw [m1, fdivN, show (2 : Nat) ^ 1 = 2 from rfl, andI_nat (by omega) l1, andI_nat hx l1, wrap_u64' (by omega) (by omega)]
    unfold st1; omega
  have a3 : st1 (rep 85 8) x / 4 &&& rep 51 8 ≤ rep 51 8 := Nat.and_le_right
  have a4 : st1 (rep 85 8) x &&& rep 51 8 ≤ rep 51 8 := Nat.and_le_right
  have hst2 : st2 (rep 51 8) (st1 (rep 85 8) x) ≤ 2 * rep 51 8 := by unfold st2; omega
  have e2 : IntKind.u64.wrap (andI .u64 (Int.fdiv ((st1 (rep 85 8) x : Nat) : Int) (2 ^ (2 : Nat))) 3689348814741910323 + andI .u64 ((st1 (rep 85 8) x : Nat) : Int) 3689348814741910323) = ((st2 (rep 51 8) (st1 (rep 85 8) x) : Nat) : Int) := by
    rw [m2, fdivN, show (2 : Nat) ^ 2 = 4 from rfl, andI_nat (by omega) l2, andI_nat hst1 l2, wrap_u64' (by omega) (by omega)]
    unfold st2; omega
  have e3 : andI .u64 (IntKind.u64.wrap (Int.fdiv ((st2 (rep 51 8) (st1 (rep 85 8) x) : Nat) : Int) (2 ^ (4 : Nat)) + ((st2 (rep 51 8) (st1 (rep 85 8) x) : Nat) : Int))) 1085102592571150095 = ((st3 (rep 15 8) (st2 (rep 51 8) (st1 (rep 85 8) x)) : Nat) : Int) := by
    rw [m3, fdivN, show (2 : Nat) ^ 4 = 16 from rfl, wrap_u64' (by omega) (by omega)]
    rw [show ((st2 (rep 51 8) (st1 (rep 85 8) x) / 16 : Nat) : Int) + ((st2 (rep 51 8) (st1 (rep 85 8) x) : Nat) : Int) = ((st2 (rep 51 8) (st1 (rep 85 8) x) / 16 + st2 (rep 51 8) (st1 (rep 85 8) x) : Nat) : Int) by omega, andI_nat (by omega) l3]
    rfl
  obtain ⟨hf, hle⟩ := fold8 x
  rw [e1, e2, e3, (st_all 8 x).2]
  generalize pcB 8 x = y at *
  have f1 : IntKind.u64.wrap ((y : Int) + Int.fdiv (y : Int) (2 ^ (8 : Nat))) = ((y + y / 256 : Nat) : Int) := by rw [fdivN, wrap_u64' (by omega) (by omega)]; omega
  rw [f1]
  generalize ha : y + y / 256 = a at *
  have f2 : IntKind.u64.wrap ((a : Int) + Int.fdiv (a : Int) (2 ^ (16 : Nat))) = ((a + a / 65536 : Nat) : Int) := by rw [fdivN, wrap_u64' (by omega) (by omega)]; omega
  rw [f2]
  generalize hd : a + a / 65536 = d at *
  have f3 : IntKind.i64.wrap (IntKind.u64.wrap ((d : Int) + Int.fdiv (d : Int) (2 ^ (32 : Nat)))) = ((d + d / 4294967296 : Nat) : Int) := by
    rw [fdivN, wrap_u64' (by omega) (by omega), wrap_i64 (by omega) (by omega)]; omega
  rw [f3, show (127 : Int) = ((127 : Nat) : Int) from rfl, andI_i64 (by omega) (by omega), show 127 = 2 ^ 7 - 1 from rfl, Nat.and_two_pow_sub_one_eq_mod, show 2 ^ 7 = 128 from rfl, hf]
end Nat
end Go.Proofs.Ytaflfjbhlgbmdaa
