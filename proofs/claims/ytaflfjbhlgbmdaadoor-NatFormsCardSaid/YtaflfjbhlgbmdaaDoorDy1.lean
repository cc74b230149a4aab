/- dyadic's inner functions: shifted, odd, told, read; Make, Scale. No condition: the library's table is a premise. -/
import Derived.Test.YtaflfjbhlgbmdaaDoorTz
import Derived.Test.YtaflfjbhlgbmdaaDoorNatC
import Derived.Test.YtaflfjbhlgbmdaaDoorRef3
import Derived.Test.YtaflfjbhlgbmdaaDoorVcDyL
namespace Go.Proofs.YtaflfjbhlgbmdaaDoor
open Go Go.RowKit Eng Sp Dg
set_option linter.unusedVariables false
set_option linter.unusedSimpArgs false
set_option maxRecDepth 100000
namespace Dy
open _root_.Go.Proofs.YtaflfjbhlgbmdaaDoor.Nat (ldN ldNf stF stFf mkF Fill OwnNil Num Num.bl OwnNil.mono bigC bigC_ok rightC Norm_spec Length_spec len_num semShr fixShl orI_nat digs_len_bl)
open Sb

theorem tdivN {n : Nat} (h : n ≤ 9223372036854775807) : IntKind.i64.wrap (Int.tdiv (n : Int) 64) = ((n / 64 : Nat) : Int) := by
  have : Int.tdiv (n : Int) 64 = ((n / 64 : Nat) : Int) := by rw [Int.tdiv_eq_ediv_of_nonneg (by omega)]; omega
  rw [this, wrap_i64 (by omega) (by omega)]
theorem tmodN (n : Nat) : IntKind.u64.wrap (Int.tmod (n : Int) 64) = ((n % 64 : Nat) : Int) := by
  rw [Int.tmod_eq_emod_of_nonneg (by omega), wrap_u64]; omega


/-! ### The forms of a dyadic -/
def nD (neg : Bool) (x : Nat) : Bool := neg && decide (x ≠ 0)
def eD (x : Nat) (e : Int) : Int := if x = 0 then 0 else e + tz x
def wi (e : Int) : Prop := -1099511627776 ≤ e ∧ e ≤ 1099511627776
instance (e : Int) : Decidable (wi e) := inferInstanceAs (Decidable (_ ∧ _))
/-- The number of an answer. -/
def tC (x : Nat) (e : Int) : Int := if 67108864 < bl (od x) then 3 else if wi (eD x e) then 0 else 80
/-- An answer: a dyadic in lowest terms, or nothing and a number. -/
def DOut (w : World) (code : Int) (neg : Bool) (x : Nat) (e : Int) (en : Ending) (w' : World) : Prop := Ahead w w' ∧ ∃ s, en = .returned (.tuple #[.agg (c3 (if code = 0 then nD neg x else false) s (if code = 0 then eD x e else 0)), .int .i64 code]) ∧
  OwnNil w.heap.size w' s (if code = 0 then digs B64 (od x) else [])
theorem DOut.refused {w w' : World} {code c : Int} {neg : Bool} {x : Nat} {e : Int} (h : Ahead w w') (hc : code = c) (h0 : c ≠ 0) : DOut w code neg x e (.returned (.tuple #[.agg (c3 false ⟨none, 0, 0⟩ 0), .int .i64 c])) w' := by
  subst hc
  exact ⟨h, _, by rw [if_neg h0, if_neg h0], Or.inl ⟨rfl, if_neg h0⟩⟩
theorem DOut.told {w w' : World} {code : Int} {neg : Bool} {x : Nat} {e : Int} {s : Slc} (h : Ahead w w') (hc : code = 0) (ho : OwnNil w.heap.size w' s (digs B64 (od x))) : DOut w code neg x e (.returned (.tuple #[.agg (c3 (nD neg x) s (eD x e)), .int .i64 0])) w' := by
  subst hc
  exact ⟨h, s, rfl, ho⟩
theorem nD_zero (neg : Bool) : nD neg 0 = false := by simp [nD]
theorem nD_ne {neg : Bool} {x : Nat} (h : x ≠ 0) : nD neg x = neg := by simp [nD, h]
theorem nD_od (neg : Bool) (x : Nat) : nD (nD neg x) (od x) = nD neg x := by
  by_cases h : x = 0
  · subst h; simp [nD, od_zero]
  · rw [nD_ne h, nD_ne (od_ne h)]
theorem eD_od (x : Nat) (e : Int) : eD (od x) (eD x e) = eD x e := by
  by_cases h : x = 0
  · subst h; simp [eD, od_zero]
  · rw [eD, if_neg (od_ne h), tz_od]; omega
theorem eD_zero (e : Int) : eD 0 e = 0 := if_pos rfl


theorem bl_zero_iff {x : Nat} : bl x = 0 ↔ x = 0 := ⟨fun h => by rcases Nat.eq_zero_or_pos x with h1 | h1; exact h1; have := bl_pos (n := x) (by omega); omega, fun h => by rw [h, bl_zero]⟩
def sgn (neg : Bool) (x : Nat) : Int := if x = 0 then 0 else if neg then -1 else 1
theorem sgn_zero_iff {neg : Bool} {x : Nat} : sgn neg x = 0 ↔ x = 0 := by
  unfold sgn
  by_cases h : x = 0
  · simp [h]
  · rw [if_neg h]
    cases neg <;> simp [h]


theorem num_od {w : World} {s : Slc} {x b : Nat} (h : OwnNil b w s (digs B64 (od x))) (hl : (digs B64 x).length ≤ 2 ^ 44) : Num w s (od x) :=
  ⟨_, h.rd, Nat.le_trans (Ref.len_mono two64 (od_le x)) hl, ok_digs two64 _, val_digs two64 _⟩
theorem num_len {w : World} {s : Slc} {x : Nat} (h : Num w s x) : (digs B64 x).length ≤ 2 ^ 44 := by
  obtain ⟨l, _, hl, ol, rfl⟩ := h
  exact Nat.le_trans (Nat.len_le ol) hl




/-- Scale's answer's number. -/
def scC (x : Nat) (e k : Int) : Int := if wi e then if wi k then tC (od x) (eD x e + k) else 1 else 80


end Dy
end Go.Proofs.YtaflfjbhlgbmdaaDoor
