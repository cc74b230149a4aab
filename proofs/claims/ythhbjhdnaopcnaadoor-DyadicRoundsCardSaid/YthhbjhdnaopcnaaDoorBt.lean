/- nat's Bit. No condition. -/
import Derived.Test.YthhbjhdnaopcnaaDoorDy1
namespace Go.Proofs.YthhbjhdnaopcnaaDoor
open Go Go.RowKit Eng Sp Dg
set_option linter.unusedVariables false
set_option linter.unusedSimpArgs false
set_option maxRecDepth 100000
namespace Dg
theorem bit_digit64 (U s : Nat) (hs : s < 64) : U % 2 ^ 64 / 2 ^ s % 2 = U / 2 ^ s % 2 := by
  have h : (2 : Nat) ^ 64 = 2 ^ s * (2 * 2 ^ (63 - s)) := by rw [← Nat.pow_succ', ← Nat.pow_add]; congr 1; omega
  rw [h, Nat.mod_mul_right_div_self, Nat.mod_mul_right_mod]
end Dg
namespace Nat
open _root_.Go.Proofs.YthhbjhdnaopcnaaDoor.Dy (tdivN tmodN)

theorem nBit_spec {w : World} {s : Slc} {l : List Nat} {i : Nat} (h : Rd .u64 w s (nn l)) (hl : l.length ≤ 2 ^ 46) (ol : ok B64 l) (hi : i ≤ 9223372036854775807) :
    Calls pr nat_Bit_id #[s.v, .int .i64 (i : Int)] w fun e w' => w' = w ∧ e = .returned (.int .i64 ((val B64 l / 2 ^ i % 2 : Nat) : Int)) := by
  have hn : s.n = l.length := by rw [h.n, nn_length]
  have hB := B64v
  have hp2 : B64 ^ (i / 64) * 2 ^ (i % 64) = 2 ^ i := (pow_split i 64).symm
  have hx : val B64 l / 2 ^ i % 2 = l.getD (i / 64) 0 / 2 ^ (i % 64) % 2 := by
    rw [digit (by omega : 0 < B64) _ ol (i / 64), ← hp2, ← Nat.div_div_eq_div_mul, show B64 = 2 ^ 64 from rfl, bit_digit64 _ _ (Nat.mod_lt _ (by omega))]
  refine nat_Bit_vc s i w _ (br_false (by simp) ?_)
  rw [tdivN (by omega), tmodN]
  refine br_intro (fun hb => ?_) (fun hb => ?_)
  · refine ⟨rfl, ?_⟩
    have hb' : l.length ≤ i / 64 := by simp at hb; omega
    rw [hx, getD_ge _ 0 hb']
    simp
  · have hb' : i / 64 < l.length := by simp at hb; omega
    refine ldN h (by omega) (by omega) ?_
    refine semShr (by omega) ?_
    rw [Int.toNat_natCast]
    have hlt := ok_getD ol (by omega : 0 < B64) (i / 64)
    generalize l.getD (i / 64) 0 = d at *
    have hd : d / 2 ^ (i % 64) < B64 := Nat.lt_of_le_of_lt (Nat.div_le_self _ _) hlt
    rw [show (1 : Int) = ((1 : Nat) : Int) from rfl, andI_nat hd (by omega), Nat.and_one_is_mod, hx, wrap_i64 (by omega) (by omega)]
    exact ⟨rfl, rfl⟩

end Nat
end Go.Proofs.YthhbjhdnaopcnaaDoor
