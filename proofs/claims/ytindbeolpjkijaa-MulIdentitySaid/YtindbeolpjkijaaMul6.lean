/- The document's product, and the law MulSquares. No condition. -/
import Derived.Test.YtindbeolpjkijaaMul5
import Derived.Test.YtindbeolpjkijaaRef5
import Derived.Test.YtindbeolpjkijaaLaw3
namespace Go.Proofs.Ytindbeolpjkijaa
open Go Go.RowKit Eng Sp Dg
set_option linter.unusedVariables false
set_option linter.unusedSimpArgs false
set_option maxRecDepth 100000
namespace Mul
open _root_.Go.Proofs.Ytindbeolpjkijaa.Nat (Num OwnNil Ret bigC bigC_ok digs_len_bl Yes num_of)
open _root_.Go.Proofs.Ytindbeolpjkijaa.Ref (RN Lend_spec Of_spec Kept_spec rMul_spec Len_spec zero_spec Is_spec bl_len32)

/-- The document's answer: the number, or nothing and the code. -/
def RAns (w : World) (code : Int) (n : Nat) (e : Ending) (w' : World) : Prop := Ahead w w' ∧ ∃ s, e = .returned (.tuple #[Slc.v s, .int .i64 code]) ∧ (code = 0 → RN w' s n)

theorem Told_spec {w : World} {s : Slc} {n : Nat} (h : RN w s n) (hl : (digs B32 n).length ≤ 2 ^ 46) : Calls pr surdref02_Told_id #[s.v] w (RAns w (bigC n) n) := by
  refine surdref02_Told_vc s w _ (Calls.mono (Len_spec h hl) ?_)
  rintro e w1 ⟨rfl, rfl⟩
  refine ⟨_, rfl, br_intro (fun hb => ?_) (fun hb => ?_)⟩
  · have hc : bigC n = 3 := by rw [bigC, if_neg (by simp at hb; omega)]
    rw [hc]
    exact ⟨Ahead.refl _, _, rfl, fun h => by omega⟩
  · have hc : bigC n = 0 := by rw [bigC, if_pos (by simp at hb; omega)]
    rw [hc]
    exact ⟨Ahead.refl _, _, rfl, fun _ => h⟩

theorem bl_le_mul (x y : Nat) : bl (x * y) ≤ bl x + bl y := by
  refine bl_le ?_
  rw [Nat.pow_add]
  exact Nat.mul_lt_mul_of_lt_of_lt (lt_bl x) (lt_bl y)
theorem digs32_bl {n m : Nat} (h : bl n ≤ 32 * m) : (digs B32 n).length ≤ m := by
  refine digs_length_le two32 ?_
  rw [b32_pow]
  exact bl_le_iff.1 h

theorem refMul_spec {w : World} {a b : Slc} {x y : Nat} (ha : RN w a x) (hb : RN w b y) (la : (digs B32 x).length + 1 ≤ 2 ^ 45) (lb : (digs B32 y).length + 1 ≤ 2 ^ 45) :
    Calls pr surdref02_Mul_id #[a.v, b.v] w (RAns w (bigC (x * y)) (x * y)) := by
  have ob := bl_len32 (ok_digs two32 x)
  have ob' := bl_len32 (ok_digs two32 y)
  rw [val_digs two32] at ob ob'
  have fin : ∀ w1, w1 = w → (digs B32 x).length + (digs B32 y).length + 1 ≤ 2 ^ 45 → (digs B32 (x * y)).length ≤ 2 ^ 46 → Calls pr surdref01_Mul_id #[a.v, b.v] w1 fun e9 w9 => ∃ s5 : Slc, e9 = .returned s5.v ∧
      (Calls pr surdref02_Told_id #[s5.v] w9 fun e10 w10 => ∃ s6 : Slc, ∃ x5 : Int, e10 = .returned (.tuple #[s6.v, .int .i64 x5]) ∧ RAns w (bigC (x * y)) (x * y) (.returned (.tuple #[s6.v, .int .i64 x5])) w10) := by
    rintro w1 rfl h1 h2
    refine Calls.mono (rMul_spec ha hb h1) ?_
    rintro e w2 ⟨h3, s, rfl, hs⟩
    refine ⟨_, rfl, Calls.mono (Told_spec hs h2) ?_⟩
    rintro e w4 ⟨h4, t, rfl, ht⟩
    exact ⟨_, _, rfl, h3.trans h4, _, rfl, ht⟩
  refine surdref02_Mul_vc a b w _ (Calls.mono (zero_spec ha) ?_)
  rintro e w1 ⟨rfl, rfl⟩
  refine ⟨_, rfl, br_intro (fun hx => ?_) (fun hx => ?_)⟩
  · have hx0 : x ≠ 0 := by simpa using hx
    refine Calls.mono (zero_spec hb) ?_
    rintro e w2 ⟨rfl, rfl⟩
    refine ⟨_, rfl, br_intro (fun hy => ?_) (fun hy => ?_)⟩
    · have hy0 : y ≠ 0 := by simpa using hy
      refine Calls.mono (Len_spec ha (by omega)) ?_
      rintro e w3 ⟨rfl, rfl⟩
      refine ⟨_, rfl, Calls.mono (Len_spec hb (by omega)) ?_⟩
      rintro e w4 ⟨rfl, rfl⟩
      have p1 := bl_pos hx0
      have p2 := bl_pos hy0
      refine ⟨_, rfl, ?_⟩
      rw [wrap_i64 (x := (bl x : Int) + (bl y : Int)) (by omega) (by omega), wrap_i64 (by omega) (by omega)]
      refine br_intro (fun hg => ?_) (fun hg => ?_)
      · have := bl_mul hx0 hy0
        have hc : bigC (x * y) = 3 := by rw [bigC, if_neg (by simp at hg; omega)]
        rw [hc]
        exact ⟨Ahead.refl _, _, rfl, fun h => by omega⟩
      · have hg' : bl x + bl y ≤ 67108865 := by simp at hg; omega
        have l1 := digs32_bl (n := x) (m := 2 ^ 22) (by omega)
        have l2 := digs32_bl (n := y) (m := 2 ^ 22) (by omega)
        have l3 := digs32_bl (n := x * y) (m := 2 ^ 22) (by have := bl_le_mul x y; omega)
        exact fin _ rfl (by omega) (by omega)
    · have hy0 : y = 0 := by simpa using hy
      subst hy0
      exact fin _ rfl (by rw [digs_zero]; simp; omega) (by rw [Nat.mul_zero, digs_zero]; simp)
  · have hx0 : x = 0 := by simpa using hx
    subst hx0
    exact fin _ rfl (by rw [digs_zero]; simp; omega) (by rw [Nat.zero_mul, digs_zero]; simp)

theorem alike_spec {w : World} {s want : Slc} {code : Int} {n : Nat} (hs : Rd .u64 w s (nn (if code = 0 then digs B64 n else []))) (hw : code = 0 → RN w want n) (hl : code = 0 → bl n ≤ 67108864) :
    Calls pr surdlaw02_alike_id #[s.v, .int .i64 code, want.v, .int .i64 code] w fun e w' => Ahead w w' ∧ e = .returned (.bool true) := by
  refine surdlaw02_alike_vc s code want code w _ (Calls.mono num_spec ?_)
  rintro e w1 ⟨rfl, rfl⟩
  refine ⟨_, rfl, br_false (by simp) (br_intro (fun hc => ?_) (fun hc => ?_))⟩
  · have hc0 : code ≠ 0 := by simpa using hc
    rw [if_neg hc0] at hs
    refine ⟨Ahead.refl _, ?_⟩
    have := hs.n
    simp at this
    rw [this]; rfl
  · have hc0 : code = 0 := by simpa using hc
    rw [if_pos hc0] at hs
    have := digs_len_bl (N := n) (m := 2 ^ 20) (by have := hl hc0; omega)
    refine Calls.mono (Is_spec (hw hc0) hs (by omega)) ?_
    rintro e w2 ⟨ha, rfl⟩
    exact ⟨_, rfl, ha, rfl⟩
theorem bigC_bl {n : Nat} (h : bigC n = 0) : bl n ≤ 67108864 := by
  unfold bigC at h
  by_cases hb : bl n ≤ 67108864
  · exact hb
  · rw [if_neg hb] at h; omega

theorem len32 {l : List Nat} (h : ok B64 l) : (digs B32 (val B64 l)).length ≤ 2 * l.length := by
  refine digs_length_le two32 ?_
  rw [← Ref.b64_sq]
  exact val_lt h

theorem MulSquares_ok {w : World} {s0 : Slc} {l0 : List Nat} (r0 : Rd .u64 w s0 (nn l0)) (o0 : ok B64 l0) (n0 : l0.length * 8 ≤ 140737488351232) :
    Calls pr surdlaw02_MulSquares_id #[s0.v] w (Yes w) := by
  have hx := len32 o0
  have hd := Nat.len_le o0
  refine surdlaw02_MulSquares_vc s0 w _ (Calls.mono (Lend_spec r0 n0 o0) ?_)
  rintro e w1 ⟨h1, wa, pa, rfl, la⟩
  refine ⟨_, _, rfl, Calls.mono (Of_spec (r0.ahead h1) n0 o0) ?_⟩
  rintro e w2 ⟨h2, x, rfl, rx⟩
  have h02 := h1.trans h2
  have la2 := la.ahead h2
  have pn : Num w2 pa (val B64 l0) := num_of la2.part o0 n0
  generalize val B64 l0 = X at *
  refine ⟨_, rfl, Calls.mono (refMul_spec rx rx (by omega) (by omega)) ?_⟩
  rintro e w3 ⟨h3, v, rfl, rv⟩
  refine ⟨_, _, rfl, mul_Square_vc pa w3 _ (Calls.mono (Mul_spec (pn.ahead h3) (pn.ahead h3) (by omega) (by omega)) ?_)⟩
  rintro e w4 ⟨h4, u, rfl, ou⟩
  refine ⟨_, _, rfl, _, _, rfl, Calls.mono (alike_spec ou.rd (fun hc => (rv hc).ahead h4) bigC_bl) ?_⟩
  rintro e w5 ⟨h5, rfl⟩
  have h25 := (h3.trans h4).trans h5
  refine ⟨_, rfl, br_true rfl (Calls.mono (Kept_spec (la2.ahead h25).whole (r0.ahead (h02.trans h25)) n0) ?_)⟩
  rintro e w6 ⟨rfl, rfl⟩
  exact ⟨_, rfl, br_true rfl (end_awake (h02.trans h25))⟩

end Mul
end Go.Proofs.Ytindbeolpjkijaa
