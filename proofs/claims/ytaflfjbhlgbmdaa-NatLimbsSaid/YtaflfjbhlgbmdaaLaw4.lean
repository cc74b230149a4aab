/- The law NatShifts. No condition. -/
import Derived.Test.YtaflfjbhlgbmdaaLaw3
namespace Go.Proofs.Ytaflfjbhlgbmdaa
open Go Go.RowKit Eng Sp Dg
set_option linter.unusedVariables false
set_option linter.unusedSimpArgs false
set_option maxRecDepth 100000
namespace Ref
open _root_.Go.Proofs.Ytaflfjbhlgbmdaa.Nat (OwnNil Num Ret bigC subC leftC rightC lowC Yes end_lives own_num num_of digs_len_bl bigC_ok)

theorem same_nil {w : World} {s : Slc} {k : Int} {b n : Nat} (hk : k ≠ 0) (hs : OwnNil b w s (if k = 0 then digs B64 n else [])) :
    Calls pr surdlaw01_same_id #[s.v, .int .i64 k, Slc.v ⟨none, 0, 0⟩, .int .i64 k] w fun e w' => Ahead w w' ∧ e = .returned (.bool true) := by
  refine same_spec (n := 0) RN.nil (by rw [digs_zero]; simp) ?_ (by rw [if_neg hk])
  rw [if_neg hk] at hs ⊢
  exact hs.rd

theorem bl_shl {x n : Nat} (h : x ≠ 0) : bl (x * 2 ^ n) = n + bl x := by
  have := bl_add_pow (h := x) (t := 0) (k := n) h (Nat.pow_pos (by omega))
  rw [Nat.zero_add, Nat.mul_comm] at this
  exact this
theorem digs_len_bl32 {N m : Nat} (h : bl N ≤ 32 * m) : (digs B32 N).length ≤ m := by
  refine digs_length_le two32 ?_
  rw [b32_pow]
  exact bl_le_iff.1 h

theorem NatShifts_ok {w : World} {s0 : Slc} {l0 : List Nat} {x1 : Int} (r0 : Rd .u64 w s0 (nn l0)) (o0 : ok B64 l0) (n0 : l0.length * 8 ≤ 140737488351232)
    (hn : -9223372036854775808 ≤ x1 ∧ x1 ≤ 9223372036854775807) :
    Calls pr surdlaw01_NatShifts_id #[s0.v, .int .i64 x1] w (Yes w) := by
  have hx := len32 o0
  refine surdlaw01_NatShifts_vc s0 x1 w _ ?_
  refine Calls.mono (Lend_spec r0 n0 o0) ?_
  rintro e w1 ⟨h1, wa, pa, rfl, la⟩
  refine ⟨_, _, rfl, Calls.mono (Of_spec (r0.ahead h1) n0 o0) ?_⟩
  rintro e w2 ⟨h2, x, rfl, rx⟩
  have h02 := h1.trans h2
  have la2 := la.ahead h2
  have pn : Num w2 pa (val B64 l0) := num_of la2.part o0 n0
  generalize val B64 l0 = X at *
  refine ⟨_, rfl, Calls.mono (Nat.left_num pn hn.1 hn.2) ?_⟩
  rintro e w3 ⟨h3, l, rfl, ol⟩
  refine ⟨_, _, rfl, Calls.mono (Nat.right_num (pn.ahead h3)) ?_⟩
  rintro e w4 ⟨h4, r, rfl, or⟩
  have h24 := h3.trans h4
  refine ⟨_, _, rfl, Calls.mono (Nat.low_num (pn.ahead h24)) ?_⟩
  rintro e w5 ⟨h5, m, rfl, om⟩
  have h25 := h24.trans h5
  have h05 := h02.trans h25
  have ol5 := (ol.ahead h4).ahead h5
  have or5 := or.ahead h5
  refine ⟨_, _, rfl, ?_⟩
  -- an argument that is no position
  have bad : (x1 < 0 ∨ 1099511627776 < x1) → Calls pr surdlaw01_same_id #[l.v, .int .i64 (leftC X x1), Slc.v ⟨none, 0, 0⟩, .int .i64 1] w5 fun e6 w6 => ∃ b1 : Bool, e6 = .returned (.bool b1) ∧
      (br b1 (Calls pr surdlaw01_same_id #[r.v, .int .i64 (rightC X x1), Slc.v ⟨none, 0, 0⟩, .int .i64 1] w6 fun e7 w7 => ∃ b2 : Bool, e7 = .returned (.bool b2) ∧
        (br b2 (Calls pr surdlaw01_same_id #[m.v, .int .i64 (lowC X x1), Slc.v ⟨none, 0, 0⟩, .int .i64 1] w7 fun e8 w8 => ∃ b3 : Bool, e8 = .returned (.bool b3) ∧
          (br b3 (Calls pr surdlaw01_lives_id #[] w8 fun e9 w9 => ∃ b4 : Bool, e9 = .returned (.bool b4) ∧ Yes w (.returned (.bool b4)) w9) (Yes w (.returned (.bool false)) w8))) (Yes w (.returned (.bool false)) w7))) (Yes w (.returned (.bool false)) w6)) := by
    intro hb
    have c1 : leftC X x1 = 1 := by rw [leftC, if_pos hb]
    have c2 : rightC X x1 = 1 := by rw [rightC, if_pos hb]
    have c3 : lowC X x1 = 1 := by rw [lowC, if_pos hb]
    rw [c1] at ol5 ⊢
    rw [c2] at or5 ⊢
    rw [c3] at om ⊢
    refine Calls.mono (same_nil (by omega) ol5) ?_
    rintro e w6 ⟨h6, rfl⟩
    refine ⟨_, rfl, br_true rfl (Calls.mono (same_nil (by omega) (or5.ahead h6)) ?_)⟩
    rintro e w7 ⟨h7, rfl⟩
    refine ⟨_, rfl, br_true rfl (Calls.mono (same_nil (by omega) ((om.ahead h6).ahead h7)) ?_)⟩
    rintro e w8 ⟨h8, rfl⟩
    exact ⟨_, rfl, br_true rfl (end_lives (((h05.trans h6).trans h7).trans h8))⟩
  refine br_intro (fun hlt => bad (.inl (by simpa using hlt))) (fun hge => br_intro (fun hgt => bad (.inr (by simpa using hgt))) (fun hle => ?_))
  have n0' : 0 ≤ x1 := by simpa using hge
  have n1' : x1 ≤ 1099511627776 := by simpa using hle
  have c2 : rightC X x1 = bigC (X / 2 ^ x1.toNat) := by rw [rightC, if_neg (by omega)]
  have c3 : lowC X x1 = bigC (X % 2 ^ x1.toNat) := by rw [lowC, if_neg (by omega)]
  rw [c2] at or5 ⊢
  rw [c3] at om ⊢
  have rx5 := rx.ahead h25
  refine Calls.mono (Shr_spec rx5 n0' (by omega) (by omega)) ?_
  rintro e w14 ⟨h14, u, rfl, ru⟩
  have hl1 := len_mono two32 (Nat.div_le_self X (2 ^ x1.toNat))
  refine ⟨_, rfl, Calls.mono (same_spec ru (by omega) (or5.ahead h14).rd (by rw [if_pos rfl])) ?_⟩
  rintro e w15 ⟨h15, rfl⟩
  refine ⟨_, rfl, br_false rfl ?_⟩
  have h515 := h14.trans h15
  refine Calls.mono (Low_spec (rx5.ahead h515) n0' (by omega) (by omega)) ?_
  rintro e w16 ⟨h16, v, rfl, rv⟩
  have hl2 := len_mono two32 (Nat.mod_le X (2 ^ x1.toNat))
  have h516 := h515.trans h16
  refine ⟨_, rfl, Calls.mono (same_spec rv (by omega) (om.ahead h516).rd (by rw [if_pos rfl])) ?_⟩
  rintro e w17 ⟨h17, rfl⟩
  have h517 := h516.trans h17
  refine ⟨_, rfl, br_false rfl ?_⟩
  -- the last part
  have fin : (X ≠ 0 → (bl X : Int) + x1 ≤ 67108864) → Calls pr surdref01_Shl_id #[x.v, .int .i64 x1] w17 fun e22 w22 => ∃ s9 : Slc, e22 = .returned s9.v ∧
      (Calls pr surdlaw01_same_id #[l.v, .int .i64 (leftC X x1), s9.v, .int .i64 0] w22 fun e23 w23 => ∃ b14 : Bool, e23 = .returned (.bool b14) ∧
        (br b14 (newC w23 #[l.v, r.v, m.v] tU64s fun ad1 w24 => Calls pr surdref01_Own_id #[(⟨some ad1, 3, 3⟩ : Slc).v] w24 fun e24 w25 => ∃ b15 : Bool, e24 = .returned (.bool b15) ∧
          (br b15 (Calls pr surdref01_Kept_id #[wa.v, s0.v] w25 fun e25 w26 => ∃ b16 : Bool, e25 = .returned (.bool b16) ∧
            (br b16 (Calls pr surdlaw01_lives_id #[] w26 fun e26 w27 => ∃ b17 : Bool, e26 = .returned (.bool b17) ∧ Yes w (.returned (.bool b17)) w27)
              (Yes w (.returned (.bool false)) w26))) (Yes w (.returned (.bool false)) w25))) (Yes w (.returned (.bool false)) w23))) := by
    intro hfit
    have c1 : leftC X x1 = bigC (X * 2 ^ x1.toNat) := by
      by_cases hX : X = 0
      · subst hX
        rw [leftC, if_neg (by omega), if_neg (by omega), Nat.zero_mul, bigC, bl_zero, if_pos (by omega)]
      · have := hfit hX
        rw [leftC, if_neg (by omega), if_neg (by omega), bigC_ok (by rw [bl_shl hX]; omega)]
    have hlen : (digs B32 X).length + x1.toNat / 32 + 1 ≤ 2 ^ 45 := by
      by_cases hX : X = 0
      · subst hX
        rw [digs_zero]; simp; omega
      · have := hfit hX
        have := digs_len_bl32 (N := X) (m := 2 ^ 21) (by omega)
        omega
    have hres : (digs B32 (X * 2 ^ x1.toNat)).length ≤ 2 ^ 46 := by
      by_cases hX : X = 0
      · subst hX
        rw [Nat.zero_mul, digs_zero]; simp
      · have := hfit hX
        have := digs_len_bl32 (N := X * 2 ^ x1.toNat) (m := 2 ^ 21) (by rw [bl_shl hX]; omega)
        omega
    rw [c1] at ol5 ⊢
    refine Calls.mono (Shl_spec (rx5.ahead h517) n0' (by omega) hlen) ?_
    rintro e w22 ⟨h22, z, rfl, rz⟩
    have h522 := h517.trans h22
    refine ⟨_, rfl, Calls.mono (same_spec rz hres (ol5.ahead h522).rd (by rw [if_pos rfl])) ?_⟩
    rintro e w23 ⟨h23, rfl⟩
    have h523 := h522.trans h23
    have h223 := h25.trans h523
    have b1 := digs_own_len (n := X * 2 ^ x1.toNat) rfl
    have b2 := digs_own_len (n := X / 2 ^ x1.toNat) rfl
    have b3 := digs_own_len (n := X % 2 ^ x1.toNat) rfl
    refine ⟨_, rfl, br_true rfl ?_⟩
    refine Calls.mono (own_list (base := w2.heap.size) [(l, if bigC (X * 2 ^ x1.toNat) = 0 then digs B64 (X * 2 ^ x1.toNat) else []), (r, if bigC (X / 2 ^ x1.toNat) = 0 then digs B64 (X / 2 ^ x1.toNat) else []),
      (m, if bigC (X % 2 ^ x1.toNat) = 0 then digs B64 (X % 2 ^ x1.toNat) else [])] h223.size ?_ ?_ (by simp) rfl rfl) ?_
    · intro p hp
      simp only [List.mem_cons, List.not_mem_nil, or_false] at hp
      rcases hp with rfl | rfl | rfl
      · exact ⟨ol5.ahead h523, b1⟩
      · exact ⟨(or5.ahead h523).mono h3.size, b2⟩
      · exact ⟨(om.ahead h523).mono h24.size, b3⟩
    · rw [c2] at or
      rw [c1] at ol
      simp only [List.pairwise_cons, List.mem_cons, List.not_mem_nil, or_false, forall_eq_or_imp, forall_eq, List.Pairwise.nil, and_true, false_implies, implies_true]
      exact ⟨⟨fun k => old_new ol (Nat.le_refl _) or k, fun k => old_new ol h4.size om k⟩, fun k => old_new or (Nat.le_refl _) om k⟩
    rintro e w25 ⟨rfl, hb25⟩
    have h225 : Ahead w2 w25 := low_ahead h223 (Nat.le_refl _) hb25
    refine ⟨_, rfl, br_true rfl (Calls.mono (Kept_spec (la2.ahead h225).whole (r0.ahead (h02.trans h225)) n0) ?_)⟩
    rintro e w26 ⟨rfl, rfl⟩
    exact ⟨_, rfl, br_true rfl (end_lives (h02.trans h225))⟩
  refine Calls.mono (zero_spec (rx5.ahead h517)) ?_
  rintro e w18 ⟨rfl, rfl⟩
  refine ⟨_, rfl, br_intro (fun hz => ?_) (fun hz => ?_)⟩
  · have hX : X ≠ 0 := by simpa using hz
    refine Calls.mono (Len_spec (rx5.ahead h517) (by omega)) ?_
    rintro e w19 ⟨rfl, rfl⟩
    refine ⟨_, rfl, ?_⟩
    have hblX := bl_len32 (ok_digs two32 X)
    rw [val_digs two32] at hblX
    rw [wrap_i64 (x := (bl X : Int) + x1) (by omega) (by omega)]
    refine br_intro (fun hb => ?_) (fun hb => ?_)
    · have hb' : 67108864 < (bl X : Int) + x1 := by simpa using hb
      have c1 : leftC X x1 = 3 := by rw [leftC, if_neg (by omega), if_pos ⟨hX, hb'⟩]
      rw [c1] at ol5 ⊢
      refine Calls.mono (same_nil (by omega) (ol5.ahead h517)) ?_
      rintro e w20 ⟨h20, rfl⟩
      exact ⟨_, rfl, br_true rfl (end_lives ((h05.trans h517).trans h20))⟩
    · exact fin fun _ => by simpa using hb
  · exact fin fun h => absurd (by simpa using hz) h

end Ref
end Go.Proofs.Ytaflfjbhlgbmdaa
