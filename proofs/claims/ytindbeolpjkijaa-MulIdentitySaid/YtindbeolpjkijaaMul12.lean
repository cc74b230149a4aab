/- The law MulIdentity. No condition. -/
import Derived.Test.YtindbeolpjkijaaMul11
namespace Go.Proofs.Ytindbeolpjkijaa
open Go Go.RowKit Eng Sp Dg
set_option linter.unusedVariables false
set_option linter.unusedSimpArgs false
set_option maxRecDepth 100000
namespace Mul
open _root_.Go.Proofs.Ytindbeolpjkijaa.Nat (Num OwnNil Ret bigC bigC_ok digs_len_bl Yes num_of Norm_spec)
open _root_.Go.Proofs.Ytindbeolpjkijaa.Ref (RN Lend_spec Of_spec Kept_spec Len_spec own_list old_new digs_own_len low_ahead Bk rMul_spec)

theorem bl_shl (x n : Nat) : bl (x * 2 ^ n) ≤ bl x + n := by
  refine bl_le ?_
  rw [Nat.pow_add]
  exact Nat.mul_lt_mul_of_pos_right (lt_bl x) (Nat.pow_pos (by omega))
theorem bl_add {x y m : Nat} (hx : bl x ≤ m) (hy : bl y ≤ m) : bl (x + y) ≤ m + 1 := by
  have h1 := bl_le_iff.1 hx
  have h2 := bl_le_iff.1 hy
  refine bl_le ?_
  rw [Nat.pow_succ]; omega
theorem own_numB2 {b : Nat} {w : World} {s : Slc} {n : Nat} (h : OwnNil b w s (digs B64 n)) (hl : bl n ≤ 2 ^ 30) : NumB w s n :=
  own_numB h (by have := digs_len_bl (N := n) (m := 2 ^ 24) (by omega); omega)
theorem small64 {n : Nat} (h : bl n ≤ 2 ^ 30) : (digs B64 n).length ≤ 2 ^ 24 := digs_len_bl (by omega)
theorem small32 {n : Nat} (h : bl n ≤ 2 ^ 30) : (digs B32 n).length ≤ 2 ^ 25 := digs32_bl (by omega)

theorem ofB {w : World} {s : Slc} {n : Nat} (h : NumB w s n) : Calls pr surdref01_Of_id #[s.v] w fun e w' => Ahead w w' ∧ ∃ s', e = .returned (Slc.v s') ∧ RN w' s' n := by
  obtain ⟨l, r, hl, ho, rfl⟩ := h
  exact Of_spec r hl ho

theorem ident (X Y P : Nat) (hP : 0 < P) : X % P * (Y % P) + (X % P * (Y / P) + X / P * (Y % P)) * P + X / P * (Y / P) * (P * P) = X * Y := by
  have h1 : X = X % P + P * (X / P) := (Nat.mod_add_div X P).symm
  have h2 : Y = Y % P + P * (Y / P) := (Nat.mod_add_div Y P).symm
  generalize X % P = a at *
  generalize X / P = b at *
  generalize Y % P = c at *
  generalize Y / P = d at *
  subst h1 h2
  rw [Nat.add_mul (a * d), Nat.mul_add (a + P * b), Nat.add_mul a, Nat.add_mul a]
  have e1 : a * (P * d) = a * d * P := by ac_rfl
  have e2 : P * b * c = b * c * P := by ac_rfl
  have e3 : P * b * (P * d) = b * d * (P * P) := by ac_rfl
  rw [e1, e2, e3]
  omega

set_option maxHeartbeats 1000000 in
theorem MulIdentity_ok {w : World} {s0 s1 : Slc} {l0 l1 : List Nat} {x2 : Int} (r0 : Rd .u64 w s0 (nn l0)) (o0 : ok B64 l0) (n0 : l0.length * 8 ≤ 140737488351232)
    (r1 : Rd .u64 w s1 (nn l1)) (o1 : ok B64 l1) (n1 : l1.length * 8 ≤ 140737488351232) (hk : -9223372036854775808 ≤ x2 ∧ x2 ≤ 9223372036854775807) :
    Calls pr surdlaw02_MulIdentity_id #[s0.v, s1.v, .int .i64 x2] w (Yes w) := by
  have a0 : NumB w s0 (val B64 l0) := ⟨l0, r0, n0, o0, rfl⟩
  have b0 : NumB w s1 (val B64 l1) := ⟨l1, r1, n1, o1, rfl⟩
  have xl := a0.len
  have yl := b0.len
  refine surdlaw02_MulIdentity_vc s0 s1 x2 w _ (br_intro (fun _ => end_awake (Ahead.refl _)) (fun hk0 => br_intro (fun _ => end_awake (Ahead.refl _)) (fun hk1 => ?_)))
  have hk0' : ¬ x2 < 0 := by simpa using hk0
  have hk1' : x2 ≤ 1048576 := by simpa using hk1
  obtain ⟨k, rfl⟩ : ∃ k : Nat, x2 = (k : Int) := ⟨x2.toNat, by omega⟩
  have em : ((k : Int)).toNat = k := by omega
  have hmLow : ∀ w', Ahead w w' → Calls pr mul_Low_id #[s0.v, s1.v, .int .i64 (k : Int)] w' (Ret w' (lowM (val B64 l0 * val B64 l1) k) (val B64 l0 * val B64 l1 % 2 ^ k)) := fun w' ha => by
    have := mLow_spec (k := (k : Int)) (r0.ahead ha) (by omega) o0 (r1.ahead ha) (by omega) o1 (by omega) (by omega)
    rwa [em] at this
  generalize val B64 l0 = X at *
  generalize val B64 l1 = Y at *
  refine Calls.mono (Mul_spec a0.num b0.num (by omega) (by omega)) ?_
  rintro e w1 ⟨h1, p, rfl, op⟩
  refine ⟨_, _, rfl, Calls.mono (Parts_spec (a0.ahead h1).num (b0.ahead h1).num (by omega) (by omega)) ?_⟩
  rw [em]
  rintro e w2 ⟨h2, lo, mid, hi, rfl, olo, omid, ohi, _⟩
  have h02 := h1.trans h2
  refine ⟨_, _, _, _, rfl, Calls.mono (Split_spec (a0.ahead h02).num) ?_⟩
  rw [em]
  rintro e w3 ⟨h3, al, ah, rfl, oal, oah, _⟩
  have h03 := h02.trans h3
  refine ⟨_, _, _, rfl, Calls.mono (Split_spec (b0.ahead h03).num) ?_⟩
  rw [em]
  rintro e w4 ⟨h4, bl_, bh, rfl, obl, obh, _⟩
  have h04 := h03.trans h4
  refine ⟨_, _, _, rfl, Calls.mono (hmLow _ h04) ?_⟩
  rintro e w5 ⟨h5, ml, rfl, oml⟩
  have h05 := h04.trans h5
  refine ⟨_, _, rfl, Calls.mono (mHigh_spec (k := (k : Int)) (a0.ahead h05).num (b0.ahead h05).num (by omega) (fun _ _ h => ?_)) ?_⟩
  · have := digs_len_bl (N := X) (m := 2 ^ 24) (by omega)
    have := digs_len_bl (N := Y) (m := 2 ^ 24) (by omega)
    omega
  rw [em]
  rintro e w6 ⟨h6, mh, rfl, omh⟩
  have h06 := h05.trans h6
  refine ⟨_, _, rfl, ?_⟩
  clear hmLow
  have eP : B64 ^ k = 2 ^ (64 * k) := b64_pow k
  have hPp : 0 < B64 ^ k := Nat.pow_pos (by rw [B64v]; omega)
  have hid := ident X Y (B64 ^ k) hPp
  have hcross : (X % B64 ^ k + X / B64 ^ k) * (Y % B64 ^ k + Y / B64 ^ k) = X % B64 ^ k * (Y / B64 ^ k) + X / B64 ^ k * (Y % B64 ^ k) + X % B64 ^ k * (Y % B64 ^ k) + X / B64 ^ k * (Y / B64 ^ k) := by
    rw [Nat.add_mul, Nat.mul_add, Nat.mul_add]; omega
  have hsA : splitC X (k : Int) = 0 → bl (X % B64 ^ k) ≤ 67108864 ∧ bl (X / B64 ^ k) ≤ 67108864 := fun h => by have := splitC_bl h; rwa [em] at this
  have hsB : splitC Y (k : Int) = 0 → bl (Y % B64 ^ k) ≤ 67108864 ∧ bl (Y / B64 ^ k) ≤ 67108864 := fun h => by have := splitC_bl h; rwa [em] at this
  have hlB : lowM (X * Y) (k : Int) = 0 → bl (X * Y % 2 ^ k) ≤ 67108864 := fun h => by have := lowM_bl h; rwa [em] at this
  have hhB : highM (X * Y) (k : Int) = 0 → bl (X * Y / 2 ^ k) ≤ 67108864 := fun h => by have := highM_bl h; rwa [em] at this
  have hpB := partsC_bl (k := (k : Int)) (lo := X % B64 ^ k * (Y % B64 ^ k)) (mid := X % B64 ^ k * (Y / B64 ^ k) + X / B64 ^ k * (Y % B64 ^ k)) (hi := X / B64 ^ k * (Y / B64 ^ k))
  generalize X % B64 ^ k = A at *
  generalize X / B64 ^ k = A' at *
  generalize Y % B64 ^ k = C at *
  generalize Y / B64 ^ k = C' at *
  have q7 := Ahead.alloc w6 (.cells (ints .i64 [bigC (X * Y), partsC k (A * C) (A * C' + A' * C) (A' * C'), splitC X k, splitC Y k, lowM (X * Y) k, highM (X * Y) k]).toArray 23 (0, 0))
  refine Calls.mono (all_spec (lit_rd .i64 23 w6 [bigC (X * Y), partsC k (A * C) (A * C' + A' * C) (A' * C'), splitC X k, splitC Y k, lowM (X * Y) k, highM (X * Y) k]) (by simp)) ?_
  rintro e w7 ⟨e_w7, c, rfl, hc⟩
  have q7 : Ahead w6 w7 := e_w7 ▸ q7
  have h07 := h06.trans q7
  refine ⟨_, rfl, br_intro (fun _ => end_awake h07) (fun hcc => ?_)⟩
  have hall := hc.1 (by simpa using hcc)
  have k1 : bigC (X * Y) = 0 := hall _ (by simp)
  have k2 : partsC k (A * C) (A * C' + A' * C) (A' * C') = 0 := hall _ (by simp)
  have k3 : splitC X k = 0 := hall _ (by simp)
  have k4 : splitC Y k = 0 := hall _ (by simp)
  have k5 : lowM (X * Y) k = 0 := hall _ (by simp)
  have k6 : highM (X * Y) k = 0 := hall _ (by simp)
  clear hall hc hcc
  rw [k1, if_pos rfl] at op
  rw [k2, if_pos rfl] at olo omid ohi
  rw [k3, if_pos rfl] at oal oah
  rw [k4, if_pos rfl] at obl obh
  rw [k5, if_pos rfl] at oml
  rw [k6, if_pos rfl] at omh
  have bp := bigC_bl k1
  obtain ⟨blo, bmid, bhi⟩ := hpB k2
  obtain ⟨bA, bA'⟩ := hsA k3
  obtain ⟨bC, bC'⟩ := hsB k4
  have bml := hlB k5
  have bmh := hhB k6
  clear hsA hsB hlB hhB hpB
  have h27 := (((h3.trans h4).trans h5).trans h6).trans q7
  have np := (own_numB' op bp).ahead (h2.trans h27)
  have nlo := (own_numB' olo blo).ahead h27
  have nmid := (own_numB' omid bmid).ahead h27
  have nhi := (own_numB' ohi bhi).ahead h27
  have nA := (own_numB' oal bA).ahead (((h4.trans h5).trans h6).trans q7)
  have nA' := (own_numB' oah bA').ahead (((h4.trans h5).trans h6).trans q7)
  have nC := (own_numB' obl bC).ahead ((h5.trans h6).trans q7)
  have nC' := (own_numB' obh bC').ahead ((h5.trans h6).trans q7)
  have nml := (own_numB' oml bml).ahead (h6.trans q7)
  have nmh := (own_numB' omh bmh).ahead q7
  clear op olo omid ohi oal oah obl obh oml omh
  have sA := bl_add bA bA'
  have sC := bl_add bC bC'
  have dA := small64 (n := A + A') (by omega)
  have dC := small64 (n := C + C') (by omega)
  refine Calls.mono (sum2_spec nA nA' (by omega)) ?_
  rintro e w8 ⟨h8, sa, rfl, nsa⟩
  refine ⟨_, rfl, Calls.mono (sum2_spec (nC.ahead h8) (nC'.ahead h8) (by omega)) ?_⟩
  rintro e w9 ⟨h9, sc, rfl, nsc⟩
  refine ⟨_, rfl, Calls.mono (Mul_spec (nsa.ahead h9).num nsc.num (by omega) (by omega)) ?_⟩
  rintro e w10 ⟨h10, cr, rfl, ocr⟩
  refine ⟨_, _, rfl, ?_⟩
  have q11 := Ahead.alloc w10 (.cells (ints .i64 [bigC ((A + A') * (C + C'))]).toArray 23 (0, 0))
  refine Calls.mono (all_spec (lit_rd .i64 23 w10 [bigC ((A + A') * (C + C'))]) (by simp)) ?_
  rintro e w11 ⟨e_w11, c, rfl, hc⟩
  have q11 : Ahead w10 w11 := e_w11 ▸ q11
  have h711 := ((h8.trans h9).trans h10).trans q11
  have h011 := h07.trans h711
  refine ⟨_, rfl, br_intro (fun _ => end_awake h011) (fun hcc => ?_)⟩
  have k7 : bigC ((A + A') * (C + C')) = 0 := hc.1 (by simpa using hcc) _ (by simp)
  clear hc hcc
  rw [k7, if_pos rfl] at ocr
  have ncr := (own_numB' ocr (bigC_bl k7)).ahead q11
  have x1 := bl_shl (A' * C') (128 * k)
  have x2 := bl_shl (A * C' + A' * C) (64 * k)
  have x3 := bl_shl (X * Y / 2 ^ k) k
  have x4 : bl (A' * C' * 2 ^ (128 * k) + (A * C' + A' * C) * 2 ^ (64 * k)) ≤ 2 ^ 28 + 1 := bl_add (by omega) (by omega)
  have x5 : bl (X * Y / 2 ^ k * 2 ^ k + X * Y % 2 ^ k) ≤ 2 ^ 28 + 1 := bl_add (by omega) (by omega)
  have x6 : bl (A' * C' * 2 ^ (128 * k) + (A * C' + A' * C) * 2 ^ (64 * k) + A * C) ≤ 2 ^ 28 + 1 + 1 := bl_add x4 (by omega)
  have x7 : bl (A * C' + A' * C + A * C) ≤ 67108864 + 1 := bl_add bmid blo
  have x8 : bl (A * C' + A' * C + A * C + A' * C') ≤ 67108864 + 1 + 1 := bl_add x7 (by omega)
  have hsum1 : A' * C' * 2 ^ (128 * k) + (A * C' + A' * C) * 2 ^ (64 * k) + A * C = X * Y := by
    rw [← hid, eP, ← Nat.pow_add, show 64 * k + 64 * k = 128 * k by omega]; omega
  have hsum2 : X * Y / 2 ^ k * 2 ^ k + X * Y % 2 ^ k = X * Y := Nat.div_add_mod' _ _
  have f1 := small32 (n := A' * C') (by omega)
  have f2 := small32 (n := A * C' + A' * C) (by omega)
  have f3 := small32 (n := A' * C' * 2 ^ (128 * k)) (by omega)
  have f4 := small32 (n := (A * C' + A' * C) * 2 ^ (64 * k)) (by omega)
  have f5 := small64 (n := A' * C' * 2 ^ (128 * k) + (A * C' + A' * C) * 2 ^ (64 * k)) (by omega)
  have f6 := small32 (n := X * Y / 2 ^ k) (by omega)
  have f7 := small32 (n := X * Y / 2 ^ k * 2 ^ k) (by omega)
  have f8 := small32 (n := X * Y % 2 ^ k) (by omega)
  have f9 := small64 (n := X * Y / 2 ^ k * 2 ^ k + X * Y % 2 ^ k) (by omega)
  have f10 := small64 (n := A' * C' * 2 ^ (128 * k) + (A * C' + A' * C) * 2 ^ (64 * k) + A * C) (by omega)
  have f11 := small64 (n := A * C' + A' * C + A * C) (by omega)
  have f12 := small64 (n := A * C' + A' * C + A * C + A' * C') (by omega)
  have e128 : (128 * (k : Int)).toNat = 128 * k := by omega
  have e64 : (64 * (k : Int)).toNat = 64 * k := by omega
  rw [wrap_i64 (x := 128 * (k : Int)) (by omega) (by omega), wrap_i64 (x := 64 * (k : Int)) (by omega) (by omega)]
  refine Calls.mono (ofB (nhi.ahead h711)) ?_
  rintro e w12 ⟨h12, s14, rfl, r14⟩
  refine ⟨_, rfl, Calls.mono (Ref.Shl_spec (n := 128 * (k : Int)) r14 (by omega) (by omega) (by omega)) ?_⟩
  rw [e128]
  rintro e w13 ⟨h13, s15, rfl, r15⟩
  have h713 := (h711.trans h12).trans h13
  refine ⟨_, rfl, Calls.mono (ofB (nmid.ahead h713)) ?_⟩
  rintro e w14 ⟨h14, s16, rfl, r16⟩
  refine ⟨_, rfl, Calls.mono (Ref.Shl_spec (n := 64 * (k : Int)) r16 (by omega) (by omega) (by omega)) ?_⟩
  rw [e64]
  rintro e w15 ⟨h15, s17, rfl, r17⟩
  refine ⟨_, rfl, Calls.mono (Ref.Add_spec (r15.ahead (h14.trans h15)) r17 (by omega) (by omega)) ?_⟩
  rintro e w16 ⟨h16, s18, rfl, r18⟩
  refine ⟨_, rfl, Calls.mono (Ref.Limbs_spec r18 (by omega)) ?_⟩
  rintro e w17 ⟨h17, up, rfl, oup⟩
  have nup := own_numB2 oup (by omega)
  have h717 := (((h713.trans h14).trans h15).trans h16).trans h17
  refine ⟨_, rfl, Calls.mono (ofB (nmh.ahead h717)) ?_⟩
  rintro e w18 ⟨h18, s20, rfl, r20⟩
  refine ⟨_, rfl, Calls.mono (Ref.Shl_spec (n := (k : Int)) r20 (by omega) (by omega) (by omega)) ?_⟩
  rw [em]
  rintro e w19 ⟨h19, s21, rfl, r21⟩
  have h719 := (h717.trans h18).trans h19
  refine ⟨_, rfl, Calls.mono (ofB (nml.ahead h719)) ?_⟩
  rintro e w20 ⟨h20, s22, rfl, r22⟩
  refine ⟨_, rfl, Calls.mono (Ref.Add_spec (r21.ahead h20) r22 (by omega) (by omega)) ?_⟩
  rintro e w21 ⟨h21, s23, rfl, r23⟩
  refine ⟨_, rfl, Calls.mono (Ref.Limbs_spec r23 (by omega)) ?_⟩
  rintro e w22 ⟨h22, pi, rfl, opi⟩
  have npi := own_numB2 opi (by omega)
  have h722 := ((h719.trans h20).trans h21).trans h22
  have h1722 := (((h18.trans h19).trans h20).trans h21).trans h22
  refine ⟨_, rfl, Calls.mono (sum2_spec (nup.ahead h1722) (nlo.ahead h722) (by omega)) ?_⟩
  rintro e w23 ⟨h23, s25, rfl, n25⟩
  have h723 := h722.trans h23
  refine ⟨_, rfl, Calls.mono (same2_spec (np.ahead h723) n25) ?_⟩
  rw [hsum1]
  rintro e w24 ⟨h24, rfl⟩
  have h724 := h723.trans h24
  refine ⟨_, rfl, br_true (by simp) ?_⟩
  refine Calls.mono (sum2_spec (nmid.ahead h724) (nlo.ahead h724) (by omega)) ?_
  rintro e w25 ⟨h25, s26, rfl, n26⟩
  have h725 := h724.trans h25
  refine ⟨_, rfl, Calls.mono (sum2_spec n26 (nhi.ahead h725) (by omega)) ?_⟩
  rintro e w26 ⟨h26, s27, rfl, n27⟩
  have h726 := h725.trans h26
  have h1126 : Ahead w11 w26 := ((((((((((((((h12.trans h13).trans h14).trans h15).trans h16).trans h17).trans h18).trans h19).trans h20).trans h21).trans h22).trans h23).trans h24).trans h25).trans h26)
  refine ⟨_, rfl, Calls.mono (same2_spec (ncr.ahead h1126) n27) ?_⟩
  rw [hcross]
  rintro e w27 ⟨h27', rfl⟩
  have h727 := h726.trans h27'
  refine ⟨_, rfl, br_true (by simp) ?_⟩
  refine Calls.mono (same2_spec (np.ahead h727) (npi.ahead (((((h23.trans h24).trans h25).trans h26).trans h27')))) ?_
  rw [hsum2]
  rintro e w28 ⟨h28, rfl⟩
  exact ⟨_, rfl, br_true (by simp) (end_awake (h07.trans (h727.trans h28)))⟩

end Mul
end Go.Proofs.Ytindbeolpjkijaa
