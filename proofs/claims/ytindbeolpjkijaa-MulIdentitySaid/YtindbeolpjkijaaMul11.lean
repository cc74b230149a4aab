/- mul's Low and High, the document's, and the law MulHalves for inputs of at most 2^20 limbs. -/
import Derived.Test.YtindbeolpjkijaaMul10
namespace Go.Proofs.Ytindbeolpjkijaa
open Go Go.RowKit Eng Sp Dg
set_option linter.unusedVariables false
set_option linter.unusedSimpArgs false
set_option maxRecDepth 100000
namespace Mul
open _root_.Go.Proofs.Ytindbeolpjkijaa.Nat (Num OwnNil Ret bigC bigC_ok digs_len_bl Yes num_of Norm_spec Length_spec ldN ldNf Fill stFf cutHi semShl semShr fixShl andI_nat orI_nat)
open _root_.Go.Proofs.Ytindbeolpjkijaa.Ref (RN Lend_spec Of_spec Kept_spec Len_spec own_list old_new digs_own_len low_ahead Bk rMul_spec)

def lowM (v : Nat) (k : Int) : Int := if k < 0 then 1 else bigC (v % 2 ^ k.toNat)
def highM (v : Nat) (k : Int) : Int := if k < 0 then 1 else bigC (v / 2 ^ k.toNat)

theorem low_prod (X Y n : Nat) : (X % B64 ^ (n / 64 + 1)) * (Y % B64 ^ (n / 64 + 1)) % 2 ^ n = X * Y % 2 ^ n := by
  have hd : 2 ^ n ∣ B64 ^ (n / 64 + 1) := by rw [b64_pow]; exact Nat.pow_dvd_pow 2 (by omega)
  rw [Nat.mul_mod, Nat.mod_mod_of_dvd _ hd, Nat.mod_mod_of_dvd _ hd, ← Nat.mul_mod]
theorem take_min {α : Type} (l : List α) (k : Nat) : l.take (min k l.length) = l.take k := by
  rw [Nat.min_def]
  split
  · rfl
  · rw [List.take_of_length_le (by omega), List.take_of_length_le (by omega)]
theorem tdiv64 {n : Nat} (h : n ≤ 9223372036854775807) : IntKind.i64.wrap (Int.tdiv (n : Int) 64) = ((n / 64 : Nat) : Int) := by
  have : Int.tdiv (n : Int) 64 = ((n / 64 : Nat) : Int) := by rw [Int.tdiv_eq_ediv_of_nonneg (by omega)]; omega
  rw [this, wrap_i64 (by omega) (by omega)]
theorem tmod64 (n : Nat) : Int.tmod (n : Int) 64 = ((n % 64 : Nat) : Int) := by rw [Int.tmod_eq_emod_of_nonneg (by omega)]; omega

theorem mLow_spec {w : World} {a b : Slc} {l m : List Nat} {k : Int} (ra : Rd .u64 w a (nn l)) (na : l.length ≤ 2 ^ 44) (oa : ok B64 l) (rb : Rd .u64 w b (nn m)) (nb : m.length ≤ 2 ^ 44) (ob : ok B64 m) (hk1 : k ≤ 9223372036854775807)
    (hsz : min (k.toNat / 64 + 1) l.length + min (k.toNat / 64 + 1) m.length + 16 ≤ 2 ^ 44) :
    Calls pr mul_Low_id #[a.v, b.v, .int .i64 k] w (Ret w (lowM (val B64 l * val B64 m) k) (val B64 l * val B64 m % 2 ^ k.toNat)) := by
  have hB := B64v
  have h64 : B64 = 2 ^ 64 := rfl
  have hna : a.n = l.length := by rw [ra.n, nn_length]
  have hnb : b.n = m.length := by rw [rb.n, nn_length]
  refine mul_Low_vc a b k w _ (br_intro (fun hk => ?_) (fun hk => ?_))
  · have hc : lowM (val B64 l * val B64 m) k = 1 := if_pos (by simpa using hk)
    rw [hc]
    exact ⟨Ahead.refl _, _, rfl, Or.inl ⟨rfl, if_neg (by omega)⟩⟩
  have hk' : ¬ k < 0 := by simpa using hk
  obtain ⟨n, rfl⟩ : ∃ n : Nat, k = (n : Int) := ⟨k.toNat, by omega⟩
  have em : ((n : Int)).toNat = n := by omega
  have hc : lowM (val B64 l * val B64 m) (n : Int) = bigC (val B64 l * val B64 m % 2 ^ n) := by rw [lowM, if_neg hk', em]
  rw [hc]
  rw [em] at hsz ⊢
  have hw : n % 64 < 64 := Nat.mod_lt _ (by omega)
  have hp2 : B64 ^ (n / 64) * 2 ^ (n % 64) = 2 ^ n := (pow_split n 64).symm
  have e1 : IntKind.i64.wrap (IntKind.i64.wrap (Int.tdiv (n : Int) 64) + 1) = ((n / 64 + 1 : Nat) : Int) := by rw [tdiv64 (by omega), wrap_i64 (by omega) (by omega)]; omega
  have e2 : minI ((n / 64 + 1 : Nat) : Int) (a.n : Int) = ((min (n / 64 + 1) l.length : Nat) : Int) := by unfold minI; split <;> omega
  have e3 : minI ((n / 64 + 1 : Nat) : Int) (b.n : Int) = ((min (n / 64 + 1) m.length : Nat) : Int) := by unfold minI; split <;> omega
  have e4 : IntKind.i64.wrap (((n / 64 + 1 : Nat) : Int) - 1) = ((n / 64 : Nat) : Int) := by rw [wrap_i64 (by omega) (by omega)]; omega
  rw [e1, e2, e3, e4, tmod64]
  refine Calls.mono (part_lo ra oa (by omega) _) ?_
  rw [take_min, val_take_mod two64 oa]
  rintro e w1 ⟨rfl, s, rfl, rs, ls⟩
  refine ⟨_, rfl, Calls.mono (part_lo rb ob (by omega) _) ?_⟩
  rw [take_min, val_take_mod two64 ob]
  rintro e w2 ⟨rfl, t, rfl, rt, lt⟩
  have hlp := low_prod (val B64 l) (val B64 m) n
  generalize val B64 l % B64 ^ (n / 64 + 1) = A at *
  generalize val B64 m % B64 ^ (n / 64 + 1) = C at *
  rw [← hlp]
  refine ⟨_, rfl, Calls.mono (halved_spec _ w2 s _ rs (ok_digs two64 _) t _ rt (ok_digs two64 _) 40 (by omega) (by omega) (by omega) (Nat.le_refl _)) ?_⟩
  rintro e w3 ⟨h3, u, L, rfl, ou, nu, ku, vu⟩
  rw [val_digs two64, val_digs two64] at vu
  refine ⟨_, rfl, Calls.mono (Norm_spec ou.rd (by omega) ku) ?_⟩
  have hdl := Nat.len_le ku
  rw [vu] at hdl ⊢
  rintro e w4 ⟨h4, p, rfl, op⟩
  have rp := op.rd
  have oP := ok_digs two64 (A * C)
  have vP : val B64 (digs B64 (A * C)) = A * C := val_digs two64 _
  have h04 := h3.trans h4
  refine ⟨_, rfl, Calls.mono (Length_spec rp (by omega) oP) ?_⟩
  rintro e w5 ⟨rfl, rfl⟩
  rw [vP]
  have hbl := bl_len oP
  rw [vP] at hbl
  have hcp := rp.c
  have hpn : p.n = (digs B64 (A * C)).length := by rw [rp.n, nn_length]
  have hdn := digit (by omega : 0 < B64) (digs B64 (A * C)) oP
  have hfin : ∀ {w' : World} {s : Slc} {d : List Nat}, Ahead w2 w' → Rd .u64 w' s (nn d) → d.length ≤ 2 ^ 44 → ok B64 d → val B64 d = A * C % 2 ^ n →
      Calls pr mul_fits_id #[s.v] w' fun e6 w6 => ∃ s5 : Slc, ∃ x2 : Int, e6 = .returned (Value.tuple #[s5.v, Value.int .i64 x2]) ∧ (Ret w2 (bigC (A * C % 2 ^ n)) (A * C % 2 ^ n) (.returned (Value.tuple #[s5.v, Value.int .i64 x2])) w6) := by
    intro w' s d ha hr hl ho hv
    refine Calls.mono (fits_spec hr hl ho) ?_
    rw [hv]
    rintro e w6 ⟨h6, v, rfl, ov⟩
    exact ⟨_, _, rfl, ha.trans h6, _, rfl, ov.mono ha.size⟩
  refine ⟨_, rfl, br_intro (fun hb => ?_) (fun hb => ?_)⟩
  · refine hfin h04 rp (by omega) oP ?_
    have : bl (A * C) ≤ n := by simp at hb; omega
    rw [vP, Nat.mod_eq_of_lt (bl_le_iff.1 this)]
  · have hb' : n < bl (A * C) := by simp at hb; omega
    generalize digs B64 (A * C) = D at *
    generalize A * C = P at *
    have hin : n / 64 < D.length := by omega
    refine cutHi (by omega) (by omega) ?_
    have e5 : (((n / 64 + 1 : Nat) : Int)).toNat = n / 64 + 1 := by omega
    rw [e5]
    have hr : Rd .u64 w5 ⟨p.A, n / 64 + 1, p.c⟩ (nn (D.take (n / 64 + 1))) := by rw [← nn_take]; exact rp.take (by simp; omega) (by omega)
    refine app (t := _) (e := tU64) (k := .u64) (l := []) (base := w5.heap.size) (by kernel_rfl) hr (by simp; omega) (.inl ⟨rfl, rfl⟩) (Nat.le_refl _) (by simp; omega) ?_
    intro s' w7 b' hb' hc' ho hbl' hah
    rw [List.nil_append] at ho
    have h7 : Ahead w5 w7 := hbl'
    have hf : Fill w2 w7 s' (D.take (n / 64 + 1)) (fun _ => True) := ⟨b', w2, ho, hc', Nat.le_trans h04.size hb', h04.trans h7, h04.trans h7, Nat.le_trans h04.size hb', trivial⟩
    refine ldNf hf.rd (by omega) (by simp; omega) ?_
    have e6 : (((n / 64 : Nat) : Int)).toNat = n / 64 := by omega
    rw [e6, getD_take _ (by omega)]
    have hx := ok_getD oP (by omega : 0 < B64) (n / 64)
    have hp3 : 2 ^ (n % 64) < 2 ^ 64 := Nat.pow_lt_pow_right (by omega) hw
    have hp4 : 0 < 2 ^ (n % 64) := Nat.pow_pos (by omega)
    refine fixShl (x := 1) (by omega) ?_
    rw [Nat.one_mul, Nat.mod_eq_of_lt (show 2 ^ (n % 64) < B64 from hp3), wrap_u64' (x := ((2 ^ (n % 64) : Nat) : Int) - 1) (by omega) (by omega), show ((2 ^ (n % 64) : Nat) : Int) - 1 = ((2 ^ (n % 64) - 1 : Nat) : Int) by omega]
    rw [andI_nat hx (by omega), Nat.and_two_pow_sub_one_eq_mod]
    refine stFf hf (Ahead.drew _) (by omega) (by simp; omega) ?_
    intro w8 hf8
    rw [e6] at hf8
    have hv : val B64 ((D.take (n / 64 + 1)).set (n / 64) (D.getD (n / 64) 0 % 2 ^ (n % 64))) = P % 2 ^ n := by
      have e := val_take_set (B := B64) (D.take (n / 64 + 1)) (n / 64) (D.getD (n / 64) 0 % 2 ^ (n % 64)) (by simp; omega)
      rw [List.take_of_length_le (by simp; omega), List.take_take, Nat.min_eq_left (by omega)] at e
      rw [e, take_val (by omega) oP, hdn, vP, ← hp2, Nat.mod_mul]
      congr 2
      rw [h64, show 2 ^ 64 = 2 ^ (n % 64) * 2 ^ (64 - n % 64) by rw [← Nat.pow_add]; congr 1; omega, Nat.mod_mul_right_mod]
    exact hfin hf8.base hf8.rd (by simp; omega) (ok_set (ok_take oP _) (Nat.lt_of_le_of_lt (Nat.mod_le _ _) hx)) hv

set_option maxHeartbeats 1000000 in
theorem mHigh_spec {w : World} {a b : Slc} {x y : Nat} {k : Int} (ha : Num w a x) (hb : Num w b y) (hk1 : k ≤ 9223372036854775807)
    (hsz : x ≠ 0 → y ≠ 0 → (bl x : Int) + bl y ≤ 67108865 + k → (digs B64 x).length + (digs B64 y).length + 16 ≤ 2 ^ 44) :
    Calls pr mul_High_id #[a.v, b.v, .int .i64 k] w (Ret w (highM (x * y) k) (x * y / 2 ^ k.toNat)) := by
  have hB := B64v
  have h64 : B64 = 2 ^ 64 := rfl
  have ox' := ha.bl
  have oy' := hb.bl
  have hP := val_digs two64 (x * y)
  have oP := ok_digs two64 (x * y)
  have hw : k.toNat % 64 < 64 := Nat.mod_lt _ (by omega)
  have hp2 : B64 ^ (k.toNat / 64) * 2 ^ (k.toNat % 64) = 2 ^ k.toNat := (pow_split k.toNat 64).symm
  obtain ⟨l, ra, na, oa, ea⟩ := ha
  obtain ⟨m, rb, nb, ob, eb⟩ := hb
  refine mul_High_vc a b k w _ (fun p t12 out t14 w' => 0 ≤ k ∧ ∃ (j : Nat) (d : List Nat) (b : Nat) (w6 : World), t12 = ((k.toNat % 64 : Nat) : Int) ∧ t14 = ((k.toNat / 64 + j : Nat) : Int) ∧ (digs B64 (x * y)).length ≤ 2 ^ 44 ∧ (j = 0 ∨ k.toNat / 64 + j ≤ (digs B64 (x * y)).length) ∧
      d.length = j ∧ ok B64 d ∧ Ahead w w6 ∧ Rd .u64 w6 p (nn (digs B64 (x * y))) ∧ Ahead w6 w' ∧ w6.heap.size ≤ b ∧ Own .u64 tU64 w' out (nn d) b ∧ out.c = (digs B64 (x * y)).length ∧ ∀ i, i < j → d.getD i 0 = x * y / 2 ^ k.toNat / B64 ^ i % B64)
    (fun p _ _ i _ => (p.n - i).toNat) ?_ ?_
  · refine br_intro (fun hk => ?_) (fun hk => ?_)
    · have hc : highM (x * y) k = 1 := if_pos (by simpa using hk)
      rw [hc]
      exact ⟨Ahead.refl _, _, rfl, Or.inl ⟨rfl, if_neg (by omega)⟩⟩
    have hk' : ¬ k < 0 := by simpa using hk
    obtain ⟨n, rfl⟩ : ∃ n : Nat, k = (n : Int) := ⟨k.toNat, by omega⟩
    have em : ((n : Int)).toNat = n := by omega
    have hc : highM (x * y) (n : Int) = bigC (x * y / 2 ^ n) := by rw [highM, if_neg hk', em]
    rw [hc]
    simp only [em] at hw hp2 ⊢
    refine Calls.mono (Norm_spec ra na oa) ?_
    rintro e w1 ⟨h1, s, rfl, os⟩
    refine ⟨_, rfl, Calls.mono (Norm_spec (rb.ahead h1) nb ob) ?_⟩
    rintro e w2 ⟨h2, t, rfl, ot⟩
    rw [ea] at os
    rw [eb] at ot
    have h02 := h1.trans h2
    have rs := (os.ahead h2).rd
    have rt := ot.rd
    have hdx := Nat.len_le oa
    have hdy := Nat.len_le ob
    rw [ea] at hdx
    rw [eb] at hdy
    refine ⟨_, rfl, Calls.mono (Length_spec rs (by omega) (ok_digs two64 _)) ?_⟩
    rw [val_digs two64]
    rintro e w3 ⟨rfl, rfl⟩
    refine ⟨_, rfl, Calls.mono (Length_spec rt (by omega) (ok_digs two64 _)) ?_⟩
    rw [val_digs two64]
    rintro e w4 ⟨rfl, rfl⟩
    have zero : x * y / 2 ^ n = 0 → Ret w (bigC (x * y / 2 ^ n)) (x * y / 2 ^ n) (.returned (Value.tuple #[(⟨none, 0, 0⟩ : Slc).v, Value.int .i64 0])) w4 := by
      intro h
      rw [h]
      have hc0 : bigC 0 = 0 := bigC_ok (by rw [bl_zero]; omega)
      rw [hc0]
      exact ⟨h02, _, rfl, Or.inl ⟨rfl, by rw [if_pos rfl, digs_zero]⟩⟩
    have z0 : ∀ z, bl z = 0 → z = 0 := fun z h => by
      rcases Nat.eq_zero_or_pos z with h1 | h1
      · exact h1
      · have := bl_pos (n := z) (by omega); omega
    refine ⟨_, rfl, br_intro (fun hx0 => ?_) (fun hx0 => br_intro (fun hy0 => ?_) (fun hy0 => ?_))⟩
    · refine zero ?_
      rw [z0 x (by simpa using hx0)]; simp
    · refine zero ?_
      rw [z0 y (by simpa using hy0)]; simp
    have hxn : x ≠ 0 := fun h => by rw [h, bl_zero] at hx0; simp at hx0
    have hyn : y ≠ 0 := fun h => by rw [h, bl_zero] at hy0; simp at hy0
    have p1 := bl_pos hxn
    have p2 := bl_pos hyn
    rw [wrap_i64 (x := (bl x : Int) + (bl y : Int)) (by omega) (by omega), wrap_i64 (x := (bl x : Int) + (bl y : Int) - 1) (by omega) (by omega), wrap_i64 (by omega) (by omega)]
    refine br_intro (fun hsm => ?_) (fun hsm => br_intro (fun hg => ?_) (fun hg => ?_))
    · refine zero ?_
      have h3 : bl x + bl y ≤ n := by simp at hsm; omega
      have h4 := bl_le_mul x y
      exact Nat.div_eq_of_lt (bl_le_iff.1 (by omega))
    · have hc3 : bigC (x * y / 2 ^ n) = 3 := by
        refine bigC_ne fun h => ?_
        have h3 := bl_mul hxn hyn
        have h4 := bl_le_iff.1 h
        have h5 : x * y < 2 ^ (67108864 + n) := by
          rw [Nat.pow_add]
          rwa [Nat.div_lt_iff_lt_mul (Nat.pow_pos (by omega))] at h4
        have h6 := bl_le_iff.2 h5
        simp at hg
        omega
      rw [hc3]
      exact ⟨h02, _, rfl, Or.inl ⟨rfl, if_neg (by omega)⟩⟩
    · have hs' := hsz hxn hyn (by simp at hg; omega)
      refine Calls.mono (halved_spec _ w4 s _ rs (ok_digs two64 _) t _ rt (ok_digs two64 _) 40 (by omega) (by omega) (by omega) (Nat.le_refl _)) ?_
      rintro e w5 ⟨h5, u, L, rfl, ou, nu, ku, vu⟩
      rw [val_digs two64, val_digs two64] at vu
      refine ⟨_, rfl, Calls.mono (Norm_spec ou.rd (by omega) ku) ?_⟩
      have hdl := Nat.len_le ku
      rw [vu] at hdl ⊢
      rintro e w6 ⟨h6, p, rfl, op⟩
      have hpn : p.n = (digs B64 (x * y)).length := by rw [op.rd.n, nn_length]
      have h06 := (h02.trans h5).trans h6
      refine ⟨_, rfl, ?_⟩
      rw [hpn, tmod64, tdiv64 (by omega), wrap_u64' (x := ((n % 64 : Nat) : Int)) (by omega) (by omega)]
      refine mk (e := tU64) (k := .u64) (by kernel_rfl) (Int.le_refl 0) (by omega) (by omega) ?_
      intro s' w' hc' ho ha' hs''
      refine ⟨by omega, 0, [], w6.heap.size, w6, rfl, by simp, by omega, .inl rfl, rfl, ?_, h06, op.rd, ha', Nat.le_refl _, ho, by rw [hc']; omega, fun i hi => by omega⟩
      intro z hz; cases hz
  · rintro p t12 out t14 w1 ⟨hk0, j, d, bk, w6, rfl, rfl, hDl, hj, hdl, od, h06, rp, h61, hbk, ho, hoc, hd⟩
    have hk' : ¬ k < 0 := by omega
    obtain ⟨n, rfl⟩ : ∃ n : Nat, k = (n : Int) := ⟨k.toNat, by omega⟩
    have em : ((n : Int)).toNat = n := by omega
    have hc : highM (x * y) (n : Int) = bigC (x * y / 2 ^ n) := by rw [highM, if_neg hk', em]
    rw [hc]
    simp only [em] at hw hp2 hj hd ⊢
    have hpn : p.n = (digs B64 (x * y)).length := by rw [rp.n, nn_length]
    rw [hpn]
    have rp1 := rp.ahead h61
    clear hsz ra rb
    generalize digs B64 (x * y) = D at *
    have hN : ∀ i, x * y / 2 ^ n / B64 ^ i % B64 = D.getD (n / 64 + i) 0 / 2 ^ (n % 64) + 2 ^ (64 - n % 64) * (D.getD (n / 64 + i + 1) 0 % 2 ^ (n % 64)) := by
      intro i
      rw [digit (by omega : 0 < B64) D oP (n / 64 + i), digit (by omega : 0 < B64) D oP (n / 64 + i + 1), hP, ← hp2]
      generalize x * y = V
      rw [h64, div_pow_add, right_digit _ _ _ _ hw]
      congr 2
      generalize V / (2 ^ 64) ^ (n / 64 + i + 1) = U
      rw [show 2 ^ 64 = 2 ^ (n % 64) * 2 ^ (64 - n % 64) by rw [← Nat.pow_add]; congr 1; omega, Nat.mod_mul_right_mod]
    refine br_intro (fun hlt => ?_) (fun hge => ?_)
    · have hj' : n / 64 + j < D.length := by simp at hlt; omega
      have hx := ok_getD oP (by omega : 0 < B64) (n / 64 + j)
      have e8 : IntKind.i64.wrap (((n / 64 + j : Nat) : Int) + 1) = ((n / 64 + j + 1 : Nat) : Int) := by rw [wrap_i64 (by omega) (by omega)]; omega
      rw [e8]
      refine ldN rp1 (by omega) (by omega) ?_
      refine semShr (by omega) ?_
      have e9 : (((n / 64 + j : Nat) : Int)).toNat = n / 64 + j := by omega
      have e10 : (((n / 64 + j + 1 : Nat) : Int)).toNat = n / 64 + j + 1 := by omega
      rw [e9]
      have hq : D.getD (n / 64 + j) 0 / 2 ^ (n % 64) < B64 := Nat.lt_of_le_of_lt (Nat.div_le_self _ _) hx
      have hql : D.getD (n / 64 + j) 0 / 2 ^ (n % 64) < 2 ^ (64 - n % 64) := by
        rw [Nat.div_lt_iff_lt_mul (Nat.pow_pos (by omega)), ← Nat.pow_add, show 64 - n % 64 + n % 64 = 64 by omega]
        exact hx
      have hNj := hN j
      have hvlt : x * y / 2 ^ n / B64 ^ j % B64 < B64 := Nat.mod_lt _ (by omega)
      refine br_intro (fun hin => br_intro (fun hs0 => ?_) (fun hs0 => ?_)) (fun hin => ?_)
      · have hin' : n / 64 + j + 1 < D.length := by simp at hin; omega
        have hs1 : 0 < n % 64 := by simp at hs0; omega
        refine ldN rp1 (by omega) (by omega) ?_
        rw [e10, show IntKind.u64.wrap (64 - ((n % 64 : Nat) : Int)) = ((64 - n % 64 : Nat) : Int) by rw [wrap_u64' (by omega) (by omega)]; omega]
        refine semShl (by omega) ?_
        rw [orI_nat hq (Nat.mod_lt _ (by omega))]
        have e5 : D.getD (n / 64 + j + 1) 0 * 2 ^ (64 - n % 64) % B64 = 2 ^ (64 - n % 64) * (D.getD (n / 64 + j + 1) 0 % 2 ^ (n % 64)) := by
          rw [h64, shl_lo _ _ _ (by omega)]
          congr 3; omega
        rw [e5, or_add hql, ← hNj]
        have hlit : Rd .u64 (w1.alloc (.cells #[Value.int .u64 ((x * y / 2 ^ n / B64 ^ j % B64 : Nat) : Int)] tU64 (0, 0))) ⟨some ⟨w1.heap.size, 0, none⟩, 1, 1⟩ (nn [x * y / 2 ^ n / B64 ^ j % B64]) :=
          Own.rd (t := tU64) (b := w1.heap.size) ⟨rfl, [], rfl, by rw [get_alloc]; rfl⟩
        have hal := Ahead.alloc w1 (.cells #[Value.int .u64 ((x * y / 2 ^ n / B64 ^ j % B64 : Nat) : Int)] tU64 (0, 0))
        refine appRoom (t := _) (e := tU64) (k := .u64) (by kernel_rfl) hlit (by simp) (ho.ahead hal) (by rw [hoc, nn_length, nn_length, hdl]; simp; omega) ?_
        intro s' w4 hc' ho' hah
        rw [← nn_append] at ho'
        refine ⟨⟨hk0, j + 1, d ++ [x * y / 2 ^ n / B64 ^ j % B64], bk, w6, by trivial, by rfl, hDl, .inr (by omega), by simp; omega, ?_, h06, rp, hah w6 (h61.trans hal) hbk, hbk, ho', by rw [hc', hoc], ?_⟩, by omega⟩
        · intro z hz
          rcases List.mem_append.1 hz with hz | hz
          · exact od z hz
          · rw [List.mem_singleton.1 hz]; exact hvlt
        · intro i hi
          rcases Nat.lt_or_ge i j with h | h
          · rw [← hd i h]; simp [List.getD_eq_getElem?_getD, List.getElem?_append, hdl, h]
          · have : i = j := by omega
            subst this
            simp [List.getD_eq_getElem?_getD, List.getElem?_append, hdl]
      · have hin' : n / 64 + j + 1 < D.length := by simp at hin; omega
        have hs1 : n % 64 = 0 := by simp at hs0; omega
        have hNj' : x * y / 2 ^ n / B64 ^ j % B64 = D.getD (n / 64 + j) 0 / 2 ^ (n % 64) := by rw [hNj, hs1]; simp [Nat.mod_one]
        rw [← hNj']
        have hlit : Rd .u64 (w1.alloc (.cells #[Value.int .u64 ((x * y / 2 ^ n / B64 ^ j % B64 : Nat) : Int)] tU64 (0, 0))) ⟨some ⟨w1.heap.size, 0, none⟩, 1, 1⟩ (nn [x * y / 2 ^ n / B64 ^ j % B64]) :=
          Own.rd (t := tU64) (b := w1.heap.size) ⟨rfl, [], rfl, by rw [get_alloc]; rfl⟩
        have hal := Ahead.alloc w1 (.cells #[Value.int .u64 ((x * y / 2 ^ n / B64 ^ j % B64 : Nat) : Int)] tU64 (0, 0))
        refine appRoom (t := _) (e := tU64) (k := .u64) (by kernel_rfl) hlit (by simp) (ho.ahead hal) (by rw [hoc, nn_length, nn_length, hdl]; simp; omega) ?_
        intro s' w4 hc' ho' hah
        rw [← nn_append] at ho'
        refine ⟨⟨hk0, j + 1, d ++ [x * y / 2 ^ n / B64 ^ j % B64], bk, w6, by trivial, by rfl, hDl, .inr (by omega), by simp; omega, ?_, h06, rp, hah w6 (h61.trans hal) hbk, hbk, ho', by rw [hc', hoc], ?_⟩, by omega⟩
        · intro z hz
          rcases List.mem_append.1 hz with hz | hz
          · exact od z hz
          · rw [List.mem_singleton.1 hz]; exact hvlt
        · intro i hi
          rcases Nat.lt_or_ge i j with h | h
          · rw [← hd i h]; simp [List.getD_eq_getElem?_getD, List.getElem?_append, hdl, h]
          · have : i = j := by omega
            subst this
            simp [List.getD_eq_getElem?_getD, List.getElem?_append, hdl]
      · have hin' : D.length ≤ n / 64 + j + 1 := by simp at hin; omega
        have hNj' : x * y / 2 ^ n / B64 ^ j % B64 = D.getD (n / 64 + j) 0 / 2 ^ (n % 64) := by rw [hNj, getD_ge D 0 hin', Nat.zero_mod, Nat.mul_zero, Nat.add_zero]
        rw [← hNj']
        have hlit : Rd .u64 (w1.alloc (.cells #[Value.int .u64 ((x * y / 2 ^ n / B64 ^ j % B64 : Nat) : Int)] tU64 (0, 0))) ⟨some ⟨w1.heap.size, 0, none⟩, 1, 1⟩ (nn [x * y / 2 ^ n / B64 ^ j % B64]) :=
          Own.rd (t := tU64) (b := w1.heap.size) ⟨rfl, [], rfl, by rw [get_alloc]; rfl⟩
        have hal := Ahead.alloc w1 (.cells #[Value.int .u64 ((x * y / 2 ^ n / B64 ^ j % B64 : Nat) : Int)] tU64 (0, 0))
        refine appRoom (t := _) (e := tU64) (k := .u64) (by kernel_rfl) hlit (by simp) (ho.ahead hal) (by rw [hoc, nn_length, nn_length, hdl]; simp; omega) ?_
        intro s' w4 hc' ho' hah
        rw [← nn_append] at ho'
        refine ⟨⟨hk0, j + 1, d ++ [x * y / 2 ^ n / B64 ^ j % B64], bk, w6, by trivial, by rfl, hDl, .inr (by omega), by simp; omega, ?_, h06, rp, hah w6 (h61.trans hal) hbk, hbk, ho', by rw [hc', hoc], ?_⟩, by omega⟩
        · intro z hz
          rcases List.mem_append.1 hz with hz | hz
          · exact od z hz
          · rw [List.mem_singleton.1 hz]; exact hvlt
        · intro i hi
          rcases Nat.lt_or_ge i j with h | h
          · rw [← hd i h]; simp [List.getD_eq_getElem?_getD, List.getElem?_append, hdl, h]
          · have : i = j := by omega
            subst this
            simp [List.getD_eq_getElem?_getD, List.getElem?_append, hdl]
    · have hj' : D.length ≤ n / 64 + j := by simp at hge; omega
      have hv : val B64 d = x * y / 2 ^ n := by
        refine val_of_digits (by omega) d _ ?_ (fun i hi => hd i (by omega))
        rw [Nat.div_lt_iff_lt_mul (Nat.pow_pos (by omega)), ← hp2, ← Nat.mul_assoc, hdl, ← Nat.pow_add, ← hP]
        refine Nat.lt_of_lt_of_le (val_lt oP) (Nat.le_trans (Nat.pow_le_pow_right (by omega) (show D.length ≤ j + n / 64 by omega)) (Nat.le_mul_of_pos_right _ (Nat.pow_pos (by omega))))
      refine Calls.mono (fits_spec ho.rd (by omega) od) ?_
      rw [hv]
      rintro e w9 ⟨h9, v, rfl, ov⟩
      have h0 := h06.trans h61
      exact ⟨_, _, rfl, h0.trans h9, _, rfl, ov.mono h0.size⟩

theorem refLow_spec {w : World} {a b : Slc} {x y : Nat} {k : Int} (ha : RN w a x) (hb : RN w b y) (la : (digs B32 x).length + (digs B32 y).length + 8 ≤ 2 ^ 45) (hk1 : k ≤ 9223372036854775807) :
    Calls pr surdref02_Low_id #[a.v, b.v, .int .i64 k] w (RAns w (lowM (x * y) k) (x * y % 2 ^ k.toNat)) := by
  have m1 := digs_mul_len (x := x) (y := y) two32
  have m2 : (digs B32 (x * y % 2 ^ k.toNat)).length ≤ (digs B32 (x * y)).length := Ref.len_mono two32 (Nat.mod_le _ _)
  refine surdref02_Low_vc a b k w _ (br_intro (fun hk => ?_) (fun hk => ?_))
  · rw [lowM, if_pos (by simpa using hk)]
    exact ⟨Ahead.refl _, _, rfl, fun h => by omega⟩
  have hk' : ¬ k < 0 := by simpa using hk
  rw [lowM, if_neg hk']
  refine Calls.mono (rMul_spec ha hb (by omega)) ?_
  rintro e w1 ⟨h1, s, rfl, rs⟩
  refine ⟨_, rfl, Calls.mono (Ref.Low_spec rs (by omega) hk1 (by omega)) ?_⟩
  rintro e w2 ⟨h2, t, rfl, rt⟩
  refine ⟨_, rfl, Calls.mono (Told_spec rt (by omega)) ?_⟩
  rintro e w3 ⟨h3, u, rfl, ru⟩
  exact ⟨_, _, rfl, (h1.trans h2).trans h3, _, rfl, ru⟩

theorem refHigh_spec {w : World} {a b : Slc} {x y : Nat} {k : Int} (ha : RN w a x) (hb : RN w b y) (la : (digs B32 x).length + (digs B32 y).length + 8 ≤ 2 ^ 45) (hk1 : k ≤ 9223372036854775807) :
    Calls pr surdref02_High_id #[a.v, b.v, .int .i64 k] w (RAns w (highM (x * y) k) (x * y / 2 ^ k.toNat)) := by
  have m1 := digs_mul_len (x := x) (y := y) two32
  have m2 : (digs B32 (x * y / 2 ^ k.toNat)).length ≤ (digs B32 (x * y)).length := Ref.len_mono two32 (Nat.div_le_self _ _)
  refine surdref02_High_vc a b k w _ (br_intro (fun hk => ?_) (fun hk => ?_))
  · rw [highM, if_pos (by simpa using hk)]
    exact ⟨Ahead.refl _, _, rfl, fun h => by omega⟩
  have hk' : ¬ k < 0 := by simpa using hk
  rw [highM, if_neg hk']
  refine Calls.mono (rMul_spec ha hb (by omega)) ?_
  rintro e w1 ⟨h1, s, rfl, rs⟩
  refine ⟨_, rfl, Calls.mono (Ref.Shr_spec rs (by omega) hk1 (by omega)) ?_⟩
  rintro e w2 ⟨h2, t, rfl, rt⟩
  refine ⟨_, rfl, Calls.mono (Told_spec rt (by omega)) ?_⟩
  rintro e w3 ⟨h3, u, rfl, ru⟩
  exact ⟨_, _, rfl, (h1.trans h2).trans h3, _, rfl, ru⟩

theorem lowM_bl {v : Nat} {k : Int} (h : lowM v k = 0) : bl (v % 2 ^ k.toNat) ≤ 67108864 := by
  unfold lowM at h
  split at h
  · omega
  · exact bigC_bl h
theorem highM_bl {v : Nat} {k : Int} (h : highM v k = 0) : bl (v / 2 ^ k.toNat) ≤ 67108864 := by
  unfold highM at h
  split at h
  · omega
  · exact bigC_bl h

theorem MulHalves_ok {w : World} {s0 s1 : Slc} {l0 l1 : List Nat} {x2 : Int} (r0 : Rd .u64 w s0 (nn l0)) (o0 : ok B64 l0) (n0 : l0.length ≤ 1048576)
    (r1 : Rd .u64 w s1 (nn l1)) (o1 : ok B64 l1) (n1 : l1.length ≤ 1048576) (hk : -9223372036854775808 ≤ x2 ∧ x2 ≤ 9223372036854775807) :
    Calls pr surdlaw02_MulHalves_id #[s0.v, s1.v, .int .i64 x2] w (Yes w) := by
  have hx := len32 o0
  have hy := len32 o1
  have hdx := Nat.len_le o0
  have hdy := Nat.len_le o1
  refine surdlaw02_MulHalves_vc s0 s1 x2 w _ ?_
  refine Calls.mono (Lend_spec r0 (by omega) o0) ?_
  rintro e w1 ⟨h1, wa, pa, rfl, la⟩
  refine ⟨_, _, rfl, Calls.mono (Lend_spec (r1.ahead h1) (by omega) o1) ?_⟩
  rintro e w2 ⟨h2, wb, pb, rfl, lb⟩
  have h02 := h1.trans h2
  refine ⟨_, _, rfl, Calls.mono (Of_spec (r0.ahead h02) (by omega) o0) ?_⟩
  rintro e w3 ⟨h3, x, rfl, rx⟩
  have h03 := h02.trans h3
  refine ⟨_, rfl, Calls.mono (Of_spec (r1.ahead h03) (by omega) o1) ?_⟩
  rintro e w4 ⟨h4, y, rfl, ry⟩
  have h04 := h03.trans h4
  have la4 := la.ahead ((h2.trans h3).trans h4)
  have lb4 := lb.ahead (h3.trans h4)
  refine ⟨_, rfl, Calls.mono (refLow_spec (rx.ahead h4) ry (by omega) hk.2) ?_⟩
  rintro e w5 ⟨h5, lo, rfl, rlo⟩
  have h05 := h04.trans h5
  refine ⟨_, _, rfl, Calls.mono (Of_spec (r0.ahead h05) (by omega) o0) ?_⟩
  rintro e w6 ⟨h6, x', rfl, rx'⟩
  have h06 := h05.trans h6
  refine ⟨_, rfl, Calls.mono (Of_spec (r1.ahead h06) (by omega) o1) ?_⟩
  rintro e w7 ⟨h7, y', rfl, ry'⟩
  refine ⟨_, rfl, Calls.mono (refHigh_spec (rx'.ahead h7) ry' (by omega) hk.2) ?_⟩
  rintro e w8 ⟨h8, hi, rfl, rhi⟩
  have h58 := (h6.trans h7).trans h8
  have h48 := h5.trans h58
  have h08 := h04.trans h48
  have la8 := la4.ahead h48
  have lb8 := lb4.ahead h48
  have pna : Num w8 pa (val B64 l0) := num_of la8.part o0 (by omega)
  have pnb : Num w8 pb (val B64 l1) := num_of lb8.part o1 (by omega)
  refine ⟨_, _, rfl, Calls.mono (mLow_spec la8.part (by omega) o0 lb8.part (by omega) o1 hk.2 (by omega)) ?_⟩
  generalize val B64 l0 = X at *
  generalize val B64 l1 = Y at *
  rintro e w9 ⟨h9, p, rfl, op⟩
  refine ⟨_, _, rfl, Calls.mono (mHigh_spec (pna.ahead h9) (pnb.ahead h9) hk.2 (fun _ _ _ => by omega)) ?_⟩
  rintro e w10 ⟨h10, q, rfl, oq⟩
  refine ⟨_, _, rfl, Calls.mono (alike_spec (op.ahead h10).rd (fun hc => (((rlo hc).ahead h58).ahead h9).ahead h10) lowM_bl) ?_⟩
  rintro e w11 ⟨h11, rfl⟩
  refine ⟨_, rfl, br_true rfl (Calls.mono (alike_spec (oq.ahead h11).rd (fun hc => (((rhi hc).ahead h9).ahead h10).ahead h11) highM_bl) ?_)⟩
  rintro e w12 ⟨h12, rfl⟩
  have h1012 := h11.trans h12
  have h812 := (h9.trans h10).trans h1012
  refine ⟨_, rfl, br_true rfl ?_⟩
  refine Calls.mono (own_list (base := w8.heap.size) [(p, if lowM (X * Y) x2 = 0 then digs B64 (X * Y % 2 ^ x2.toNat) else []), (q, if highM (X * Y) x2 = 0 then digs B64 (X * Y / 2 ^ x2.toNat) else [])] h812.size ?_ ?_ (by simp) rfl rfl) ?_
  · intro z hz
    simp only [List.mem_cons, List.not_mem_nil, or_false] at hz
    rcases hz with rfl | rfl
    · exact ⟨(op.ahead h10).ahead h1012, own_len_of lowM_bl⟩
    · exact ⟨(oq.ahead h1012).mono h9.size, own_len_of highM_bl⟩
  · simp only [List.pairwise_cons, List.mem_cons, List.not_mem_nil, or_false, forall_eq, List.Pairwise.nil, and_true, false_implies, implies_true]
    exact fun k => old_new op (Nat.le_refl _) oq k
  rintro e w14 ⟨rfl, hb14⟩
  have h814 : Ahead w8 w14 := low_ahead h812 (Nat.le_refl _) hb14
  have h014 := h08.trans h814
  refine ⟨_, rfl, br_true rfl (Calls.mono (Kept_spec (la8.ahead h814).whole (r0.ahead h014) (by omega)) ?_)⟩
  rintro e w15 ⟨rfl, rfl⟩
  refine ⟨_, rfl, br_true rfl (Calls.mono (Kept_spec (lb8.ahead h814).whole (r1.ahead h014) (by omega)) ?_)⟩
  rintro e w16 ⟨rfl, rfl⟩
  exact ⟨_, rfl, br_true rfl (end_awake h014)⟩

end Mul
end Go.Proofs.Ytindbeolpjkijaa
