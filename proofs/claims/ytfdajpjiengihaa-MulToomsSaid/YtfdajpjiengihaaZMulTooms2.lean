/- What the law leans on, part 2. No condition. -/
import Derived.Test.YtfdajpjiengihaaZMulTooms1
namespace Go.Proofs.Ytfdajpjiengihaa
open Go Go.RowKit Eng Sp Dg
set_option linter.unusedVariables false
set_option linter.unusedSimpArgs false
set_option maxRecDepth 100000
namespace Mul
open _root_.Go.Proofs.Ytfdajpjiengihaa.Nat (ldN ldNf stN mkN Fill mkF stF stFf Num OwnNil add64 sub64 len_le Norm_spec)

theorem part_lo {w : World} {a : Slc} {l : List Nat} (h : Rd .u64 w a (nn l)) (ol : ok B64 l) (ll : l.length ≤ 2 ^ 46) (k : Nat) :
    Calls pr mul_part_id #[a.v, .int .i64 0, .int .i64 (k : Int)] w fun e w' => w' = w ∧ ∃ s, e = .returned (Slc.v s) ∧ Rd .u64 w s (nn (digs B64 (val B64 (l.take k)))) ∧ (digs B64 (val B64 (l.take k))).length ≤ k := by
  refine Calls.mono (part_spec h ol ll (f := 0) (t := (k : Int)) (by omega) (by simp) (by omega)) ?_
  rintro e w' ⟨rfl, s, rfl, hr⟩
  have e1 : (l.drop (min (0 : Int).toNat l.length)).take (min ((k : Int)).toNat l.length - min (0 : Int).toNat l.length) = l.take k := by
    simp
  rw [e1] at hr
  exact ⟨rfl, s, rfl, hr, Nat.le_trans (len_le (ok_take ol k)) (by simp; omega)⟩
theorem part_hi {w : World} {a : Slc} {l : List Nat} (h : Rd .u64 w a (nn l)) (ol : ok B64 l) (ll : l.length ≤ 2 ^ 46) (k : Nat) (n : Nat) (hn : n = l.length) :
    Calls pr mul_part_id #[a.v, .int .i64 (k : Int), .int .i64 (n : Int)] w fun e w' => w' = w ∧ ∃ s, e = .returned (Slc.v s) ∧ Rd .u64 w s (nn (digs B64 (val B64 (l.drop k)))) ∧ (digs B64 (val B64 (l.drop k))).length ≤ l.length - k := by
  refine Calls.mono (part_spec h ol ll (f := (k : Int)) (t := (n : Int)) (by omega) (by simp; omega) (by omega)) ?_
  rintro e w' ⟨rfl, s, rfl, hr⟩
  have e1 : (l.drop (min ((k : Int)).toNat l.length)).take (min ((n : Int)).toNat l.length - min ((k : Int)).toNat l.length) = l.drop k := by
    rw [hn]
    simp
    rw [Nat.min_def]; split
    · rw [List.take_of_length_le (by simp)]
    · rw [List.drop_of_length_le (Nat.le_refl _), List.drop_of_length_le (by omega)]; simp
  rw [e1] at hr
  exact ⟨rfl, s, rfl, hr, Nat.le_trans (len_le (ok_drop ol k)) (by simp)⟩

/-- An answer that is a row of the call's own with limbs of the number. -/
def Res (w : World) (N m : Nat) (e : Ending) (w' : World) : Prop := Ahead w w' ∧ ∃ s l, e = .returned (Slc.v s) ∧ OwnNil w.heap.size w' s l ∧ l.length ≤ m ∧ ok B64 l ∧ val B64 l = N

theorem kara (A B C D P : Nat) : A * C + ((A + B) * (C + D) - A * C - B * D) * P + B * D * (P * P) = (A + P * B) * (C + P * D) := by
  have h1 : (A + B) * (C + D) = A * C + A * D + B * C + B * D := by rw [Nat.add_mul, Nat.mul_add, Nat.mul_add]; omega
  have h2 : (A + B) * (C + D) - A * C - B * D = A * D + B * C := by rw [h1]; omega
  rw [h2, Nat.add_mul (A * D), Nat.mul_add (A + P * B), Nat.add_mul A, Nat.add_mul A]
  have e1 : A * (P * D) = A * D * P := by ac_rfl
  have e2 : P * B * C = B * C * P := by ac_rfl
  have e3 : P * B * (P * D) = B * D * (P * P) := by ac_rfl
  rw [e1, e2, e3]
  omega

set_option maxHeartbeats 2000000 in
theorem halved_spec : ∀ (n : Nat) (w : World) (a : Slc) (la : List Nat) (ha : Rd .u64 w a (nn la)) (oa : ok B64 la) (b : Slc) (lb : List Nat) (hb : Rd .u64 w b (nn lb)) (ob : ok B64 lb) (cut : Int) (hc0 : 4 ≤ cut) (hc1 : cut ≤ 9223372036854775807)
    (hsz : la.length + lb.length + 4 ≤ 2 ^ 44) (hn : la.length + lb.length ≤ n), Calls pr mul_halved_id #[a.v, b.v, .int .i64 cut] w (Res w (val B64 la * val B64 lb) (la.length + lb.length + 1)) := by
  have hB := B64v
  intro n
  induction n using Nat.strongRecOn with
  | ind n ih =>
  intro w a la ha oa b lb hb ob cut hc0 hc1 hsz hn
  have hna : a.n = la.length := by rw [ha.n, nn_length]
  have hnb : b.n = lb.length := by rw [hb.n, nn_length]
  refine mul_halved_vc a b cut w _ ?_
  have key : ∀ m, m < la.length + lb.length → ∀ (w : World) (a : Slc) (la : List Nat) (ha : Rd .u64 w a (nn la)) (oa : ok B64 la) (b : Slc) (lb : List Nat) (hb : Rd .u64 w b (nn lb)) (ob : ok B64 lb),
      la.length + lb.length + 4 ≤ 2 ^ 44 → la.length + lb.length ≤ m → Calls pr mul_halved_id #[a.v, b.v, .int .i64 cut] w (Res w (val B64 la * val B64 lb) (la.length + lb.length + 1)) :=
    fun m hm w a la ha oa b lb hb ob h1 h2 => ih m (by omega) w a la ha oa b lb hb ob cut hc0 hc1 h1 h2
  clear ih hn
  refine br_intro (fun hlt => ?_) (fun hge => ?_)
  have hle : la.length ≤ lb.length := by simp at hlt; omega
  clear hlt
  obtain ⟨p, e⟩ : ∃ p, p = b := ⟨_, rfl⟩
  subst e
  obtain ⟨q, e⟩ : ∃ q, q = a := ⟨_, rfl⟩
  subst e
  obtain ⟨lp, e⟩ : ∃ lp, lp = lb := ⟨_, rfl⟩
  subst e
  obtain ⟨lq, e⟩ : ∃ lq, lq = la := ⟨_, rfl⟩
  subst e
  rw [Nat.mul_comm, Nat.add_comm lq.length lp.length]
  rw [Nat.add_comm lq.length lp.length] at hsz key
  have hp := hb
  have hq := ha
  have op := ob
  have oq := oa
  have hnp := hnb
  have hnq := hna
  clear ha hb oa ob hna hnb
  rotate_left 1
  have hle : lb.length ≤ la.length := by simp at hge; omega
  clear hge
  obtain ⟨p, e⟩ : ∃ p, p = a := ⟨_, rfl⟩
  subst e
  obtain ⟨q, e⟩ : ∃ q, q = b := ⟨_, rfl⟩
  subst e
  obtain ⟨lp, e⟩ : ∃ lp, lp = la := ⟨_, rfl⟩
  subst e
  obtain ⟨lq, e⟩ : ∃ lq, lq = lb := ⟨_, rfl⟩
  subst e
  have hp := ha
  have hq := hb
  have op := oa
  have oq := ob
  have hnp := hna
  have hnq := hnb
  clear ha hb oa ob hna hnb
  rotate_left 1
  all_goals
    have hXY : val B64 lp * val B64 lq < B64 ^ (lp.length + lq.length + 1) := by
      have h1 := val_lt op
      have h2 := val_lt oq
      have h3 : val B64 lp * val B64 lq < B64 ^ (lp.length + lq.length) := by
        rw [Nat.pow_add]; exact Nat.mul_lt_mul_of_lt_of_lt h1 h2
      exact Nat.lt_of_lt_of_le h3 (Nat.pow_le_pow_right (by omega) (by omega))
    refine br_intro (fun hs => ?_) (fun hs => ?_)
    · refine Calls.mono (school_spec hp hq op oq (by omega)) ?_
      rintro e w1 ⟨h1, s, l, rfl, ho, hl, ol, hv⟩
      exact ⟨_, rfl, h1, s, l, rfl, ho, by omega, ol, hv⟩
    · have hq4 : 4 ≤ lq.length := by simp at hs; omega
      have ek : IntKind.i64.wrap (Int.tdiv (IntKind.i64.wrap ((p.n : Int) + 1)) 2) = (((lp.length + 1) / 2 : Nat) : Int) := by
        rw [wrap_i64 (x := (p.n : Int) + 1) (by omega) (by omega), Int.tdiv_eq_ediv_of_nonneg (by omega), wrap_i64 (by omega) (by omega)]; omega
      have em : IntKind.i64.wrap (IntKind.i64.wrap ((p.n : Int) + (q.n : Int)) + 1) = ((lp.length + lq.length + 1 : Nat) : Int) := by
        rw [wrap_i64 (x := (p.n : Int) + (q.n : Int)) (by omega) (by omega), wrap_i64 (by omega) (by omega)]; omega
      rw [ek, em]
      generalize hk : (lp.length + 1) / 2 = k at *
      have hX : val B64 lp = val B64 (lp.take k) + B64 ^ k * val B64 (lp.drop k) := val_take_drop lp k (by omega)
      refine br_intro (fun hu => ?_) (fun hu => ?_)
      · -- the shorter one is not parted
        refine mkN (by omega) (by omega) ?_
        intro c w2 hcc ho2 h2 hs2
        have hlc : (List.replicate ((lp.length + lq.length + 1 : Nat) : Int).toNat 0).length = lp.length + lq.length + 1 := by rw [List.length_replicate]; omega
        have hvc : val B64 (List.replicate ((lp.length + lq.length + 1 : Nat) : Int).toNat 0) = 0 := val_replicate _
        have olc : ok B64 (List.replicate ((lp.length + lq.length + 1 : Nat) : Int).toNat 0) := ok_replicate (by omega) _
        generalize List.replicate ((lp.length + lq.length + 1 : Nat) : Int).toNat 0 = C0 at *
        refine Calls.mono (part_lo (hp.ahead h2) op (by omega) k) ?_
        rintro e w3 ⟨rfl, s3, rfl, r3, l3⟩
        refine ⟨_, rfl, Calls.mono (key (k + lq.length) (by omega) _ _ _ r3 (ok_digs two64 _) _ _ (hq.ahead h2) oq (by omega) (by omega)) ?_⟩
        rintro e w4 ⟨h4, s4, L4, rfl, o4, n4, k4, v4⟩
        rw [val_digs two64] at v4
        have hpos : 0 < B64 ^ k := Nat.pow_pos (by omega)
        have hsum : val B64 lp * val B64 lq = val B64 (lp.take k) * val B64 lq + val B64 (lp.drop k) * val B64 lq * B64 ^ k := by
          rw [hX, Nat.add_mul]; congr 1; ac_rfl
        refine ⟨_, rfl, Calls.mono (addAt_spec (at_ := 0) (ho2.ahead h4) o4.rd (off_new o4 (by omega)) olc k4 (by omega) (by omega) (Nat.zero_le _) ?_) ?_⟩
        · rw [hvc, v4, hlc, Nat.pow_zero, Nat.mul_one, Nat.zero_add]
          exact Nat.lt_of_le_of_lt (by rw [hsum]; exact Nat.le_add_right _ _) hXY
        rintro e w5 ⟨rfl, hon5, l5, o5, n5, k5, v5⟩
        have h5 : Ahead w w5 := hon5.ahead (h2.trans h4) (Nat.le_refl _)
        refine ⟨rfl, ?_⟩
        rw [hnp]
        refine Calls.mono (part_hi (hp.ahead h5) op (by omega) k _ rfl) ?_
        rintro e w6 ⟨rfl, s5, rfl, r5, l5'⟩
        refine ⟨_, rfl, Calls.mono (key (lp.length - k + lq.length) (by omega) _ _ _ r5 (ok_digs two64 _) _ _ (hq.ahead h5) oq (by omega) (by omega)) ?_⟩
        rintro e w7 ⟨h7, s6, L6, rfl, o6, n6, k6, v6⟩
        rw [val_digs two64] at v6
        have hlt5 := o5.lt
        refine ⟨_, rfl, Calls.mono (addAt_spec (at_ := k) (o5.ahead h7) o6.rd (off_new o6 (by omega)) k5 k6 (by omega) (by omega) (by omega) ?_) ?_⟩
        · rw [v5, v6, n5, hlc, hvc, v4, Nat.pow_zero, Nat.mul_one, Nat.zero_add, ← hsum]
          exact hXY
        rintro e w8 ⟨rfl, hon8, l8, o8, n8, k8, v8⟩
        refine ⟨rfl, hon8.ahead (h5.trans h7) (Nat.le_refl _), c, l8, rfl, .inr ⟨_, Nat.le_refl _, by rw [hcc]; unfold maxLen; omega, o8⟩, by omega, k8, ?_⟩
        rw [v8, v5, v6, hvc, v4, Nat.pow_zero, Nat.mul_one, Nat.zero_add, hsum]
      · have hu' : k < lq.length := by simp at hu; omega
        have hY : val B64 lq = val B64 (lq.take k) + B64 ^ k * val B64 (lq.drop k) := val_take_drop lq k (by omega)
        refine Calls.mono (part_lo hp op (by omega) k) ?_
        rintro e w9 ⟨rfl, al, rfl, ral, nal⟩
        refine ⟨_, rfl, ?_⟩
        rw [hnp]
        refine Calls.mono (part_hi hp op (by omega) k _ rfl) ?_
        rintro e w10 ⟨rfl, ah, rfl, rah, nah⟩
        refine ⟨_, rfl, Calls.mono (part_lo hq oq (by omega) k) ?_⟩
        rintro e w11 ⟨rfl, bl', rfl, rbl, nbl⟩
        refine ⟨_, rfl, ?_⟩
        rw [hnq]
        refine Calls.mono (part_hi hq oq (by omega) k _ rfl) ?_
        rintro e w12 ⟨rfl, bh, rfl, rbh, nbh⟩
        have kal := ok_digs two64 (val B64 (lp.take k))
        have kah := ok_digs two64 (val B64 (lp.drop k))
        have kbl := ok_digs two64 (val B64 (lq.take k))
        have kbh := ok_digs two64 (val B64 (lq.drop k))
        have val1 := val_digs two64 (val B64 (lp.take k))
        have val2 := val_digs two64 (val B64 (lp.drop k))
        have val3 := val_digs two64 (val B64 (lq.take k))
        have val4 := val_digs two64 (val B64 (lq.drop k))
        generalize val B64 (lp.take k) = A at *
        generalize val B64 (lp.drop k) = B at *
        generalize val B64 (lq.take k) = C at *
        generalize val B64 (lq.drop k) = D at *
        refine ⟨_, rfl, Calls.mono (key (k + k) (by omega) _ _ _ ral kal _ _ rbl kbl (by omega) (by omega)) ?_⟩
        rintro e w13 ⟨h13, s11, L11, rfl, o11, n11, k11, v11⟩
        refine ⟨_, rfl, Calls.mono (key (lp.length - k + (lq.length - k)) (by omega) _ _ _ (rah.ahead h13) kah _ _ (rbh.ahead h13) kbh (by omega) (by omega)) ?_⟩
        rintro e w14 ⟨h14, s12, L12, rfl, o12, n12, k12, v12⟩
        have h014 := h13.trans h14
        refine ⟨_, rfl, Calls.mono (sum_spec (ral.ahead h014) (rah.ahead h014) kal kah (by omega) (by omega)) ?_⟩
        rintro e w15 ⟨h15, s13, L13, rfl, o13, n13, k13, v13⟩
        refine ⟨_, rfl, Calls.mono (Norm_spec o13.rd (by omega) k13) ?_⟩
        rintro e w16 ⟨h16, s14, rfl, o14⟩
        have h016 := (h014.trans h15).trans h16
        refine ⟨_, rfl, Calls.mono (sum_spec (rbl.ahead h016) (rbh.ahead h016) kbl kbh (by omega) (by omega)) ?_⟩
        rintro e w17 ⟨h17, s15, L15, rfl, o15, n15, k15, v15⟩
        refine ⟨_, rfl, Calls.mono (Norm_spec o15.rd (by omega) k15) ?_⟩
        rintro e w18 ⟨h18, s16, rfl, o16⟩
        have h018 := (h016.trans h17).trans h18
        have d13 := len_le k13
        have d15 := len_le k15
        refine ⟨_, rfl, Calls.mono (key (k + 1 + (k + 1)) (by omega) _ _ _ ((o14.ahead h17).ahead h18).rd (ok_digs two64 _) _ _ o16.rd (ok_digs two64 _) (by omega) (by omega)) ?_⟩
        rintro e w19 ⟨h19, s17, L17, rfl, o17, n17, k17, v17⟩
        rw [val_digs two64, val_digs two64, v13, v15, val1, val2, val3, val4] at v17
        rw [val1, val3] at v11
        rw [val2, val4] at v12
        have h019 := h018.trans h19
        have hAC : A * C + B * D ≤ (A + B) * (C + D) := by
          rw [Nat.add_mul, Nat.mul_add, Nat.mul_add]; omega
        have h1419 := ((((h15.trans h16).trans h17).trans h18).trans h19)
        have o11' := (o11.ahead h14).ahead h1419
        have o12' := o12.ahead h1419
        refine ⟨_, rfl, Calls.mono (less_spec o17.rd o11'.rd k17 k11 (by omega) (by omega) (by rw [v17, v11]; omega)) ?_⟩
        rintro e w20 ⟨h20, s18, L18, rfl, o18, n18, k18, v18⟩
        refine ⟨_, rfl, Calls.mono (less_spec o18.rd (o12'.ahead h20).rd k18 k12 (by omega) (by omega) (by rw [v18, v17, v11, v12]; omega)) ?_⟩
        rintro e w21 ⟨h21, s19, L19, rfl, o19, n19, k19, v19⟩
        rw [v18, v17, v11, v12] at v19
        have h021 := (h019.trans h20).trans h21
        have hsz21 := h021.size
        refine ⟨_, rfl, mkN (by omega) (by omega) ?_⟩
        intro c w22 hcc ho22 h22 hs22
        have hlc : (List.replicate ((lp.length + lq.length + 1 : Nat) : Int).toNat 0).length = lp.length + lq.length + 1 := by rw [List.length_replicate]; omega
        have hvc : val B64 (List.replicate ((lp.length + lq.length + 1 : Nat) : Int).toNat 0) = 0 := val_replicate _
        have olc : ok B64 (List.replicate ((lp.length + lq.length + 1 : Nat) : Int).toNat 0) := ok_replicate (by omega) _
        generalize List.replicate ((lp.length + lq.length + 1 : Nat) : Int).toNat 0 = C0 at *
        have r11 := ((o11'.ahead h20).ahead h21).rd
        have r12 := ((o12'.ahead h20).ahead h21).rd
        have r19 := o19.rd
        have hsum := kara A B C D (B64 ^ k)
        rw [← hX, ← hY] at hsum
        have f11 := rd_off r11 (Nat.le_refl w21.heap.size)
        have f12 := rd_off r12 (Nat.le_refl w21.heap.size)
        have f19 := rd_off r19 (Nat.le_refl w21.heap.size)
        have hpw : B64 ^ (2 * k) = B64 ^ k * B64 ^ k := by rw [Nat.two_mul, Nat.pow_add]
        refine Calls.mono (addAt_spec (at_ := 0) ho22 (r11.ahead h22) f11 olc k11 (by omega) (by omega) (Nat.zero_le _) ?_) ?_
        · rw [hvc, v11, hlc, Nat.pow_zero, Nat.mul_one, Nat.zero_add]
          exact Nat.lt_of_le_of_lt (by rw [← hsum]; omega) hXY
        rintro e w23 ⟨rfl, hon23, l23, o23, n23, k23, v23⟩
        rw [hvc, v11, Nat.pow_zero, Nat.mul_one, Nat.zero_add] at v23
        refine ⟨rfl, Calls.mono (addAt_spec (at_ := k) o23 (hon23.rd (r19.ahead h22) f19) f19 k23 k19 (by omega) (by omega) (by omega) ?_) ?_⟩
        · rw [v23, v19, n23, hlc]
          exact Nat.lt_of_le_of_lt (by rw [← hsum]; omega) hXY
        rintro e w24 ⟨rfl, hon24, l24, o24, n24, k24, v24⟩
        rw [v23, v19] at v24
        have hon := hon23.trans hon24
        have e2k : IntKind.i64.wrap (2 * ((k : Nat) : Int)) = ((2 * k : Nat) : Int) := by rw [wrap_i64 (by omega) (by omega)]; omega
        rw [e2k]
        refine ⟨rfl, Calls.mono (addAt_spec (at_ := 2 * k) o24 (hon.rd (r12.ahead h22) f12) f12 k24 k12 (by omega) (by omega) (by omega) ?_) ?_⟩
        · rw [v24, v12, n24, n23, hlc, hpw, hsum]
          exact hXY
        rintro e w25 ⟨rfl, hon25, l25, o25, n25, k25, v25⟩
        rw [v24, v12, hpw, hsum] at v25
        exact ⟨rfl, (hon.trans hon25).ahead (h021.trans h22) hsz21, c, l25, rfl, .inr ⟨_, hsz21, by rw [hcc]; unfold maxLen; omega, o25⟩, by omega, k25, v25⟩

end Mul
end Go.Proofs.Ytfdajpjiengihaa
namespace Go.Proofs.Ytfdajpjiengihaa
open Go Go.RowKit Eng
set_option linter.unusedVariables false

def surdref01_norm_cut (J0 : Slc → Int → World → Prop) (m0 : Slc → Int → World → Nat) : Nat → Option ((Act → World → Prop) × (Act → World → Nat))
  | 0 => some (fun a_ w_ => atSz a_ 22 (atS a_ 0 fun t0_a => atI .i64 a_ 3 fun t3_n => J0 t0_a t3_n w_), fun a_ w_ => mS a_ 0 fun t0_a => mI a_ 3 fun t3_n => m0 t0_a t3_n w_)
  | _ => none

set_option maxRecDepth 100000 in
/-- surd/surdref01.norm: function 49. -/
theorem surdref01_norm_vc (a0_a : Slc) (w : World) (R : Ending → World → Prop)
    (J0 : Slc → Int → World → Prop) (m0 : Slc → Int → World → Nat)
    (h : J0 a0_a (a0_a.n : Int) w)
    (h0 : ∀ (t0_a : Slc) (t3_n : Int) (w_ : World), J0 t0_a t3_n w_ → 
    br (decide (t3_n > 0))
    (semA Try.prog (Instr.indexAt 40 t0_a.v (Value.int .i64 (IntKind.i64.wrap (t3_n - 1)))) w_ fun ad1 w1 =>
     ldI .u64 ad1 w1 fun x1 =>
     br (x1 == 0)
     (J0 t0_a (IntKind.i64.wrap (t3_n - 1)) w1 ∧
      m0 t0_a (IntKind.i64.wrap (t3_n - 1)) w1 < m0 t0_a t3_n w_)
     (semS Try.prog (Instr.sliceAt 40 t0_a.v none (some (Value.int .i64 t3_n)) (some (Value.int .i64 t3_n))) w1 fun s1 w2 =>
      R (.returned s1.v) w2))
    (semS Try.prog (Instr.sliceAt 40 t0_a.v none (some (Value.int .i64 t3_n)) (some (Value.int .i64 t3_n))) w_ fun s2 w3 =>
     R (.returned s2.v) w3)) :
    Calls Try.prog 49 #[a0_a.v] w R := by
  refine calls_of_vc (surdref01_norm_cut J0 m0) (by kernel_rfl) Try.func49 rfl ?_ ?_
  · refine kcast h ?_; kernel_rfl
  · exact (obl_seq rfl (obl_reg (obl_seq rfl (obl_reg (obl_seq rfl (obl_loop _ rfl (fun a_ w_ hL_ => (by
    obtain ⟨hz_, hd_, hL_⟩ := atSz_out hL_
    obtain ⟨t0_a, h0_, hL_⟩ := atS_out hL_
    obtain ⟨t3_n, h3_, hL_⟩ := atI_out hL_
    obtain ⟨g0, rfl⟩ : ∃ g, a_ = Fr 22 [(0, t0_a.v), (3, Value.int .i64 t3_n)] g := ⟨_, fr_of hz_ hd_ [(0, t0_a.v), (3, Value.int .i64 t3_n)] (sel_cons h0_ (sel_cons h3_ sel_nil))⟩
    clear hz_ hd_ h0_ h3_
    have hJ0_ := hL_
    refine ⟨(fun _ => none), kcast (h0 t0_a t3_n w_ hJ0_) ?_, ?_⟩
    · kernel_rfl
    · exact (obl_seq rfl (obl_seq rfl (obl_reg (obl_cond (obl_skip (obl_exit (obl_blk rfl (obl_reg trivial)))))))))) (obl_seq rfl (obl_reg (obl_ret trivial)))))))))

def surdref01_Of_cut (J0 : Slc → Slc → Int → Int → World → Prop) (m0 : Slc → Slc → Int → Int → World → Nat) : Nat → Option ((Act → World → Prop) × (Act → World → Nat))
  | 0 => some (fun a_ w_ => atSz a_ 26 (atS a_ 3 fun t3_out => atS a_ 10 fun t10 => atI .i64 a_ 11 fun t11 => atI .i64 a_ 12 fun t12 => J0 t3_out t10 t11 t12 w_), fun a_ w_ => mS a_ 3 fun t3_out => mS a_ 10 fun t10 => mI a_ 11 fun t11 => mI a_ 12 fun t12 => m0 t3_out t10 t11 t12 w_)
  | _ => none

set_option maxRecDepth 100000 in
/-- surd/surdref01.Of: function 20. -/
theorem surdref01_Of_vc (a0_limbs : Slc) (w : World) (R : Ending → World → Prop)
    (J0 : Slc → Slc → Int → Int → World → Prop) (m0 : Slc → Slc → Int → Int → World → Nat)
    (h : semS Try.prog (Instr.makeSlice 40 (Value.int .i64 0) (Value.int .i64 (IntKind.i64.wrap (2 * (a0_limbs.n : Int))))) w fun s1 w1 =>
    J0 s1 a0_limbs (a0_limbs.n : Int) 0 w1)
    (h0 : ∀ (t3_out : Slc) (t10 : Slc) (t11 : Int) (t12 : Int) (w_ : World), J0 t3_out t10 t11 t12 w_ → 
    br (decide (t12 < t11))
    (semA Try.prog (Instr.indexAt 23 t10.v (Value.int .i64 t12)) w_ fun ad1 w2 =>
     ldI .u64 ad1 w2 fun x1 =>
     newC w2 #[Value.int .u64 (Int.tmod x1 4294967296), Value.int .u64 (IntKind.u64.wrap (Int.tdiv x1 4294967296))] 29 fun ad2 w3 =>
     semS Try.prog (Builtin.append_ #[40, 40] 40 #[t3_out.v, (⟨some ad2, 2, 2⟩ : Slc).v]) w3 fun s2 w4 =>
     J0 s2 t10 t11 (IntKind.i64.wrap (t12 + 1)) w4 ∧
     m0 s2 t10 t11 (IntKind.i64.wrap (t12 + 1)) w4 < m0 t3_out t10 t11 t12 w_)
    (Calls Try.prog 49 #[t3_out.v] w_ fun e1 w5 =>
     ∃ s3 : Slc, e1 = .returned s3.v ∧
     (R (.returned s3.v) w5))) :
    Calls Try.prog 20 #[a0_limbs.v] w R := by
  refine calls_of_vc (surdref01_Of_cut J0 m0) (by kernel_rfl) Try.func20 rfl ?_ ?_
  · refine kcast h ?_; kernel_rfl
  · exact (obl_seq rfl (obl_reg (obl_seq rfl (obl_reg (obl_seq rfl (obl_seq rfl (obl_reg (obl_loop _ rfl (fun a_ w_ hL_ => (by
    obtain ⟨hz_, hd_, hL_⟩ := atSz_out hL_
    obtain ⟨t3_out, h3_, hL_⟩ := atS_out hL_
    obtain ⟨t10, h10_, hL_⟩ := atS_out hL_
    obtain ⟨t11, h11_, hL_⟩ := atI_out hL_
    obtain ⟨t12, h12_, hL_⟩ := atI_out hL_
    obtain ⟨g0, rfl⟩ : ∃ g, a_ = Fr 26 [(3, t3_out.v), (10, t10.v), (11, Value.int .i64 t11), (12, Value.int .i64 t12)] g := ⟨_, fr_of hz_ hd_ [(3, t3_out.v), (10, t10.v), (11, Value.int .i64 t11), (12, Value.int .i64 t12)] (sel_cons h3_ (sel_cons h10_ (sel_cons h11_ (sel_cons h12_ sel_nil))))⟩
    clear hz_ hd_ h3_ h10_ h11_ h12_
    have hJ0_ := hL_
    refine ⟨(fun _ => none), kcast (h0 t3_out t10 t11 t12 w_ hJ0_) ?_, ?_⟩
    · kernel_rfl
    · exact (obl_seq rfl (obl_reg (obl_seq rfl (obl_cond (obl_skip (obl_exit (obl_seq rfl (obl_blk rfl (obl_seq rfl (obl_reg (obl_reg (obl_reg trivial)))))))))))))) (obl_seq rfl (obl_reg (obl_ret trivial)))))))))))

def surdref01_Num_Limbs_cut (J0 : Slc → Slc → Int → World → Prop) (m0 : Slc → Slc → Int → World → Nat) : Nat → Option ((Act → World → Prop) × (Act → World → Nat))
  | 0 => some (fun a_ w_ => atSz a_ 34 (atS a_ 0 fun t0_a => atS a_ 3 fun t3_out => atI .i64 a_ 4 fun t4_i => J0 t0_a t3_out t4_i w_), fun a_ w_ => mS a_ 0 fun t0_a => mS a_ 3 fun t3_out => mI a_ 4 fun t4_i => m0 t0_a t3_out t4_i w_)
  | _ => none

set_option maxRecDepth 100000 in
/-- (surd/surdref01.Num).Limbs: function 28. -/
theorem surdref01_Num_Limbs_vc (a0_a : Slc) (w : World) (R : Ending → World → Prop)
    (J0 : Slc → Slc → Int → World → Prop) (m0 : Slc → Slc → Int → World → Nat)
    (h : J0 a0_a (⟨none, 0, 0⟩ : Slc) 0 w)
    (h0 : ∀ (t0_a : Slc) (t3_out : Slc) (t4_i : Int) (w_ : World), J0 t0_a t3_out t4_i w_ → 
    br (decide (t4_i < (t0_a.n : Int)))
    (semA Try.prog (Instr.indexAt 40 t0_a.v (Value.int .i64 t4_i)) w_ fun ad1 w1 =>
     ldI .u64 ad1 w1 fun x1 =>
     br (decide ((IntKind.i64.wrap (t4_i + 1)) < (t0_a.n : Int)))
     (semA Try.prog (Instr.indexAt 40 t0_a.v (Value.int .i64 (IntKind.i64.wrap (t4_i + 1)))) w1 fun ad2 w2 =>
      ldI .u64 ad2 w2 fun x2 =>
      newC w2 #[Value.int .u64 (IntKind.u64.wrap (x1 + (IntKind.u64.wrap (x2 * 4294967296))))] 29 fun ad3 w3 =>
      semS Try.prog (Builtin.append_ #[23, 23] 23 #[t3_out.v, (⟨some ad3, 1, 1⟩ : Slc).v]) w3 fun s1 w4 =>
      J0 t0_a s1 (IntKind.i64.wrap (t4_i + 2)) w4 ∧
      m0 t0_a s1 (IntKind.i64.wrap (t4_i + 2)) w4 < m0 t0_a t3_out t4_i w_)
     (newC w1 #[Value.int .u64 x1] 29 fun ad4 w5 =>
      semS Try.prog (Builtin.append_ #[23, 23] 23 #[t3_out.v, (⟨some ad4, 1, 1⟩ : Slc).v]) w5 fun s2 w6 =>
      J0 t0_a s2 (IntKind.i64.wrap (t4_i + 2)) w6 ∧
      m0 t0_a s2 (IntKind.i64.wrap (t4_i + 2)) w6 < m0 t0_a t3_out t4_i w_))
    (R (.returned t3_out.v) w_)) :
    Calls Try.prog 28 #[a0_a.v] w R := by
  refine calls_of_vc (surdref01_Num_Limbs_cut J0 m0) (by kernel_rfl) Try.func28 rfl ?_ ?_
  · refine kcast h ?_; kernel_rfl
  · exact (obl_seq rfl (obl_reg (obl_seq rfl (obl_reg (obl_seq rfl (obl_seq rfl (obl_reg (obl_loop _ rfl (fun a_ w_ hL_ => (by
    obtain ⟨hz_, hd_, hL_⟩ := atSz_out hL_
    obtain ⟨t0_a, h0_, hL_⟩ := atS_out hL_
    obtain ⟨t3_out, h3_, hL_⟩ := atS_out hL_
    obtain ⟨t4_i, h4_, hL_⟩ := atI_out hL_
    obtain ⟨g0, rfl⟩ : ∃ g, a_ = Fr 34 [(0, t0_a.v), (3, t3_out.v), (4, Value.int .i64 t4_i)] g := ⟨_, fr_of hz_ hd_ [(0, t0_a.v), (3, t3_out.v), (4, Value.int .i64 t4_i)] (sel_cons h0_ (sel_cons h3_ (sel_cons h4_ sel_nil)))⟩
    clear hz_ hd_ h0_ h3_ h4_
    have hJ0_ := hL_
    refine ⟨(fun _ => none), kcast (h0 t0_a t3_out t4_i w_ hJ0_) ?_, ?_⟩
    · kernel_rfl
    · exact (obl_seq rfl (obl_seq rfl (obl_reg (obl_cond (obl_skip (obl_exit (obl_seq rfl (obl_blk rfl (obl_seq rfl (obl_reg (obl_seq rfl (obl_seq rfl (obl_reg (obl_cond (obl_reg (obl_skip (obl_reg (obl_reg trivial)))))))))))))))))))) (obl_seq rfl (obl_reg (obl_ret trivial)))))))))))

def surdref01_Num_Is_cut (J0 : Slc → Slc → Int → Int → World → Prop) (m0 : Slc → Slc → Int → Int → World → Nat) : Nat → Option ((Act → World → Prop) × (Act → World → Nat))
  | 0 => some (fun a_ w_ => atSz a_ 29 (atS a_ 1 fun t1_limbs => atS a_ 5 fun t5_want => atI .i64 a_ 15 fun t15 => atI .i64 a_ 16 fun t16 => J0 t1_limbs t5_want t15 t16 w_), fun a_ w_ => mS a_ 1 fun t1_limbs => mS a_ 5 fun t5_want => mI a_ 15 fun t15 => mI a_ 16 fun t16 => m0 t1_limbs t5_want t15 t16 w_)
  | _ => none

set_option maxRecDepth 100000 in
/-- (surd/surdref01.Num).Is: function 31. -/
theorem surdref01_Num_Is_vc (a0_a : Slc) (a1_limbs : Slc) (w : World) (R : Ending → World → Prop)
    (J0 : Slc → Slc → Int → Int → World → Prop) (m0 : Slc → Slc → Int → Int → World → Nat)
    (h : Calls Try.prog 28 #[a0_a.v] w fun e1 w1 =>
    ∃ s1 : Slc, e1 = .returned s1.v ∧
    (br ((s1.n : Int) != (a1_limbs.n : Int))
     (R (.returned (Value.bool false)) w1)
     (J0 a1_limbs s1 (s1.n : Int) 0 w1)))
    (h0 : ∀ (t1_limbs : Slc) (t5_want : Slc) (t15 : Int) (t16 : Int) (w_ : World), J0 t1_limbs t5_want t15 t16 w_ → 
    br (decide (t16 < t15))
    (fixA Try.prog (Instr.indexAt 23 t5_want.v (Value.int .i64 t16)) w_ fun ad1 =>
     ldI .u64 ad1 w_ fun x1 =>
     fixA Try.prog (Instr.indexAt 23 t1_limbs.v (Value.int .i64 t16)) w_ fun ad2 =>
     ldI .u64 ad2 w_ fun x2 =>
     ∀ w2, Ahead w_ w2 →
     (br (x1 != x2)
      (R (.returned (Value.bool false)) w2)
      (J0 t1_limbs t5_want t15 (IntKind.i64.wrap (t16 + 1)) w2 ∧
       m0 t1_limbs t5_want t15 (IntKind.i64.wrap (t16 + 1)) w2 < m0 t1_limbs t5_want t15 t16 w_)))
    (R (.returned (Value.bool true)) w_)) :
    Calls Try.prog 31 #[a0_a.v, a1_limbs.v] w R := by
  refine calls_of_vc (surdref01_Num_Is_cut J0 m0) (by kernel_rfl) Try.func31 rfl ?_ ?_
  · refine kcast h ?_; kernel_rfl
  · exact (obl_seq rfl (obl_reg (obl_seq rfl (obl_reg (obl_seq rfl (obl_seq rfl (obl_reg (obl_cond (obl_seq rfl (obl_reg (obl_ret (obl_skip (obl_seq rfl (obl_seq rfl (obl_reg (obl_loop _ rfl (fun a_ w_ hL_ => (by
    obtain ⟨hz_, hd_, hL_⟩ := atSz_out hL_
    obtain ⟨t1_limbs, h1_, hL_⟩ := atS_out hL_
    obtain ⟨t5_want, h5_, hL_⟩ := atS_out hL_
    obtain ⟨t15, h15_, hL_⟩ := atI_out hL_
    obtain ⟨t16, h16_, hL_⟩ := atI_out hL_
    obtain ⟨g0, rfl⟩ : ∃ g, a_ = Fr 29 [(1, t1_limbs.v), (5, t5_want.v), (15, Value.int .i64 t15), (16, Value.int .i64 t16)] g := ⟨_, fr_of hz_ hd_ [(1, t1_limbs.v), (5, t5_want.v), (15, Value.int .i64 t15), (16, Value.int .i64 t16)] (sel_cons h1_ (sel_cons h5_ (sel_cons h15_ (sel_cons h16_ sel_nil))))⟩
    clear hz_ hd_ h1_ h5_ h15_ h16_
    have hJ0_ := hL_
    refine ⟨(fun _ => none), kcast (h0 t1_limbs t5_want t15 t16 w_ hJ0_) ?_, ?_⟩
    · kernel_rfl
    · exact (obl_seq rfl (obl_reg (obl_seq rfl (obl_cond (obl_skip (obl_exit (obl_seq rfl (obl_blk rfl (obl_seq rfl (obl_reg (obl_seq rfl (obl_quiet (by kernel_rfl) (by kernel_rfl) (by kernel_rfl) (by kernel_rfl) (obl_cond (obl_seq rfl (obl_reg (obl_ret (obl_skip (obl_reg trivial)))))))))))))))))))) (obl_seq rfl (obl_reg (obl_ret trivial)))))))))))))))))))

set_option maxRecDepth 100000 in
/-- (surd/surdref01.Num).Zero: function 47. -/
theorem surdref01_Num_Zero_vc (a0_a : Slc) (w : World) (R : Ending → World → Prop)
    
    (h : R (.returned (Value.bool ((a0_a.n : Int) == 0))) w) :
    Calls Try.prog 47 #[a0_a.v] w R := by
  refine calls_of_vc (fun _ => none) (by kernel_rfl) Try.func47 rfl ?_ ?_
  · refine kcast h ?_; kernel_rfl
  · exact (obl_seq rfl (obl_reg (obl_seq rfl (obl_reg (obl_ret trivial)))))

def surdref01_Num_Len_cut (J0 : Int → Int → World → Prop) (m0 : Int → Int → World → Nat) : Nat → Option ((Act → World → Prop) × (Act → World → Nat))
  | 0 => some (fun a_ w_ => atSz a_ 25 (atI .i64 a_ 3 fun t3_n => atI .u64 a_ 4 fun t4_v => J0 t3_n t4_v w_), fun a_ w_ => mI a_ 3 fun t3_n => mI a_ 4 fun t4_v => m0 t3_n t4_v w_)
  | _ => none

set_option maxRecDepth 100000 in
/-- (surd/surdref01.Num).Len: function 30. -/
theorem surdref01_Num_Len_vc (a0_a : Slc) (w : World) (R : Ending → World → Prop)
    (J0 : Int → Int → World → Prop) (m0 : Int → Int → World → Nat)
    (h : br ((a0_a.n : Int) == 0)
    (R (.returned (Value.int .i64 0)) w)
    (semA Try.prog (Instr.indexAt 40 a0_a.v (Value.int .i64 (IntKind.i64.wrap ((a0_a.n : Int) - 1)))) w fun ad1 w1 =>
     ldI .u64 ad1 w1 fun x1 =>
     J0 (IntKind.i64.wrap (32 * (IntKind.i64.wrap ((a0_a.n : Int) - 1)))) x1 w1))
    (h0 : ∀ (t3_n : Int) (t4_v : Int) (w_ : World), J0 t3_n t4_v w_ → 
    br (decide (t4_v > 0))
    (J0 (IntKind.i64.wrap (t3_n + 1)) (IntKind.u64.wrap (Int.tdiv t4_v 2)) w_ ∧
     m0 (IntKind.i64.wrap (t3_n + 1)) (IntKind.u64.wrap (Int.tdiv t4_v 2)) w_ < m0 t3_n t4_v w_)
    (R (.returned (Value.int .i64 t3_n)) w_)) :
    Calls Try.prog 30 #[a0_a.v] w R := by
  refine calls_of_vc (surdref01_Num_Len_cut J0 m0) (by kernel_rfl) Try.func30 rfl ?_ ?_
  · refine kcast h ?_; kernel_rfl
  · exact (obl_seq rfl (obl_reg (obl_seq rfl (obl_seq rfl (obl_reg (obl_cond (obl_seq rfl (obl_reg (obl_ret (obl_skip (obl_seq rfl (obl_reg (obl_seq rfl (obl_seq rfl (obl_reg (obl_loop _ rfl (fun a_ w_ hL_ => (by
    obtain ⟨hz_, hd_, hL_⟩ := atSz_out hL_
    obtain ⟨t3_n, h3_, hL_⟩ := atI_out hL_
    obtain ⟨t4_v, h4_, hL_⟩ := atI_out hL_
    obtain ⟨g0, rfl⟩ : ∃ g, a_ = Fr 25 [(3, Value.int .i64 t3_n), (4, Value.int .u64 t4_v)] g := ⟨_, fr_of hz_ hd_ [(3, Value.int .i64 t3_n), (4, Value.int .u64 t4_v)] (sel_cons h3_ (sel_cons h4_ sel_nil))⟩
    clear hz_ hd_ h3_ h4_
    have hJ0_ := hL_
    refine ⟨(fun _ => none), kcast (h0 t3_n t4_v w_ hJ0_) ?_, ?_⟩
    · kernel_rfl
    · exact (obl_seq rfl (obl_seq rfl (obl_reg (obl_cond (obl_skip (obl_exit (obl_seq rfl (obl_blk rfl (obl_reg (obl_reg trivial)))))))))))) (obl_seq rfl (obl_reg (obl_ret trivial)))))))))))))))))))

def surdref01_Mul_cut (J0 : Slc → Slc → Slc → Int → Int → World → Prop) (m0 : Slc → Slc → Slc → Int → Int → World → Nat) (J2 : Slc → Slc → Slc → Int → Int → World → Slc → Slc → Int → Int → Int → Slc → Int → Int → Slc → Int → Int → World → Prop) (m2 : Slc → Slc → Slc → Int → Int → World → Slc → Slc → Int → Int → Int → Slc → Int → Int → Slc → Int → Int → World → Nat) : Nat → Option ((Act → World → Prop) × (Act → World → Nat))
  | 0 => some (fun a_ w_ => atSz a_ 65 (atS a_ 1 fun t1 => atS a_ 5 fun t5 => atS a_ 19 fun t19 => atI .i64 a_ 20 fun t20 => atI .i64 a_ 21 fun t21 => J0 t1 t5 t19 t20 t21 w_), fun a_ w_ => mS a_ 1 fun t1 => mS a_ 5 fun t5 => mS a_ 19 fun t19 => mI a_ 20 fun t20 => mI a_ 21 fun t21 => m0 t1 t5 t19 t20 t21 w_)
  | _ => none

def surdref01_Mul_cut_0 (J0 : Slc → Slc → Slc → Int → Int → World → Prop) (m0 : Slc → Slc → Slc → Int → Int → World → Nat) (J2 : Slc → Slc → Slc → Int → Int → World → Slc → Slc → Int → Int → Int → Slc → Int → Int → Slc → Int → Int → World → Prop) (m2 : Slc → Slc → Slc → Int → Int → World → Slc → Slc → Int → Int → Int → Slc → Int → Int → Slc → Int → Int → World → Nat) (o_t1 : Slc) (o_t5 : Slc) (o_t19 : Slc) (o_t20 : Int) (o_t21 : Int) (o_w_ : World) : Nat → Option ((Act → World → Prop) × (Act → World → Nat))
  | 2 => some (fun a_ w_ => atSz a_ 65 (atS a_ 1 fun t1 => atS a_ 5 fun t5 => atI .i64 a_ 6 fun t6 => atI .u64 a_ 7 fun t7 => atI .u64 a_ 8 fun t8 => atS a_ 19 fun t19 => atI .i64 a_ 20 fun t20 => atI .i64 a_ 21 fun t21 => atS a_ 26 fun t26 => atI .i64 a_ 27 fun t27 => atI .i64 a_ 28 fun t28 => J2 o_t1 o_t5 o_t19 o_t20 o_t21 o_w_ t1 t5 t6 t7 t8 t19 t20 t21 t26 t27 t28 w_), fun a_ w_ => mS a_ 1 fun t1 => mS a_ 5 fun t5 => mI a_ 6 fun t6 => mI a_ 7 fun t7 => mI a_ 8 fun t8 => mS a_ 19 fun t19 => mI a_ 20 fun t20 => mI a_ 21 fun t21 => mS a_ 26 fun t26 => mI a_ 27 fun t27 => mI a_ 28 fun t28 => m2 o_t1 o_t5 o_t19 o_t20 o_t21 o_w_ t1 t5 t6 t7 t8 t19 t20 t21 t26 t27 t28 w_)
  | _ => none

set_option maxRecDepth 100000 in
/-- surd/surdref01.Mul: function 27. -/
theorem surdref01_Mul_vc (a0 : Slc) (a1 : Slc) (w : World) (R : Ending → World → Prop)
    (J0 : Slc → Slc → Slc → Int → Int → World → Prop) (m0 : Slc → Slc → Slc → Int → Int → World → Nat) (J2 : Slc → Slc → Slc → Int → Int → World → Slc → Slc → Int → Int → Int → Slc → Int → Int → Slc → Int → Int → World → Prop) (m2 : Slc → Slc → Slc → Int → Int → World → Slc → Slc → Int → Int → Int → Slc → Int → Int → Slc → Int → Int → World → Nat)
    (h : semS Try.prog (Instr.makeSlice 40 (Value.int .i64 (IntKind.i64.wrap ((IntKind.i64.wrap ((a0.n : Int) + (a1.n : Int))) + 1))) (Value.int .i64 (IntKind.i64.wrap ((IntKind.i64.wrap ((a0.n : Int) + (a1.n : Int))) + 1)))) w fun s1 w1 =>
    J0 a1 s1 a0 (a0.n : Int) 0 w1)
    (h0 : ∀ (t1 : Slc) (t5 : Slc) (t19 : Slc) (t20 : Int) (t21 : Int) (w_ : World), J0 t1 t5 t19 t20 t21 w_ → 
    br (decide (t21 < t20))
    (semA Try.prog (Instr.indexAt 40 t19.v (Value.int .i64 t21)) w_ fun ad1 w2 =>
     ldI .u64 ad1 w2 fun x1 =>
     J2 t1 t5 t19 t20 t21 w_ t1 t5 t21 x1 0 t19 t20 t21 t1 (t1.n : Int) 0 w2)
    (Calls Try.prog 49 #[t5.v] w_ fun e1 w9 =>
     ∃ s2 : Slc, e1 = .returned s2.v ∧
     (R (.returned s2.v) w9)))
    (h2 : ∀ (t1 : Slc) (t5 : Slc) (t19 : Slc) (t20 : Int) (t21 : Int) (w_ : World), J0 t1 t5 t19 t20 t21 w_ → ∀ (t1' : Slc) (t5' : Slc) (t6' : Int) (t7' : Int) (t8' : Int) (t19' : Slc) (t20' : Int) (t21' : Int) (t26' : Slc) (t27' : Int) (t28' : Int) (w__ : World), J2 t1 t5 t19 t20 t21 w_ t1' t5' t6' t7' t8' t19' t20' t21' t26' t27' t28' w__ → 
    br (decide (t28' < t27'))
    (semA Try.prog (Instr.indexAt 40 t26'.v (Value.int .i64 t28')) w__ fun ad2 w3 =>
     ldI .u64 ad2 w3 fun x2 =>
     semA Try.prog (Instr.indexAt 40 t5'.v (Value.int .i64 (IntKind.i64.wrap (t6' + t28')))) w3 fun ad3 w4 =>
     ldI .u64 ad3 w4 fun x3 =>
     semA Try.prog (Instr.indexAt 40 t5'.v (Value.int .i64 (IntKind.i64.wrap (t6' + t28')))) w4 fun ad4 w5 =>
     stC ad4 (Value.int .u64 (Int.tmod (IntKind.u64.wrap ((IntKind.u64.wrap ((IntKind.u64.wrap (t7' * x2)) + x3)) + t8')) 4294967296)) w5 fun w6 =>
     J2 t1 t5 t19 t20 t21 w_ t1' t5' t6' t7' (IntKind.u64.wrap (Int.tdiv (IntKind.u64.wrap ((IntKind.u64.wrap ((IntKind.u64.wrap (t7' * x2)) + x3)) + t8')) 4294967296)) t19' t20' t21' t26' t27' (IntKind.i64.wrap (t28' + 1)) w6 ∧
     m2 t1 t5 t19 t20 t21 w_ t1' t5' t6' t7' (IntKind.u64.wrap (Int.tdiv (IntKind.u64.wrap ((IntKind.u64.wrap ((IntKind.u64.wrap (t7' * x2)) + x3)) + t8')) 4294967296)) t19' t20' t21' t26' t27' (IntKind.i64.wrap (t28' + 1)) w6 < m2 t1 t5 t19 t20 t21 w_ t1' t5' t6' t7' t8' t19' t20' t21' t26' t27' t28' w__)
    (semA Try.prog (Instr.indexAt 40 t5'.v (Value.int .i64 (IntKind.i64.wrap (t6' + (t1'.n : Int))))) w__ fun ad5 w7 =>
     stC ad5 (Value.int .u64 t8') w7 fun w8 =>
     J0 t1' t5' t19' t20' (IntKind.i64.wrap (t21' + 1)) w8 ∧
     m0 t1' t5' t19' t20' (IntKind.i64.wrap (t21' + 1)) w8 < m0 t1 t5 t19 t20 t21 w_)) :
    Calls Try.prog 27 #[a0.v, a1.v] w R := by
  refine calls_of_vc (surdref01_Mul_cut J0 m0 J2 m2) (by kernel_rfl) Try.func27 rfl ?_ ?_
  · refine kcast h ?_; kernel_rfl
  · exact (obl_seq rfl (obl_reg (obl_seq rfl (obl_reg (obl_seq rfl (obl_seq rfl (obl_reg (obl_loop _ rfl (fun a_ w_ hL_ => (by
    obtain ⟨hz_, hd_, hL_⟩ := atSz_out hL_
    obtain ⟨t1, h1_, hL_⟩ := atS_out hL_
    obtain ⟨t5, h5_, hL_⟩ := atS_out hL_
    obtain ⟨t19, h19_, hL_⟩ := atS_out hL_
    obtain ⟨t20, h20_, hL_⟩ := atI_out hL_
    obtain ⟨t21, h21_, hL_⟩ := atI_out hL_
    obtain ⟨g0, rfl⟩ : ∃ g, a_ = Fr 65 [(1, t1.v), (5, t5.v), (19, t19.v), (20, Value.int .i64 t20), (21, Value.int .i64 t21)] g := ⟨_, fr_of hz_ hd_ [(1, t1.v), (5, t5.v), (19, t19.v), (20, Value.int .i64 t20), (21, Value.int .i64 t21)] (sel_cons h1_ (sel_cons h5_ (sel_cons h19_ (sel_cons h20_ (sel_cons h21_ sel_nil)))))⟩
    clear hz_ hd_ h1_ h5_ h19_ h20_ h21_
    have hJ0_ := hL_
    refine ⟨(surdref01_Mul_cut_0 J0 m0 J2 m2 t1 t5 t19 t20 t21 w_), kcast (h0 t1 t5 t19 t20 t21 w_ hJ0_) ?_, ?_⟩
    · kernel_rfl
    · exact (obl_seq rfl (obl_reg (obl_seq rfl (obl_cond (obl_skip (obl_exit (obl_seq rfl (obl_blk rfl (obl_seq rfl (obl_reg (obl_seq rfl (obl_reg (obl_seq rfl (obl_seq rfl (obl_reg (obl_loop _ rfl (fun a_ w__ hL_ => (by
      obtain ⟨hz_, hd_, hL_⟩ := atSz_out hL_
      obtain ⟨t1', h1_, hL_⟩ := atS_out hL_
      obtain ⟨t5', h5_, hL_⟩ := atS_out hL_
      obtain ⟨t6', h6_, hL_⟩ := atI_out hL_
      obtain ⟨t7', h7_, hL_⟩ := atI_out hL_
      obtain ⟨t8', h8_, hL_⟩ := atI_out hL_
      obtain ⟨t19', h19_, hL_⟩ := atS_out hL_
      obtain ⟨t20', h20_, hL_⟩ := atI_out hL_
      obtain ⟨t21', h21_, hL_⟩ := atI_out hL_
      obtain ⟨t26', h26_, hL_⟩ := atS_out hL_
      obtain ⟨t27', h27_, hL_⟩ := atI_out hL_
      obtain ⟨t28', h28_, hL_⟩ := atI_out hL_
      obtain ⟨g2, rfl⟩ : ∃ g, a_ = Fr 65 [(1, t1'.v), (5, t5'.v), (6, Value.int .i64 t6'), (7, Value.int .u64 t7'), (8, Value.int .u64 t8'), (19, t19'.v), (20, Value.int .i64 t20'), (21, Value.int .i64 t21'), (26, t26'.v), (27, Value.int .i64 t27'), (28, Value.int .i64 t28')] g := ⟨_, fr_of hz_ hd_ [(1, t1'.v), (5, t5'.v), (6, Value.int .i64 t6'), (7, Value.int .u64 t7'), (8, Value.int .u64 t8'), (19, t19'.v), (20, Value.int .i64 t20'), (21, Value.int .i64 t21'), (26, t26'.v), (27, Value.int .i64 t27'), (28, Value.int .i64 t28')] (sel_cons h1_ (sel_cons h5_ (sel_cons h6_ (sel_cons h7_ (sel_cons h8_ (sel_cons h19_ (sel_cons h20_ (sel_cons h21_ (sel_cons h26_ (sel_cons h27_ (sel_cons h28_ sel_nil)))))))))))⟩
      clear hz_ hd_ h1_ h5_ h6_ h7_ h8_ h19_ h20_ h21_ h26_ h27_ h28_
      have hJ2_ := hL_
      refine ⟨(fun _ => none), kcast (h2 t1 t5 t19 t20 t21 w_ hJ0_ t1' t5' t6' t7' t8' t19' t20' t21' t26' t27' t28' w__ hJ2_) ?_, ?_⟩
      · kernel_rfl
      · exact (obl_seq rfl (obl_reg (obl_seq rfl (obl_cond (obl_skip (obl_exit (obl_seq rfl (obl_blk rfl (obl_seq rfl (obl_reg (obl_seq rfl (obl_reg (obl_seq rfl (obl_reg (obl_reg (obl_reg trivial)))))))))))))))))) (obl_reg (obl_reg trivial)))))))))))))))))))) (obl_seq rfl (obl_reg (obl_ret trivial)))))))))))

def surdref01_Lend_cut (J0 : Slc → Slc → Int → Int → World → Prop) (m0 : Slc → Slc → Int → Int → World → Nat) (J2 : Slc → Slc → Slc → Int → Int → World → Prop) (m2 : Slc → Slc → Slc → Int → Int → World → Nat) : Nat → Option ((Act → World → Prop) × (Act → World → Nat))
  | 0 => some (fun a_ w_ => atSz a_ 40 (atS a_ 0 fun t0_a => atS a_ 4 fun t4_whole => atI .i64 a_ 13 fun t13 => atI .i64 a_ 14 fun t14 => J0 t0_a t4_whole t13 t14 w_), fun a_ w_ => mS a_ 0 fun t0_a => mS a_ 4 fun t4_whole => mI a_ 13 fun t13 => mI a_ 14 fun t14 => m0 t0_a t4_whole t13 t14 w_)
  | 2 => some (fun a_ w_ => atSz a_ 40 (atS a_ 0 fun t0_a => atS a_ 4 fun t4_whole => atS a_ 21 fun t21 => atI .i64 a_ 22 fun t22 => atI .i64 a_ 23 fun t23 => J2 t0_a t4_whole t21 t22 t23 w_), fun a_ w_ => mS a_ 0 fun t0_a => mS a_ 4 fun t4_whole => mS a_ 21 fun t21 => mI a_ 22 fun t22 => mI a_ 23 fun t23 => m2 t0_a t4_whole t21 t22 t23 w_)
  | _ => none

set_option maxRecDepth 100000 in
/-- surd/surdref01.Lend: function 16. -/
theorem surdref01_Lend_vc (a0_a : Slc) (w : World) (R : Ending → World → Prop)
    (J0 : Slc → Slc → Int → Int → World → Prop) (m0 : Slc → Slc → Int → Int → World → Nat) (J2 : Slc → Slc → Slc → Int → Int → World → Prop) (m2 : Slc → Slc → Slc → Int → Int → World → Nat)
    (h : semS Try.prog (Instr.makeSlice 23 (Value.int .i64 (IntKind.i64.wrap ((a0_a.n : Int) + 4))) (Value.int .i64 (IntKind.i64.wrap ((a0_a.n : Int) + 4)))) w fun s1 w1 =>
    J0 a0_a s1 (s1.n : Int) 0 w1)
    (h0 : ∀ (t0_a : Slc) (t4_whole : Slc) (t13 : Int) (t14 : Int) (w_ : World), J0 t0_a t4_whole t13 t14 w_ → 
    br (decide (t14 < t13))
    (semA Try.prog (Instr.indexAt 23 t4_whole.v (Value.int .i64 t14)) w_ fun ad1 w2 =>
     stC ad1 (Value.int .u64 10855845) w2 fun w3 =>
     J0 t0_a t4_whole t13 (IntKind.i64.wrap (t14 + 1)) w3 ∧
     m0 t0_a t4_whole t13 (IntKind.i64.wrap (t14 + 1)) w3 < m0 t0_a t4_whole t13 t14 w_)
    (J2 t0_a t4_whole t0_a (t0_a.n : Int) 0 w_))
    (h2 : ∀ (t0_a : Slc) (t4_whole : Slc) (t21 : Slc) (t22 : Int) (t23 : Int) (w_ : World), J2 t0_a t4_whole t21 t22 t23 w_ → 
    br (decide (t23 < t22))
    (semA Try.prog (Instr.indexAt 23 t21.v (Value.int .i64 t23)) w_ fun ad2 w4 =>
     ldI .u64 ad2 w4 fun x1 =>
     semA Try.prog (Instr.indexAt 23 t4_whole.v (Value.int .i64 (IntKind.i64.wrap (t23 + 2)))) w4 fun ad3 w5 =>
     stC ad3 (Value.int .u64 x1) w5 fun w6 =>
     J2 t0_a t4_whole t21 t22 (IntKind.i64.wrap (t23 + 1)) w6 ∧
     m2 t0_a t4_whole t21 t22 (IntKind.i64.wrap (t23 + 1)) w6 < m2 t0_a t4_whole t21 t22 t23 w_)
    (fixS Try.prog (Instr.sliceAt 23 t4_whole.v (some (Value.int .i64 2)) (some (Value.int .i64 (IntKind.i64.wrap ((t0_a.n : Int) + 2)))) none) w_ fun s2 =>
     ∀ w7, Ahead w_ w7 →
     (R (.returned (Value.tuple #[t4_whole.v, s2.v])) w7))) :
    Calls Try.prog 16 #[a0_a.v] w R := by
  refine calls_of_vc (surdref01_Lend_cut J0 m0 J2 m2) (by kernel_rfl) Try.func16 rfl ?_ ?_
  · refine kcast h ?_; kernel_rfl
  · exact (obl_seq rfl (obl_reg (obl_seq rfl (obl_reg (obl_seq rfl (obl_seq rfl (obl_reg (obl_loop _ rfl (fun a_ w_ hL_ => (by
    obtain ⟨hz_, hd_, hL_⟩ := atSz_out hL_
    obtain ⟨t0_a, h0_, hL_⟩ := atS_out hL_
    obtain ⟨t4_whole, h4_, hL_⟩ := atS_out hL_
    obtain ⟨t13, h13_, hL_⟩ := atI_out hL_
    obtain ⟨t14, h14_, hL_⟩ := atI_out hL_
    obtain ⟨g0, rfl⟩ : ∃ g, a_ = Fr 40 [(0, t0_a.v), (4, t4_whole.v), (13, Value.int .i64 t13), (14, Value.int .i64 t14)] g := ⟨_, fr_of hz_ hd_ [(0, t0_a.v), (4, t4_whole.v), (13, Value.int .i64 t13), (14, Value.int .i64 t14)] (sel_cons h0_ (sel_cons h4_ (sel_cons h13_ (sel_cons h14_ sel_nil))))⟩
    clear hz_ hd_ h0_ h4_ h13_ h14_
    have hJ0_ := hL_
    refine ⟨(fun _ => none), kcast (h0 t0_a t4_whole t13 t14 w_ hJ0_) ?_, ?_⟩
    · kernel_rfl
    · exact (obl_seq rfl (obl_reg (obl_seq rfl (obl_cond (obl_skip (obl_exit (obl_seq rfl (obl_blk rfl (obl_seq rfl (obl_reg (obl_reg (obl_reg trivial)))))))))))))) (obl_seq rfl (obl_seq rfl (obl_reg (obl_loop _ rfl (fun a_ w_ hL_ => (by
    obtain ⟨hz_, hd_, hL_⟩ := atSz_out hL_
    obtain ⟨t0_a, h0_, hL_⟩ := atS_out hL_
    obtain ⟨t4_whole, h4_, hL_⟩ := atS_out hL_
    obtain ⟨t21, h21_, hL_⟩ := atS_out hL_
    obtain ⟨t22, h22_, hL_⟩ := atI_out hL_
    obtain ⟨t23, h23_, hL_⟩ := atI_out hL_
    obtain ⟨g2, rfl⟩ : ∃ g, a_ = Fr 40 [(0, t0_a.v), (4, t4_whole.v), (21, t21.v), (22, Value.int .i64 t22), (23, Value.int .i64 t23)] g := ⟨_, fr_of hz_ hd_ [(0, t0_a.v), (4, t4_whole.v), (21, t21.v), (22, Value.int .i64 t22), (23, Value.int .i64 t23)] (sel_cons h0_ (sel_cons h4_ (sel_cons h21_ (sel_cons h22_ (sel_cons h23_ sel_nil)))))⟩
    clear hz_ hd_ h0_ h4_ h21_ h22_ h23_
    have hJ2_ := hL_
    refine ⟨(fun _ => none), kcast (h2 t0_a t4_whole t21 t22 t23 w_ hJ2_) ?_, ?_⟩
    · kernel_rfl
    · exact (obl_seq rfl (obl_reg (obl_seq rfl (obl_cond (obl_skip (obl_exit (obl_seq rfl (obl_blk rfl (obl_seq rfl (obl_reg (obl_reg (obl_reg trivial)))))))))))))) (obl_seq rfl (obl_quiet (by kernel_rfl) (by kernel_rfl) (by kernel_rfl) (by kernel_rfl) (obl_ret trivial)))))))))))))))

def surdref01_Kept_cut (J0 : Slc → Slc → Int → Int → World → Prop) (m0 : Slc → Slc → Int → Int → World → Nat) : Nat → Option ((Act → World → Prop) × (Act → World → Nat))
  | 0 => some (fun a_ w_ => atSz a_ 39 (atS a_ 1 fun t1_a => atS a_ 13 fun t13 => atI .i64 a_ 14 fun t14 => atI .i64 a_ 15 fun t15 => J0 t1_a t13 t14 t15 w_), fun a_ w_ => mS a_ 1 fun t1_a => mS a_ 13 fun t13 => mI a_ 14 fun t14 => mI a_ 15 fun t15 => m0 t1_a t13 t14 t15 w_)
  | _ => none

set_option maxRecDepth 100000 in
/-- surd/surdref01.Kept: function 22. -/
theorem surdref01_Kept_vc (a0_whole : Slc) (a1_a : Slc) (w : World) (R : Ending → World → Prop)
    (J0 : Slc → Slc → Int → Int → World → Prop) (m0 : Slc → Slc → Int → Int → World → Nat)
    (h : br ((a0_whole.n : Int) != (IntKind.i64.wrap ((a1_a.n : Int) + 4)))
    (R (.returned (Value.bool false)) w)
    (J0 a1_a a0_whole (a0_whole.n : Int) 0 w))
    (h0 : ∀ (t1_a : Slc) (t13 : Slc) (t14 : Int) (t15 : Int) (w_ : World), J0 t1_a t13 t14 t15 w_ → 
    br (decide (t15 < t14))
    (semA Try.prog (Instr.indexAt 23 t13.v (Value.int .i64 t15)) w_ fun ad1 w1 =>
     ldI .u64 ad1 w1 fun x1 =>
     br (decide (t15 < 2))
     (br (x1 != 10855845)
      (R (.returned (Value.bool false)) w1)
      (J0 t1_a t13 t14 (IntKind.i64.wrap (t15 + 1)) w1 ∧
       m0 t1_a t13 t14 (IntKind.i64.wrap (t15 + 1)) w1 < m0 t1_a t13 t14 t15 w_))
     (br (decide (t15 ≥ (IntKind.i64.wrap ((t1_a.n : Int) + 2))))
      (br (x1 != 10855845)
       (R (.returned (Value.bool false)) w1)
       (J0 t1_a t13 t14 (IntKind.i64.wrap (t15 + 1)) w1 ∧
        m0 t1_a t13 t14 (IntKind.i64.wrap (t15 + 1)) w1 < m0 t1_a t13 t14 t15 w_))
      (semA Try.prog (Instr.indexAt 23 t1_a.v (Value.int .i64 (IntKind.i64.wrap (t15 - 2)))) w1 fun ad2 w2 =>
       ldI .u64 ad2 w2 fun x2 =>
       br (x1 != x2)
       (R (.returned (Value.bool false)) w2)
       (J0 t1_a t13 t14 (IntKind.i64.wrap (t15 + 1)) w2 ∧
        m0 t1_a t13 t14 (IntKind.i64.wrap (t15 + 1)) w2 < m0 t1_a t13 t14 t15 w_))))
    (R (.returned (Value.bool true)) w_)) :
    Calls Try.prog 22 #[a0_whole.v, a1_a.v] w R := by
  refine calls_of_vc (surdref01_Kept_cut J0 m0) (by kernel_rfl) Try.func22 rfl ?_ ?_
  · refine kcast h ?_; kernel_rfl
  · exact (obl_seq rfl (obl_reg (obl_seq rfl (obl_seq rfl (obl_reg (obl_cond (obl_seq rfl (obl_reg (obl_ret (obl_skip (obl_seq rfl (obl_seq rfl (obl_reg (obl_loop _ rfl (fun a_ w_ hL_ => (by
    obtain ⟨hz_, hd_, hL_⟩ := atSz_out hL_
    obtain ⟨t1_a, h1_, hL_⟩ := atS_out hL_
    obtain ⟨t13, h13_, hL_⟩ := atS_out hL_
    obtain ⟨t14, h14_, hL_⟩ := atI_out hL_
    obtain ⟨t15, h15_, hL_⟩ := atI_out hL_
    obtain ⟨g0, rfl⟩ : ∃ g, a_ = Fr 39 [(1, t1_a.v), (13, t13.v), (14, Value.int .i64 t14), (15, Value.int .i64 t15)] g := ⟨_, fr_of hz_ hd_ [(1, t1_a.v), (13, t13.v), (14, Value.int .i64 t14), (15, Value.int .i64 t15)] (sel_cons h1_ (sel_cons h13_ (sel_cons h14_ (sel_cons h15_ sel_nil))))⟩
    clear hz_ hd_ h1_ h13_ h14_ h15_
    have hJ0_ := hL_
    refine ⟨(fun _ => none), kcast (h0 t1_a t13 t14 t15 w_ hJ0_) ?_, ?_⟩
    · kernel_rfl
    · exact (obl_seq rfl (obl_reg (obl_seq rfl (obl_cond (obl_skip (obl_exit (obl_seq rfl (obl_blk rfl (obl_seq rfl (obl_reg (obl_seq rfl (obl_reg (obl_cond (obl_seq rfl (obl_reg (obl_cond (obl_seq rfl (obl_reg (obl_ret (obl_skip (obl_seq rfl (obl_reg (obl_cond (obl_seq rfl (obl_reg (obl_ret (obl_skip (obl_reg trivial)))))))))))))))))))))))))))))) (obl_seq rfl (obl_reg (obl_ret trivial)))))))))))))))))

def surdref01_Own_cut (J0 : Slc → Slc → Int → Int → World → Prop) (m0 : Slc → Slc → Int → Int → World → Nat) (J2 : Slc → Slc → Int → Int → World → Slc → Int → Slc → Slc → Int → Int → Int → Int → World → Prop) (m2 : Slc → Slc → Int → Int → World → Slc → Int → Slc → Slc → Int → Int → Int → Int → World → Nat) (J4 : Slc → Slc → Int → Int → World → Prop) (m4 : Slc → Slc → Int → Int → World → Nat) (J6 : Slc → Int → Int → World → Prop) (m6 : Slc → Int → Int → World → Nat) (J8 : Slc → Int → Int → World → Int → Slc → Slc → Int → Int → Slc → Int → Int → World → Prop) (m8 : Slc → Int → Int → World → Int → Slc → Slc → Int → Int → Slc → Int → Int → World → Nat) : Nat → Option ((Act → World → Prop) × (Act → World → Nat))
  | 0 => some (fun a_ w_ => atSz a_ 112 (atS a_ 0 fun t0 => atS a_ 13 fun t13 => atI .i64 a_ 14 fun t14 => atI .i64 a_ 15 fun t15 => J0 t0 t13 t14 t15 w_), fun a_ w_ => mS a_ 0 fun t0 => mS a_ 13 fun t13 => mI a_ 14 fun t14 => mI a_ 15 fun t15 => m0 t0 t13 t14 t15 w_)
  | 4 => some (fun a_ w_ => atSz a_ 112 (atS a_ 0 fun t0 => atS a_ 34 fun t34 => atI .i64 a_ 35 fun t35 => atI .i64 a_ 36 fun t36 => J4 t0 t34 t35 t36 w_), fun a_ w_ => mS a_ 0 fun t0 => mS a_ 34 fun t34 => mI a_ 35 fun t35 => mI a_ 36 fun t36 => m4 t0 t34 t35 t36 w_)
  | 6 => some (fun a_ w_ => atSz a_ 112 (atS a_ 62 fun t62 => atI .i64 a_ 63 fun t63 => atI .i64 a_ 64 fun t64 => J6 t62 t63 t64 w_), fun a_ w_ => mS a_ 62 fun t62 => mI a_ 63 fun t63 => mI a_ 64 fun t64 => m6 t62 t63 t64 w_)
  | _ => none

def surdref01_Own_cut_0 (J0 : Slc → Slc → Int → Int → World → Prop) (m0 : Slc → Slc → Int → Int → World → Nat) (J2 : Slc → Slc → Int → Int → World → Slc → Int → Slc → Slc → Int → Int → Int → Int → World → Prop) (m2 : Slc → Slc → Int → Int → World → Slc → Int → Slc → Slc → Int → Int → Int → Int → World → Nat) (J4 : Slc → Slc → Int → Int → World → Prop) (m4 : Slc → Slc → Int → Int → World → Nat) (J6 : Slc → Int → Int → World → Prop) (m6 : Slc → Int → Int → World → Nat) (J8 : Slc → Int → Int → World → Int → Slc → Slc → Int → Int → Slc → Int → Int → World → Prop) (m8 : Slc → Int → Int → World → Int → Slc → Slc → Int → Int → Slc → Int → Int → World → Nat) (o_t0 : Slc) (o_t13 : Slc) (o_t14 : Int) (o_t15 : Int) (o_w_ : World) : Nat → Option ((Act → World → Prop) × (Act → World → Nat))
  | 2 => some (fun a_ w_ => atSz a_ 112 (atS a_ 0 fun t0 => atI .i64 a_ 3 fun t3 => atS a_ 4 fun t4 => atS a_ 13 fun t13 => atI .i64 a_ 14 fun t14 => atI .i64 a_ 15 fun t15 => atI .i64 a_ 21 fun t21 => atI .i64 a_ 22 fun t22 => J2 o_t0 o_t13 o_t14 o_t15 o_w_ t0 t3 t4 t13 t14 t15 t21 t22 w_), fun a_ w_ => mS a_ 0 fun t0 => mI a_ 3 fun t3 => mS a_ 4 fun t4 => mS a_ 13 fun t13 => mI a_ 14 fun t14 => mI a_ 15 fun t15 => mI a_ 21 fun t21 => mI a_ 22 fun t22 => m2 o_t0 o_t13 o_t14 o_t15 o_w_ t0 t3 t4 t13 t14 t15 t21 t22 w_)
  | _ => none

def surdref01_Own_cut_6 (J0 : Slc → Slc → Int → Int → World → Prop) (m0 : Slc → Slc → Int → Int → World → Nat) (J2 : Slc → Slc → Int → Int → World → Slc → Int → Slc → Slc → Int → Int → Int → Int → World → Prop) (m2 : Slc → Slc → Int → Int → World → Slc → Int → Slc → Slc → Int → Int → Int → Int → World → Nat) (J4 : Slc → Slc → Int → Int → World → Prop) (m4 : Slc → Slc → Int → Int → World → Nat) (J6 : Slc → Int → Int → World → Prop) (m6 : Slc → Int → Int → World → Nat) (J8 : Slc → Int → Int → World → Int → Slc → Slc → Int → Int → Slc → Int → Int → World → Prop) (m8 : Slc → Int → Int → World → Int → Slc → Slc → Int → Int → Slc → Int → Int → World → Nat) (o_t62 : Slc) (o_t63 : Int) (o_t64 : Int) (o_w_ : World) : Nat → Option ((Act → World → Prop) × (Act → World → Nat))
  | 8 => some (fun a_ w_ => atSz a_ 112 (atI .i64 a_ 9 fun t9 => atS a_ 10 fun t10 => atS a_ 62 fun t62 => atI .i64 a_ 63 fun t63 => atI .i64 a_ 64 fun t64 => atS a_ 69 fun t69 => atI .i64 a_ 70 fun t70 => atI .i64 a_ 71 fun t71 => J8 o_t62 o_t63 o_t64 o_w_ t9 t10 t62 t63 t64 t69 t70 t71 w_), fun a_ w_ => mI a_ 9 fun t9 => mS a_ 10 fun t10 => mS a_ 62 fun t62 => mI a_ 63 fun t63 => mI a_ 64 fun t64 => mS a_ 69 fun t69 => mI a_ 70 fun t70 => mI a_ 71 fun t71 => m8 o_t62 o_t63 o_t64 o_w_ t9 t10 t62 t63 t64 t69 t70 t71 w_)
  | _ => none

set_option maxRecDepth 100000 in
/-- surd/surdref01.Own: function 23. -/
theorem surdref01_Own_vc (a0 : Slc) (w : World) (R : Ending → World → Prop)
    (J0 : Slc → Slc → Int → Int → World → Prop) (m0 : Slc → Slc → Int → Int → World → Nat) (J2 : Slc → Slc → Int → Int → World → Slc → Int → Slc → Slc → Int → Int → Int → Int → World → Prop) (m2 : Slc → Slc → Int → Int → World → Slc → Int → Slc → Slc → Int → Int → Int → Int → World → Nat) (J4 : Slc → Slc → Int → Int → World → Prop) (m4 : Slc → Slc → Int → Int → World → Nat) (J6 : Slc → Int → Int → World → Prop) (m6 : Slc → Int → Int → World → Nat) (J8 : Slc → Int → Int → World → Int → Slc → Slc → Int → Int → Slc → Int → Int → World → Prop) (m8 : Slc → Int → Int → World → Int → Slc → Slc → Int → Int → Slc → Int → Int → World → Nat)
    (h : J0 a0 a0 (a0.n : Int) 0 w)
    (h0 : ∀ (t0 : Slc) (t13 : Slc) (t14 : Int) (t15 : Int) (w_ : World), J0 t0 t13 t14 t15 w_ → 
    br (decide (t15 < t14))
    (semA Try.prog (Instr.indexAt 48 t13.v (Value.int .i64 t15)) w_ fun ad1 w1 =>
     ldS ad1 w1 fun s1 =>
     J2 t0 t13 t14 t15 w_ t0 t15 s1 t13 t14 t15 (s1.n : Int) 0 w1)
    (J4 t0 t0 (t0.n : Int) 0 w_))
    (h2 : ∀ (t0 : Slc) (t13 : Slc) (t14 : Int) (t15 : Int) (w_ : World), J0 t0 t13 t14 t15 w_ → ∀ (t0' : Slc) (t3' : Int) (t4' : Slc) (t13' : Slc) (t14' : Int) (t15' : Int) (t21' : Int) (t22' : Int) (w__ : World), J2 t0 t13 t14 t15 w_ t0' t3' t4' t13' t14' t15' t21' t22' w__ → 
    br (decide (t22' < t21'))
    (semA Try.prog (Instr.indexAt 23 t4'.v (Value.int .i64 t22')) w__ fun ad2 w2 =>
     stC ad2 (Value.int .u64 (IntKind.u64.wrap (IntKind.i64.wrap ((Int.tmod t3' 251) + 1)))) w2 fun w3 =>
     J2 t0 t13 t14 t15 w_ t0' t3' t4' t13' t14' t15' t21' (IntKind.i64.wrap (t22' + 1)) w3 ∧
     m2 t0 t13 t14 t15 w_ t0' t3' t4' t13' t14' t15' t21' (IntKind.i64.wrap (t22' + 1)) w3 < m2 t0 t13 t14 t15 w_ t0' t3' t4' t13' t14' t15' t21' t22' w__)
    (J0 t0' t13' t14' (IntKind.i64.wrap (t15' + 1)) w__ ∧
     m0 t0' t13' t14' (IntKind.i64.wrap (t15' + 1)) w__ < m0 t0 t13 t14 t15 w_))
    (h4 : ∀ (t0 : Slc) (t34 : Slc) (t35 : Int) (t36 : Int) (w_ : World), J4 t0 t34 t35 t36 w_ → 
    br (decide (t36 < t35))
    (semA Try.prog (Instr.indexAt 48 t34.v (Value.int .i64 t36)) w_ fun ad3 w4 =>
     ldS ad3 w4 fun s2 =>
     newC w4 #[Value.int .u64 (IntKind.u64.wrap (IntKind.i64.wrap (300 + (IntKind.i64.wrap (5 * t36))))), Value.int .u64 (IntKind.u64.wrap ((IntKind.u64.wrap (IntKind.i64.wrap (300 + (IntKind.i64.wrap (5 * t36))))) + 1)), Value.int .u64 (IntKind.u64.wrap ((IntKind.u64.wrap (IntKind.i64.wrap (300 + (IntKind.i64.wrap (5 * t36))))) + 2)), Value.int .u64 (IntKind.u64.wrap ((IntKind.u64.wrap (IntKind.i64.wrap (300 + (IntKind.i64.wrap (5 * t36))))) + 3)), Value.int .u64 (IntKind.u64.wrap ((IntKind.u64.wrap (IntKind.i64.wrap (300 + (IntKind.i64.wrap (5 * t36))))) + 4))] 29 fun ad4 w5 =>
     semS Try.prog (Builtin.append_ #[23, 23] 23 #[s2.v, (⟨some ad4, 5, 5⟩ : Slc).v]) w5 fun s3 w6 =>
     semA Try.prog (Instr.indexAt 48 t0.v (Value.int .i64 t36)) w6 fun ad5 w7 =>
     stC ad5 s3.v w7 fun w8 =>
     J4 t0 t34 t35 (IntKind.i64.wrap (t36 + 1)) w8 ∧
     m4 t0 t34 t35 (IntKind.i64.wrap (t36 + 1)) w8 < m4 t0 t34 t35 t36 w_)
    (J6 t0 (t0.n : Int) 0 w_))
    (h6 : ∀ (t62 : Slc) (t63 : Int) (t64 : Int) (w_ : World), J6 t62 t63 t64 w_ → 
    br (decide (t64 < t63))
    (semA Try.prog (Instr.indexAt 48 t62.v (Value.int .i64 t64)) w_ fun ad6 w9 =>
     ldS ad6 w9 fun s4 =>
     J8 t62 t63 t64 w_ t64 s4 t62 t63 t64 s4 (s4.n : Int) 0 w9)
    (R (.returned (Value.bool true)) w_))
    (h8 : ∀ (t62 : Slc) (t63 : Int) (t64 : Int) (w_ : World), J6 t62 t63 t64 w_ → ∀ (t9' : Int) (t10' : Slc) (t62' : Slc) (t63' : Int) (t64' : Int) (t69' : Slc) (t70' : Int) (t71' : Int) (w__ : World), J8 t62 t63 t64 w_ t9' t10' t62' t63' t64' t69' t70' t71' w__ → 
    br (decide (t71' < t70'))
    (semA Try.prog (Instr.indexAt 23 t69'.v (Value.int .i64 t71')) w__ fun ad7 w10 =>
     ldI .u64 ad7 w10 fun x1 =>
     br (decide (t71' < (IntKind.i64.wrap ((t10'.n : Int) - 5))))
     (br (x1 != (IntKind.u64.wrap (IntKind.i64.wrap ((Int.tmod t9' 251) + 1))))
      (R (.returned (Value.bool false)) w10)
      (br (decide (t71' ≥ (IntKind.i64.wrap ((t10'.n : Int) - 5))))
       (br (x1 != (IntKind.u64.wrap (IntKind.i64.wrap ((IntKind.i64.wrap ((IntKind.i64.wrap ((IntKind.i64.wrap (300 + (IntKind.i64.wrap (5 * t9')))) + t71')) - (t10'.n : Int))) + 5))))
        (R (.returned (Value.bool false)) w10)
        (J8 t62 t63 t64 w_ t9' t10' t62' t63' t64' t69' t70' (IntKind.i64.wrap (t71' + 1)) w10 ∧
         m8 t62 t63 t64 w_ t9' t10' t62' t63' t64' t69' t70' (IntKind.i64.wrap (t71' + 1)) w10 < m8 t62 t63 t64 w_ t9' t10' t62' t63' t64' t69' t70' t71' w__))
       (J8 t62 t63 t64 w_ t9' t10' t62' t63' t64' t69' t70' (IntKind.i64.wrap (t71' + 1)) w10 ∧
        m8 t62 t63 t64 w_ t9' t10' t62' t63' t64' t69' t70' (IntKind.i64.wrap (t71' + 1)) w10 < m8 t62 t63 t64 w_ t9' t10' t62' t63' t64' t69' t70' t71' w__)))
     (br (decide (t71' ≥ (IntKind.i64.wrap ((t10'.n : Int) - 5))))
      (br (x1 != (IntKind.u64.wrap (IntKind.i64.wrap ((IntKind.i64.wrap ((IntKind.i64.wrap ((IntKind.i64.wrap (300 + (IntKind.i64.wrap (5 * t9')))) + t71')) - (t10'.n : Int))) + 5))))
       (R (.returned (Value.bool false)) w10)
       (J8 t62 t63 t64 w_ t9' t10' t62' t63' t64' t69' t70' (IntKind.i64.wrap (t71' + 1)) w10 ∧
        m8 t62 t63 t64 w_ t9' t10' t62' t63' t64' t69' t70' (IntKind.i64.wrap (t71' + 1)) w10 < m8 t62 t63 t64 w_ t9' t10' t62' t63' t64' t69' t70' t71' w__))
      (J8 t62 t63 t64 w_ t9' t10' t62' t63' t64' t69' t70' (IntKind.i64.wrap (t71' + 1)) w10 ∧
       m8 t62 t63 t64 w_ t9' t10' t62' t63' t64' t69' t70' (IntKind.i64.wrap (t71' + 1)) w10 < m8 t62 t63 t64 w_ t9' t10' t62' t63' t64' t69' t70' t71' w__)))
    (J6 t62' t63' (IntKind.i64.wrap (t64' + 1)) w__ ∧
     m6 t62' t63' (IntKind.i64.wrap (t64' + 1)) w__ < m6 t62 t63 t64 w_)) :
    Calls Try.prog 23 #[a0.v] w R := by
  refine calls_of_vc (surdref01_Own_cut J0 m0 J2 m2 J4 m4 J6 m6 J8 m8) (by kernel_rfl) Try.func23 rfl ?_ ?_
  · refine kcast h ?_; kernel_rfl
  · exact (obl_seq rfl (obl_reg (obl_seq rfl (obl_seq rfl (obl_reg (obl_loop _ rfl (fun a_ w_ hL_ => (by
    obtain ⟨hz_, hd_, hL_⟩ := atSz_out hL_
    obtain ⟨t0, h0_, hL_⟩ := atS_out hL_
    obtain ⟨t13, h13_, hL_⟩ := atS_out hL_
    obtain ⟨t14, h14_, hL_⟩ := atI_out hL_
    obtain ⟨t15, h15_, hL_⟩ := atI_out hL_
    obtain ⟨g0, rfl⟩ : ∃ g, a_ = Fr 112 [(0, t0.v), (13, t13.v), (14, Value.int .i64 t14), (15, Value.int .i64 t15)] g := ⟨_, fr_of hz_ hd_ [(0, t0.v), (13, t13.v), (14, Value.int .i64 t14), (15, Value.int .i64 t15)] (sel_cons h0_ (sel_cons h13_ (sel_cons h14_ (sel_cons h15_ sel_nil))))⟩
    clear hz_ hd_ h0_ h13_ h14_ h15_
    have hJ0_ := hL_
    refine ⟨(surdref01_Own_cut_0 J0 m0 J2 m2 J4 m4 J6 m6 J8 m8 t0 t13 t14 t15 w_), kcast (h0 t0 t13 t14 t15 w_ hJ0_) ?_, ?_⟩
    · kernel_rfl
    · exact (obl_seq rfl (obl_reg (obl_seq rfl (obl_cond (obl_skip (obl_exit (obl_seq rfl (obl_blk rfl (obl_seq rfl (obl_reg (obl_seq rfl (obl_reg (obl_loop _ rfl (fun a_ w__ hL_ => (by
      obtain ⟨hz_, hd_, hL_⟩ := atSz_out hL_
      obtain ⟨t0', h0_, hL_⟩ := atS_out hL_
      obtain ⟨t3', h3_, hL_⟩ := atI_out hL_
      obtain ⟨t4', h4_, hL_⟩ := atS_out hL_
      obtain ⟨t13', h13_, hL_⟩ := atS_out hL_
      obtain ⟨t14', h14_, hL_⟩ := atI_out hL_
      obtain ⟨t15', h15_, hL_⟩ := atI_out hL_
      obtain ⟨t21', h21_, hL_⟩ := atI_out hL_
      obtain ⟨t22', h22_, hL_⟩ := atI_out hL_
      obtain ⟨g2, rfl⟩ : ∃ g, a_ = Fr 112 [(0, t0'.v), (3, Value.int .i64 t3'), (4, t4'.v), (13, t13'.v), (14, Value.int .i64 t14'), (15, Value.int .i64 t15'), (21, Value.int .i64 t21'), (22, Value.int .i64 t22')] g := ⟨_, fr_of hz_ hd_ [(0, t0'.v), (3, Value.int .i64 t3'), (4, t4'.v), (13, t13'.v), (14, Value.int .i64 t14'), (15, Value.int .i64 t15'), (21, Value.int .i64 t21'), (22, Value.int .i64 t22')] (sel_cons h0_ (sel_cons h3_ (sel_cons h4_ (sel_cons h13_ (sel_cons h14_ (sel_cons h15_ (sel_cons h21_ (sel_cons h22_ sel_nil))))))))⟩
      clear hz_ hd_ h0_ h3_ h4_ h13_ h14_ h15_ h21_ h22_
      have hJ2_ := hL_
      refine ⟨(fun _ => none), kcast (h2 t0 t13 t14 t15 w_ hJ0_ t0' t3' t4' t13' t14' t15' t21' t22' w__ hJ2_) ?_, ?_⟩
      · kernel_rfl
      · exact (obl_seq rfl (obl_reg (obl_seq rfl (obl_cond (obl_skip (obl_exit (obl_seq rfl (obl_blk rfl (obl_seq rfl (obl_reg (obl_reg (obl_reg trivial)))))))))))))) (obl_reg trivial)))))))))))))))) (obl_seq rfl (obl_seq rfl (obl_reg (obl_loop _ rfl (fun a_ w_ hL_ => (by
    obtain ⟨hz_, hd_, hL_⟩ := atSz_out hL_
    obtain ⟨t0, h0_, hL_⟩ := atS_out hL_
    obtain ⟨t34, h34_, hL_⟩ := atS_out hL_
    obtain ⟨t35, h35_, hL_⟩ := atI_out hL_
    obtain ⟨t36, h36_, hL_⟩ := atI_out hL_
    obtain ⟨g4, rfl⟩ : ∃ g, a_ = Fr 112 [(0, t0.v), (34, t34.v), (35, Value.int .i64 t35), (36, Value.int .i64 t36)] g := ⟨_, fr_of hz_ hd_ [(0, t0.v), (34, t34.v), (35, Value.int .i64 t35), (36, Value.int .i64 t36)] (sel_cons h0_ (sel_cons h34_ (sel_cons h35_ (sel_cons h36_ sel_nil))))⟩
    clear hz_ hd_ h0_ h34_ h35_ h36_
    have hJ4_ := hL_
    refine ⟨(fun _ => none), kcast (h4 t0 t34 t35 t36 w_ hJ4_) ?_, ?_⟩
    · kernel_rfl
    · exact (obl_seq rfl (obl_reg (obl_seq rfl (obl_cond (obl_skip (obl_exit (obl_seq rfl (obl_blk rfl (obl_seq rfl (obl_reg (obl_seq rfl (obl_reg (obl_seq rfl (obl_reg (obl_reg (obl_reg trivial)))))))))))))))))) (obl_seq rfl (obl_seq rfl (obl_reg (obl_loop _ rfl (fun a_ w_ hL_ => (by
    obtain ⟨hz_, hd_, hL_⟩ := atSz_out hL_
    obtain ⟨t62, h62_, hL_⟩ := atS_out hL_
    obtain ⟨t63, h63_, hL_⟩ := atI_out hL_
    obtain ⟨t64, h64_, hL_⟩ := atI_out hL_
    obtain ⟨g6, rfl⟩ : ∃ g, a_ = Fr 112 [(62, t62.v), (63, Value.int .i64 t63), (64, Value.int .i64 t64)] g := ⟨_, fr_of hz_ hd_ [(62, t62.v), (63, Value.int .i64 t63), (64, Value.int .i64 t64)] (sel_cons h62_ (sel_cons h63_ (sel_cons h64_ sel_nil)))⟩
    clear hz_ hd_ h62_ h63_ h64_
    have hJ6_ := hL_
    refine ⟨(surdref01_Own_cut_6 J0 m0 J2 m2 J4 m4 J6 m6 J8 m8 t62 t63 t64 w_), kcast (h6 t62 t63 t64 w_ hJ6_) ?_, ?_⟩
    · kernel_rfl
    · exact (obl_seq rfl (obl_reg (obl_seq rfl (obl_cond (obl_skip (obl_exit (obl_seq rfl (obl_blk rfl (obl_seq rfl (obl_reg (obl_seq rfl (obl_reg (obl_loop _ rfl (fun a_ w__ hL_ => (by
      obtain ⟨hz_, hd_, hL_⟩ := atSz_out hL_
      obtain ⟨t9', h9_, hL_⟩ := atI_out hL_
      obtain ⟨t10', h10_, hL_⟩ := atS_out hL_
      obtain ⟨t62', h62_, hL_⟩ := atS_out hL_
      obtain ⟨t63', h63_, hL_⟩ := atI_out hL_
      obtain ⟨t64', h64_, hL_⟩ := atI_out hL_
      obtain ⟨t69', h69_, hL_⟩ := atS_out hL_
      obtain ⟨t70', h70_, hL_⟩ := atI_out hL_
      obtain ⟨t71', h71_, hL_⟩ := atI_out hL_
      obtain ⟨g8, rfl⟩ : ∃ g, a_ = Fr 112 [(9, Value.int .i64 t9'), (10, t10'.v), (62, t62'.v), (63, Value.int .i64 t63'), (64, Value.int .i64 t64'), (69, t69'.v), (70, Value.int .i64 t70'), (71, Value.int .i64 t71')] g := ⟨_, fr_of hz_ hd_ [(9, Value.int .i64 t9'), (10, t10'.v), (62, t62'.v), (63, Value.int .i64 t63'), (64, Value.int .i64 t64'), (69, t69'.v), (70, Value.int .i64 t70'), (71, Value.int .i64 t71')] (sel_cons h9_ (sel_cons h10_ (sel_cons h62_ (sel_cons h63_ (sel_cons h64_ (sel_cons h69_ (sel_cons h70_ (sel_cons h71_ sel_nil))))))))⟩
      clear hz_ hd_ h9_ h10_ h62_ h63_ h64_ h69_ h70_ h71_
      have hJ8_ := hL_
      refine ⟨(fun _ => none), kcast (h8 t62 t63 t64 w_ hJ6_ t9' t10' t62' t63' t64' t69' t70' t71' w__ hJ8_) ?_, ?_⟩
      · kernel_rfl
      · exact (obl_seq rfl (obl_reg (obl_seq rfl (obl_cond (obl_skip (obl_exit (obl_seq rfl (obl_blk rfl (obl_seq rfl (obl_reg (obl_seq rfl (obl_reg (obl_cond (obl_seq rfl (obl_reg (obl_ret (obl_skip (obl_reg trivial)))))))))))))))))))) (obl_reg trivial)))))))))))))))) (obl_seq rfl (obl_reg (obl_ret trivial)))))))))))))))))

end Go.Proofs.Ytfdajpjiengihaa
namespace Go.Proofs.Ytfdajpjiengihaa
open Go Go.RowKit Eng Sp Dg
set_option linter.unusedVariables false
set_option linter.unusedSimpArgs false
set_option maxRecDepth 100000
namespace Sp
section
variable {P : Program} {t e : TypeId} {k : IntKind}
/-- append of what reads as ys, onto a row of the call's own that has room for it. -/
theorem appRoom (hT : isSl P t k = some e) {w : World} {s x : Slc} {l ys : List Int} {ty : TypeId} {b : Nat} (hx : Rd k w x ys) (hy : 0 < ys.length)
    (hs : Own k e w s l b) (hroom : l.length + ys.length ≤ s.c) {K : Slc → World → Prop}
    (hk : ∀ s' w', s'.c = s.c → Own k e w' s' (l ++ ys) b → (∀ w0, Ahead w0 w → w0.heap.size ≤ b → Ahead w0 w') → K s' w') :
    semS P (Builtin.append_ #[t, t] ty #[s.v, x.v]) w fun s' w' => K s' w' := by
  obtain ⟨hu, he, inf, hi, hs1, hb8, hz⟩ := isSl_out hT
  obtain ⟨ad, hA, _⟩ := hx.get 0 hy
  obtain ⟨sp, hc, hh⟩ := hs.mem
  have hr := run_append_room (P := P) w t ty e inf hu hi b l.length s.c (ints k l ++ sp).toArray hh ad ys.length x.c (ints k ys) (by simp [ints, hs1])
    (fun j u hj => by
      have hj' : j < ys.length := by
        have := (List.getElem?_eq_some_iff.1 hj).1
        simpa [ints] using this
      obtain ⟨ad', e', hcc⟩ := hx.get j hj'
      rw [hA] at e'
      obtain rfl := Option.some.inj e'
      rw [ints_get hj'] at hj
      obtain rfl := Option.some.inj hj
      exact hcc) (by simp [ints, Value.oneCell']) hroom (by simp [ints, hs1]; omega)
  have hxv : x.v = .slice (some ad) ys.length x.c := by rw [Slc.v, hA, hx.n]
  have hsv : s.v = .slice (some ⟨b, 0, none⟩) l.length s.c := by rw [Slc.v, hs.A, hs.n]
  unfold semS
  rw [Sem.wp_iff_run, hxv, hsv, hr]
  refine ⟨⟨some ⟨b, 0, none⟩, l.length + ys.length, s.c⟩, rfl, hk _ _ rfl ⟨by simp, sp.drop ys.length, by simp; omega, ?_⟩ fun w0 ha hb => Below.trans ha ⟨rfl, rfl, rfl, by simp [World.setRow], fun k hk => setRow_other w b k _ (by omega)⟩⟩
  rw [setRow_heap w b _ _ e (0, 0) hh]
  simp [hs1, ints]
  rw [List.drop_append]
  simp
end
end Sp
namespace Ref
open _root_.Go.Proofs.Ytfdajpjiengihaa.Nat (ldN ldNf stN mkN cutHi cutCap Fill mkF stF stFf Num)

/-- The slice reads as the number's digits of 32 bits. -/
def RN (w : World) (s : Slc) (n : Nat) : Prop := Rd .u64 w s (nn (digs B32 n))
theorem RN.ahead {w w' : World} {s : Slc} {n : Nat} (h : RN w s n) (ha : Ahead w w') : RN w' s n := Rd.ahead h ha
theorem RN.n {w : World} {s : Slc} {n : Nat} (h : RN w s n) : s.n = (digs B32 n).length := by rw [Rd.n h, nn_length]
theorem RN.nil {w : World} {A : Option Addr} {c : Nat} : RN w ⟨A, 0, c⟩ 0 := by unfold RN; rw [digs_zero]; exact Rd.nil

theorem norm_specA {w : World} {s : Slc} {l : List Nat} (h : Rd .u64 w s (nn l)) (hl : l.length ≤ 2 ^ 46) (hok : ok B32 l) :
    Calls pr surdref01_norm_id #[s.v] w fun e w' => w' = w ∧ ∃ s', e = .returned (Slc.v s') ∧ RN w s' (val B32 l) ∧ s'.A = s.A := by
  have hn : s.n = l.length := by rw [h.n, nn_length]
  have hc := h.c
  refine surdref01_norm_vc s w _ (fun t n w' => w' = w ∧ t = s ∧ ∃ m : Nat, n = (m : Int) ∧ m ≤ l.length ∧ ∀ i, m ≤ i → i < l.length → l.getD i 0 = 0) (fun _ n _ => n.toNat)
    ⟨rfl, rfl, s.n, rfl, by omega, fun i h1 h2 => by omega⟩ ?_
  rintro t n w' ⟨rfl, rfl, m, rfl, hm, hz⟩
  have fin : (m = 0 ∨ l.getD (m - 1) 0 ≠ 0) → semS pr (Instr.sliceAt 40 t.v none (some (Value.int .i64 (m : Int))) (some (Value.int .i64 (m : Int)))) w' fun s2 w3 =>
      w3 = w' ∧ ∃ s', Ending.returned s2.v = .returned (Slc.v s') ∧ RN w' s' (val B32 l) ∧ s'.A = t.A := by
    intro hlast
    refine cutCap (by omega) (by omega) ?_
    refine ⟨rfl, _, rfl, ?_, rfl⟩
    unfold RN
    rw [digs_take two32 hok hm hz hlast, ← nn_take]
    simp only [Int.toNat_natCast]
    exact h.take (by simpa using hm) (Nat.le_refl _)
  refine br_intro (fun hp => ?_) (fun hp => ?_)
  · have hp' : 0 < m := by simp at hp; omega
    rw [wrap_i64 (x := (m : Int) - 1) (by omega) (by omega)]
    refine ldN h (by omega) (by omega) ?_
    have e2 : ((m : Int) - 1).toNat = m - 1 := by omega
    rw [e2]
    refine br_intro (fun hx => ?_) (fun hx => ?_)
    · refine ⟨⟨rfl, rfl, m - 1, by omega, by omega, fun i h1 h2 => ?_⟩, by omega⟩
      by_cases hi : i = m - 1
      · subst hi; simpa using hx
      · exact hz i (by omega) h2
    · exact fin (.inr (by simpa using hx))
  · exact fin (.inl (by simp at hp; omega))
theorem norm_spec {w : World} {s : Slc} {l : List Nat} (h : Rd .u64 w s (nn l)) (hl : l.length ≤ 2 ^ 46) (hok : ok B32 l) :
    Calls pr surdref01_norm_id #[s.v] w fun e w' => w' = w ∧ ∃ s', e = .returned (Slc.v s') ∧ RN w s' (val B32 l) :=
  Calls.mono (norm_specA h hl hok) fun e w' ⟨h1, s', h2, h3, _⟩ => ⟨h1, s', h2, h3⟩

theorem zero_spec {w : World} {s : Slc} {n : Nat} (h : RN w s n) :
    Calls pr surdref01_Num_Zero_id #[s.v] w fun e w' => w' = w ∧ e = .returned (.bool (decide (n = 0))) := by
  refine surdref01_Num_Zero_vc s w _ ⟨rfl, ?_⟩
  have := h.n
  congr 2
  by_cases hn : n = 0
  · subst hn; rw [digs_zero] at this; simp [this]
  · have h2 := List.length_pos_iff.2 (digs_ne_nil two32 hn)
    have : s.n ≠ 0 := by omega
    simp [hn, this]

/-- A base 2^32: the limbs' list as digits. -/
def split32 : List Nat → List Nat
  | [] => []
  | x :: l => x % B32 :: x / B32 :: split32 l
theorem split32_append (l m : List Nat) : split32 (l ++ m) = split32 l ++ split32 m := by
  induction l with
  | nil => rfl
  | cons x l ih => simp [split32, ih]
theorem split32_length (l : List Nat) : (split32 l).length = 2 * l.length := by
  induction l with
  | nil => rfl
  | cons x l ih => simp [split32, ih]; omega
theorem split32_ok {l : List Nat} (h : ok B64 l) : ok B32 (split32 l) := by
  have hB := B64v
  induction l with
  | nil => exact ok_nil
  | cons x l ih =>
    obtain ⟨h1, h2⟩ := ok_cons.1 h
    exact ok_cons.2 ⟨by simp only [B32v]; omega, ok_cons.2 ⟨by simp only [B32v]; omega, ih h2⟩⟩
theorem split32_val (l : List Nat) : val B32 (split32 l) = val B64 l := by
  have h64 : B64 = B32 * B32 := by decide
  induction l with
  | nil => rfl
  | cons x l ih =>
    show x % B32 + B32 * (x / B32 + B32 * val B32 (split32 l)) = x + B64 * val B64 l
    rw [ih, Nat.mul_add, ← Nat.mul_assoc, ← h64, ← Nat.add_assoc, Nat.mod_add_div]

theorem Of_spec {w : World} {s : Slc} {l : List Nat} (h : Rd .u64 w s (nn l)) (hl : l.length * 8 ≤ 140737488351232) (hok : ok B64 l) :
    Calls pr surdref01_Of_id #[s.v] w fun e w' => Ahead w w' ∧ ∃ s', e = .returned (Slc.v s') ∧ RN w' s' (val B64 l) := by
  have hB := B64v
  have hB32 := B32v
  have hn : s.n = l.length := by rw [h.n, nn_length]
  refine surdref01_Of_vc s w _ (fun out t10 n i w' => t10 = s ∧ n = (l.length : Int) ∧ Ahead w w' ∧ ∃ (j b : Nat), i = (j : Int) ∧ j ≤ l.length ∧ w.heap.size ≤ b ∧ out.c = 2 * l.length ∧
    Own .u64 tU64 w' out (nn (split32 (l.take j))) b) (fun _ _ n i _ => (n - i).toNat) ?_ ?_
  · rw [hn, wrap_i64 (by omega) (by omega)]
    refine mk (e := tU64) (k := .u64) (by kernel_rfl) (Int.le_refl 0) (by omega) (by omega) ?_
    intro s' w' hc ho ha hs
    exact ⟨rfl, rfl, ha, 0, w.heap.size, rfl, Nat.zero_le _, Nat.le_refl _, by rw [hc]; omega, ho⟩
  · rintro out t10 n i w1 ⟨rfl, rfl, ha, j, b, rfl, hj, hb, hoc, ho⟩
    refine br_intro (fun hlt => ?_) (fun hge => ?_)
    · have hj' : j < l.length := by simpa using hlt
      refine ldN (h.ahead ha) (by omega) (by omega) ?_
      have hx := ok_getD hok (by omega : 0 < B64) j
      simp only [Int.toNat_natCast]
      generalize hxe : l.getD j 0 = x at *
      have e1 : Int.tmod (x : Int) 4294967296 = ((x % B32 : Nat) : Int) := by rw [B32v, Int.tmod_eq_emod_of_nonneg (by omega)]; omega
      have e2 : IntKind.u64.wrap (Int.tdiv (x : Int) 4294967296) = ((x / B32 : Nat) : Int) := by
        have : Int.tdiv (x : Int) 4294967296 = ((x / 4294967296 : Nat) : Int) := by rw [Int.tdiv_eq_ediv_of_nonneg (by omega)]; omega
        rw [B32v, this, wrap_u64' (by omega) (by omega)]
      rw [e1, e2]
      have hal := Ahead.alloc w1 (.cells #[Value.int .u64 ((x % B32 : Nat) : Int), Value.int .u64 ((x / B32 : Nat) : Int)] tU64 (0, 0))
      have hlit : Rd .u64 (w1.alloc (.cells #[Value.int .u64 ((x % B32 : Nat) : Int), Value.int .u64 ((x / B32 : Nat) : Int)] tU64 (0, 0))) ⟨some ⟨w1.heap.size, 0, none⟩, 2, 2⟩ (nn [x % B32, x / B32]) :=
        Own.rd (t := tU64) (b := w1.heap.size) ⟨rfl, [], rfl, by rw [get_alloc]; rfl⟩
      refine appRoom (t := _) (e := tU64) (k := .u64) (by kernel_rfl) hlit (by simp) (ho.ahead hal) (by rw [hoc, nn_length, split32_length, nn_length]; simp; omega) ?_
      intro s' w4 hc' ho' hah
      have e8 : IntKind.i64.wrap ((j : Int) + 1) = ((j + 1 : Nat) : Int) := by rw [wrap_i64 (by omega) (by omega)]; omega
      refine ⟨⟨by trivial, by trivial, hah w (ha.trans hal) hb, j + 1, b, e8, hj', hb, by rw [hc', hoc], ?_⟩, by rw [e8]; omega⟩
      rw [List.take_succ_eq_append_getElem hj', split32_append, nn_append]
      have : l[j] = x := by rw [← hxe]; exact (getD_lt l 0 hj').symm
      rw [this]
      exact ho'
    · have hj' : j = l.length := by simp at hge; omega
      subst hj'
      rw [List.take_length] at ho
      refine Calls.mono (norm_spec ho.rd (by rw [split32_length]; omega) (split32_ok hok)) ?_
      rintro e w5 ⟨rfl, s', rfl, hr⟩
      rw [split32_val] at hr
      exact ⟨_, rfl, ha, _, rfl, hr⟩

theorem bl_len32 {l : List Nat} (h : ok B32 l) : bl (val B32 l) ≤ 32 * l.length := bl_le (by rw [← b32_pow]; exact val_lt h)

theorem Len_spec {w : World} {s : Slc} {n : Nat} (h : RN w s n) (hl : (digs B32 n).length ≤ 2 ^ 46) :
    Calls pr surdref01_Num_Len_id #[s.v] w fun e w' => w' = w ∧ e = .returned (.int .i64 (bl n)) := by
  have hB32 := B32v
  have hn := h.n
  have hok := ok_digs two32 n
  refine surdref01_Num_Len_vc s w _ (fun k v w' => w' = w ∧ ∃ (a x : Nat), k = (a : Int) ∧ v = (x : Int) ∧ x < B32 ∧ a ≤ 2 ^ 55 ∧ a + bl x = bl n) (fun _ v _ => v.toNat) ?_ ?_
  · refine br_intro (fun hz => ?_) (fun hz => ?_)
    · have hd : digs B32 n = [] := List.eq_nil_of_length_eq_zero (by simp at hz; omega)
      have hv : n = 0 := by rw [← val_digs two32 n, hd]; rfl
      refine ⟨rfl, ?_⟩
      rw [hv, bl_zero]; rfl
    · have hp : 0 < s.n := by simp at hz; omega
      rw [wrap_i64 (x := (s.n : Int) - 1) (by omega) (by omega)]
      refine ldN h (by omega) (by omega) ?_
      have e2 : ((s.n : Int) - 1).toNat = s.n - 1 := by omega
      rw [e2, wrap_i64 (by omega) (by omega)]
      have hne : n ≠ 0 := by intro h0; subst h0; rw [digs_zero] at hn; simp at hn; omega
      refine ⟨rfl, 32 * (s.n - 1), _, by omega, rfl, ok_getD hok (by omega) _, by omega, ?_⟩
      have hlen : (digs B32 n).length = (s.n - 1) + 1 := by omega
      have hval : n = val B32 ((digs B32 n).take (s.n - 1)) + 2 ^ (32 * (s.n - 1)) * (digs B32 n).getD (s.n - 1) 0 := by
        rw [← b32_pow, ← val_take_succ', List.take_of_length_le (by omega), val_digs two32]
      have hlt : val B32 ((digs B32 n).take (s.n - 1)) < 2 ^ (32 * (s.n - 1)) := by
        rw [← b32_pow]
        have := val_lt (ok_take hok (s.n - 1))
        rw [List.length_take, Nat.min_eq_left (by omega)] at this
        exact this
      have htop := digs_last two32 hne
      rw [show (digs B32 n).length - 1 = s.n - 1 by omega] at htop
      have := bl_add_pow htop hlt
      rw [← hval] at this
      omega
  · rintro k v w1 ⟨rfl, a, x, rfl, rfl, hx, ha, hbl⟩
    refine br_intro (fun hp => ?_) (fun hp => ?_)
    · have hp' : x ≠ 0 := by simp at hp; omega
      have e1 : IntKind.i64.wrap ((a : Int) + 1) = ((a + 1 : Nat) : Int) := by rw [wrap_i64 (by omega) (by omega)]; omega
      have e2 : IntKind.u64.wrap (Int.tdiv (x : Int) 2) = ((x / 2 : Nat) : Int) := by
        have : Int.tdiv (x : Int) 2 = ((x / 2 : Nat) : Int) := by rw [Int.tdiv_eq_ediv_of_nonneg (by omega)]; omega
        rw [this, wrap_u64' (by omega) (by omega)]
      have e3 : bl x = bl (x / 2) + 1 := by
        unfold bl; rw [digs_pos (by omega) hp']; simp
      have hbn : bl n ≤ 32 * (digs B32 n).length := by
        have := bl_len32 hok
        rw [val_digs two32] at this
        exact this
      have := bl_pos hp'
      rw [e1, e2]
      exact ⟨⟨rfl, a + 1, x / 2, rfl, rfl, by omega, by omega, by omega⟩, by omega⟩
    · have hp' : x = 0 := by simp at hp; omega
      subst hp'
      rw [bl_zero] at hbl
      exact ⟨rfl, by rw [← hbl]; rfl⟩

end Ref
end Go.Proofs.Ytfdajpjiengihaa
namespace Go.Proofs.Ytfdajpjiengihaa
open Go Go.RowKit Eng Sp Dg
set_option linter.unusedVariables false
set_option linter.unusedSimpArgs false
set_option maxRecDepth 100000
namespace Ref
open _root_.Go.Proofs.Ytfdajpjiengihaa.Nat (ldN ldNf stN mkN cutHi cutCap Fill mkF stF stFf Num OwnNil)

theorem digs_lt_iff {B n j : Nat} (hB : 2 ≤ B) : j < (digs B n).length ↔ B ^ j ≤ n := by
  by_cases hn : n = 0
  · subst hn
    rw [digs_zero]
    have : 0 < B ^ j := Nat.pow_pos (by omega)
    simp; omega
  · obtain ⟨h1, h2⟩ := digs_length_bounds hB hn
    constructor
    · intro h
      exact Nat.le_trans (Nat.pow_le_pow_right (by omega) (by omega)) h1
    · intro h
      exact (Nat.pow_lt_pow_iff_right (by omega)).1 (Nat.lt_of_le_of_lt h h2)
theorem b64_sq (j : Nat) : B64 ^ j = B32 ^ (2 * j) := by rw [show B64 = B32 ^ 2 by decide, ← Nat.pow_mul]
theorem digs_64_32 {n j : Nat} : j < (digs B64 n).length ↔ 2 * j < (digs B32 n).length := by
  rw [digs_lt_iff two64, digs_lt_iff two32, b64_sq]
theorem limb_eq (n j : Nat) : (digs B64 n).getD j 0 = (digs B32 n).getD (2 * j) 0 + (digs B32 n).getD (2 * j + 1) 0 * B32 := by
  rw [digit (by have := B64v; omega) _ (ok_digs two64 n), digit (by have := B32v; omega) _ (ok_digs two32 n), digit (by have := B32v; omega) _ (ok_digs two32 n), val_digs two64, val_digs two32, b64_sq, Nat.pow_succ, ← Nat.div_div_eq_div_mul]
  generalize n / B32 ^ (2 * j) = U
  rw [show B64 = B32 * B32 by decide, Nat.mod_mul, Nat.mul_comm B32]

theorem Limbs_spec {w : World} {s : Slc} {n : Nat} (h : RN w s n) (hl : (digs B64 n).length ≤ 2 ^ 44) :
    Calls pr surdref01_Num_Limbs_id #[s.v] w fun e w' => Ahead w w' ∧ ∃ s', e = .returned (Slc.v s') ∧ OwnNil w.heap.size w' s' (digs B64 n) := by
  have hB := B64v
  have hB32 := B32v
  have hn := h.n
  have hok := ok_digs two32 n
  have hbnd : (digs B32 n).length ≤ 2 ^ 45 := by
    rcases Nat.lt_or_ge (2 ^ 45) (digs B32 n).length with h1 | h1
    · have := digs_64_32 (n := n) (j := 2 ^ 44)
      omega
    · exact h1
  refine surdref01_Num_Limbs_vc s w _ (fun t out i w' => t = s ∧ Ahead w w' ∧ ∃ j : Nat, i = 2 * (j : Int) ∧ j ≤ (digs B64 n).length ∧ OwnNil w.heap.size w' out ((digs B64 n).take j)) (fun _ _ i _ => (2 * ((digs B64 n).length : Int) - i).toNat)
    ⟨rfl, Ahead.refl _, 0, rfl, Nat.zero_le _, OwnNil.nil⟩ ?_
  rintro t out i w1 ⟨rfl, ha, j, rfl, hj, ho⟩
  have hiff := digs_64_32 (n := n) (j := j)
  refine br_intro (fun hlt => ?_) (fun hge => ?_)
  · have hj' : 2 * j < (digs B32 n).length := by simp at hlt; omega
    have hjj := hiff.2 hj'
    have hlimb := limb_eq n j
    have hx := ok_getD hok (by omega : 0 < B32) (2 * j)
    have hy := ok_getD hok (by omega : 0 < B32) (2 * j + 1)
    have hL := ok_getD (ok_digs two64 n) (by omega : 0 < B64) j
    have e8 : IntKind.i64.wrap (2 * (j : Int) + 2) = 2 * ((j + 1 : Nat) : Int) := by rw [wrap_i64 (by omega) (by omega)]; omega
    have e9 : IntKind.i64.wrap (2 * (j : Int) + 1) = ((2 * j + 1 : Nat) : Int) := by rw [wrap_i64 (by omega) (by omega)]; omega
    have ei : (2 * (j : Int)).toNat = 2 * j := by omega
    have step : ∀ (T : TypeId) (hT : isSl pr T .u64 = some tU64) (v : Nat), v = (digs B64 n).getD j 0 → newC w1 #[Value.int .u64 (v : Int)] tU64 fun ad3 w3 =>
        semS pr (Builtin.append_ #[T, T] T #[out.v, (⟨some ad3, 1, 1⟩ : Slc).v]) w3 fun s1 w4 =>
        (t = t ∧ Ahead w w4 ∧ ∃ j' : Nat, IntKind.i64.wrap (2 * (j : Int) + 2) = 2 * (j' : Int) ∧ j' ≤ (digs B64 n).length ∧ OwnNil w.heap.size w4 s1 ((digs B64 n).take j')) ∧
        (2 * ((digs B64 n).length : Int) - IntKind.i64.wrap (2 * (j : Int) + 2)).toNat < (2 * ((digs B64 n).length : Int) - 2 * (j : Int)).toNat := by
      rintro T hT v rfl
      have hal := Ahead.alloc w1 (.cells #[Value.int .u64 (((digs B64 n).getD j 0 : Nat) : Int)] tU64 (0, 0))
      have hlit : Rd .u64 (w1.alloc (.cells #[Value.int .u64 (((digs B64 n).getD j 0 : Nat) : Int)] tU64 (0, 0))) ⟨some ⟨w1.heap.size, 0, none⟩, 1, 1⟩ (nn [(digs B64 n).getD j 0]) :=
        Own.rd (t := tU64) (b := w1.heap.size) ⟨rfl, [], rfl, by rw [get_alloc]; rfl⟩
      refine app (t := _) (e := tU64) (k := .u64) (l := nn ((digs B64 n).take j)) (base := w.heap.size) hT hlit (by simp)
        ((ho.ahead hal).imp (fun h => ⟨h.1, by rw [h.2]; rfl⟩) id) (ha.trans hal).size (by simp; omega) ?_
      intro s' w5 b' hb' hc' hown hbel hah
      refine ⟨⟨rfl, ?_, j + 1, e8, hjj, .inr ⟨b', hb', hc', ?_⟩⟩, by rw [e8]; omega⟩
      · refine hah w (ha.trans hal) fun b hb => ?_
        rcases ho with ⟨rfl, _⟩ | ⟨b2, h1, _, h3⟩
        · simp at hb
        · rw [h3.A] at hb; simp at hb; omega
      · rw [List.take_succ_eq_append_getElem hjj, nn_append, ← getD_lt _ 0 hjj]
        exact hown
    refine ldN (h.ahead ha) (by omega) (by omega) ?_
    rw [ei]
    refine br_intro (fun hin => ?_) (fun hin => ?_)
    · have hin' : 2 * j + 1 < (digs B32 n).length := by rw [e9] at hin; simp at hin; omega
      rw [e9]
      refine ldN (h.ahead ha) (by omega) (by omega) ?_
      rw [Int.toNat_natCast]
      have ev : IntKind.u64.wrap ((((digs B32 n).getD (2 * j) 0 : Nat) : Int) + IntKind.u64.wrap ((((digs B32 n).getD (2 * j + 1) 0 : Nat) : Int) * 4294967296)) = (((digs B64 n).getD j 0 : Nat) : Int) := by
        rw [hlimb]
        generalize (digs B32 n).getD (2 * j) 0 = a at *
        generalize (digs B32 n).getD (2 * j + 1) 0 = b at *
        rw [hB32] at *
        rw [wrap_u64' (x := (b : Int) * 4294967296) (by omega) (by omega), wrap_u64' (by omega) (by omega)]
        omega
      rw [ev]
      exact step _ (by kernel_rfl) _ rfl
    · have hin' : (digs B32 n).length ≤ 2 * j + 1 := by rw [e9] at hin; simp at hin; omega
      refine step _ (by kernel_rfl) _ ?_
      rw [hlimb, getD_ge _ 0 hin', Nat.zero_mul, Nat.add_zero]
  · have hj' : j = (digs B64 n).length := by
      have : ¬ 2 * j < (digs B32 n).length := by simp at hge; omega
      have := mt hiff.1 this
      omega
    subst hj'
    rw [List.take_length] at ho
    exact ⟨ha, _, rfl, ho⟩

theorem Is_spec {w : World} {s t : Slc} {n : Nat} (h : RN w s n) (ht : Rd .u64 w t (nn (digs B64 n))) (hl : (digs B64 n).length ≤ 2 ^ 44) :
    Calls pr surdref01_Num_Is_id #[s.v, t.v] w fun e w' => Ahead w w' ∧ e = .returned (.bool true) := by
  have htn : t.n = (digs B64 n).length := by rw [ht.n, nn_length]
  refine surdref01_Num_Is_vc s t w _ (fun p q m i w' => p = t ∧ m = ((digs B64 n).length : Int) ∧ Ahead w w' ∧ Rd .u64 w' q (nn (digs B64 n)) ∧ ∃ j : Nat, i = (j : Int) ∧ j ≤ (digs B64 n).length) (fun _ _ m i _ => (m - i).toNat) ?_ ?_
  · refine Calls.mono (Limbs_spec h hl) ?_
    rintro e w1 ⟨ha, s', rfl, ho⟩
    have hr := ho.rd
    have hn' : s'.n = (digs B64 n).length := by rw [hr.n, nn_length]
    exact ⟨_, rfl, br_false (by rw [hn', htn]; simp) ⟨rfl, by rw [hn'], ha, hr, 0, rfl, Nat.zero_le _⟩⟩
  · rintro p q m i w1 ⟨rfl, rfl, ha, hr, j, rfl, hj⟩
    refine br_intro (fun hlt => ?_) (fun hge => ?_)
    · have hj' : j < (digs B64 n).length := by simp at hlt; omega
      refine ldNf hr (by omega) (by omega) ?_
      refine ldNf (ht.ahead ha) (by omega) (by omega) ?_
      intro w2 ha2
      have e8 : IntKind.i64.wrap ((j : Int) + 1) = ((j + 1 : Nat) : Int) := by rw [wrap_i64 (by omega) (by omega)]; omega
      exact br_false (by simp) ⟨⟨rfl, rfl, ha.trans ha2, hr.ahead ha2, j + 1, e8, hj'⟩, by rw [e8]; omega⟩
    · exact ⟨ha, rfl⟩

theorem Fill.norm {w0 w : World} {c : Slc} {l : List Nat} {S : World → Prop} (h : Fill w0 w c l S) (hl : l.length ≤ 2 ^ 46) (hok : ok B32 l) :
    Calls pr surdref01_norm_id #[c.v] w fun e w' => w' = w ∧ ∃ s', e = .returned (Slc.v s') ∧ RN w s' (val B32 l) := norm_spec h.rd hl hok

end Ref
end Go.Proofs.Ytfdajpjiengihaa
namespace Go.Proofs.Ytfdajpjiengihaa
open Go Go.RowKit Eng Sp Dg
set_option linter.unusedVariables false
set_option linter.unusedSimpArgs false
set_option maxRecDepth 100000
namespace Ref
open _root_.Go.Proofs.Ytfdajpjiengihaa.Nat (ldN ldNf stN mkN cutHi cutCap Fill mkF stF stFf Num OwnNil semShl semShr)

def A5 : Nat := 10855845
theorem ext_getD {l m : List Nat} (hl : l.length = m.length) (h : ∀ i, i < l.length → l.getD i 0 = m.getD i 0) : l = m := by
  refine List.ext_getElem hl fun i h1 h2 => ?_
  have := h i h1
  rw [getD_lt _ _ h1, getD_lt _ _ h2] at this
  exact this
def lent (l : List Nat) : List Nat := A5 :: A5 :: (l ++ [A5, A5])
theorem lent_length (l : List Nat) : (lent l).length = l.length + 4 := by simp [lent]
theorem lent_getD (l : List Nat) {i : Nat} (h : i < l.length + 4) : (lent l).getD i 0 = if 2 ≤ i ∧ i < l.length + 2 then l.getD (i - 2) 0 else A5 := by
  unfold lent
  rcases i with _ | _ | i
  · simp
  · simp
  · rw [List.getD_cons_succ, List.getD_cons_succ]
    by_cases hi : i < l.length
    · rw [if_pos (by omega)]
      simp [List.getD_eq_getElem?_getD, List.getElem?_append, hi]
    · rw [if_neg (by omega)]
      have : i = l.length ∨ i = l.length + 1 := by omega
      rcases this with rfl | rfl <;> simp [List.getD_eq_getElem?_getD, List.getElem?_append]

/-- What Lend hands out: the whole row, and the part in its middle. -/
def Lent (base : Nat) (w : World) (s t : Slc) (l : List Nat) : Prop :=
  ∃ b, base ≤ b ∧ s.c = l.length + 4 ∧ Own .u64 tU64 w s (nn (lent l)) b ∧ t = ⟨some ⟨b, 2, none⟩, l.length, l.length + 2⟩
theorem Lent.whole {base : Nat} {w : World} {s t : Slc} {l : List Nat} (h : Lent base w s t l) : Rd .u64 w s (nn (lent l)) := by
  obtain ⟨b, _, _, ho, _⟩ := h; exact ho.rd
theorem Lent.part {base : Nat} {w : World} {s t : Slc} {l : List Nat} (h : Lent base w s t l) : Rd .u64 w t (nn l) := by
  obtain ⟨b, _, hc, ho, rfl⟩ := h
  refine ⟨by simp, by simp, fun i hi => ⟨_, rfl, ?_⟩⟩
  have hi' : i < l.length := by simpa using hi
  have e : (⟨b, 2, none⟩ : Addr).add i = ⟨b, 2 + i, none⟩ := by
    rw [show (⟨b, 2, none⟩ : Addr) = (⟨b, 0, none⟩ : Addr).add 2 from rfl, add_add, add_off]
  rw [e, ho.cell (i := 2 + i) (by rw [nn_length, lent_length]; omega), nn_getD, nn_getD, lent_getD l (by omega), if_pos (by omega), show 2 + i - 2 = i by omega]
theorem Lent.ahead {base : Nat} {w w' : World} {s t : Slc} {l : List Nat} (h : Lent base w s t l) (ha : Ahead w w') : Lent base w' s t l := by
  obtain ⟨b, h1, h2, h3, h4⟩ := h
  exact ⟨b, h1, h2, h3.ahead ha, h4⟩

theorem Lend_spec {w : World} {s : Slc} {l : List Nat} (h : Rd .u64 w s (nn l)) (hl : l.length * 8 ≤ 140737488351232) (hok : ok B64 l) :
    Calls pr surdref01_Lend_id #[s.v] w fun e w' => Ahead w w' ∧ ∃ s' t, e = .returned (.tuple #[Slc.v s', Slc.v t]) ∧ Lent w.heap.size w' s' t l := by
  have hn : s.n = l.length := by rw [h.n, nn_length]
  refine surdref01_Lend_vc s w _
    (fun p c n i w' => p = s ∧ n = ((l.length + 4 : Nat) : Int) ∧ ∃ (L : List Nat) (j : Nat), i = (j : Int) ∧ j ≤ l.length + 4 ∧ c.c = l.length + 4 ∧ Fill w w' c L (fun w' => Rd .u64 w' s (nn l)) ∧ L.length = l.length + 4 ∧ ∀ k, k < j → L.getD k 0 = A5) (fun _ _ n i _ => (n - i).toNat)
    (fun p c q n i w' => p = s ∧ q = s ∧ n = (l.length : Int) ∧ ∃ (L : List Nat) (j : Nat), i = (j : Int) ∧ j ≤ l.length ∧ c.c = l.length + 4 ∧ Fill w w' c L (fun w' => Rd .u64 w' s (nn l)) ∧ L.length = l.length + 4 ∧
      ∀ k, k < l.length + 4 → L.getD k 0 = if 2 ≤ k ∧ k < j + 2 then l.getD (k - 2) 0 else A5) (fun _ _ _ n i _ => (n - i).toNat) ?_ ?_ ?_
  · rw [hn, wrap_i64 (by omega) (by omega)]
    refine mkN (by omega) (by omega) ?_
    intro c w1 hc ho ha hs
    refine ⟨rfl, ?_, _, 0, rfl, Nat.zero_le _, by rw [hc]; omega, ⟨_, w, ho, by rw [hc]; unfold maxLen; omega, Nat.le_refl _, ha, ha, Nat.le_refl _, h⟩, by rw [List.length_replicate]; omega, fun k hk => by omega⟩
    have := ho.n
    rw [nn_length, List.length_replicate] at this
    omega
  · rintro p c n i w1 ⟨rfl, rfl, L, j, rfl, hj, hc, hf, hL, hd⟩
    refine br_intro (fun hlt => ?_) (fun hge => ?_)
    · have hj' : j < l.length + 4 := by simp at hlt; omega
      have e8 : IntKind.i64.wrap ((j : Int) + 1) = ((j + 1 : Nat) : Int) := by rw [wrap_i64 (by omega) (by omega)]; omega
      refine stF (x := A5) hf (by omega) (by omega) ?_
      intro w3 hf3
      rw [Int.toNat_natCast] at hf3
      refine ⟨⟨rfl, rfl, _, j + 1, e8, hj', hc, hf3, by simpa using hL, fun k hk => ?_⟩, by rw [e8]; omega⟩
      rw [getD_set _ _ _ _ (by omega)]
      split
      · rfl
      · exact hd k (by omega)
    · have hj' : j = l.length + 4 := by simp at hge; omega
      subst hj'
      refine ⟨rfl, rfl, by rw [hn], L, 0, rfl, Nat.zero_le _, hc, hf, hL, fun k hk => ?_⟩
      rw [if_neg (by omega)]
      exact hd k hk
  · rintro p c q n i w1 ⟨rfl, rfl, rfl, L, j, rfl, hj, hc, hf, hL, hd⟩
    refine br_intro (fun hlt => ?_) (fun hge => ?_)
    · have hj' : j < l.length := by simp at hlt; omega
      have e8 : IntKind.i64.wrap ((j : Int) + 1) = ((j + 1 : Nat) : Int) := by rw [wrap_i64 (by omega) (by omega)]; omega
      refine ldN (h.ahead hf.base) (by omega) (by omega) ?_
      rw [wrap_i64 (x := (j : Int) + 2) (by omega) (by omega), Int.toNat_natCast]
      refine stF hf (by omega) (by omega) ?_
      intro w3 hf3
      rw [show ((j : Int) + 2).toNat = j + 2 by omega] at hf3
      refine ⟨⟨rfl, rfl, rfl, _, j + 1, e8, hj', hc, hf3, by simpa using hL, fun k hk => ?_⟩, by rw [e8]; omega⟩
      rw [getD_set _ _ _ _ (by omega)]
      split
      · rename_i hk2
        subst hk2
        rw [if_pos (by omega), Nat.add_sub_cancel]
      · rw [hd k hk]
        by_cases hk2 : 2 ≤ k ∧ k < j + 2
        · rw [if_pos hk2, if_pos (by omega)]
        · rw [if_neg hk2, if_neg (by omega)]
    · have hj' : j = l.length := by simp at hge; omega
      subst hj'
      have hLl : L = lent l := ext_getD (by rw [hL, lent_length]) fun i hi => by rw [hd i (by omega), lent_getD l (by omega)]
      rw [hn, wrap_i64 (x := ((l.length : Nat) : Int) + 2) (by omega) (by omega)]
      refine ⟨_, fun w' _ => run_slice_both (e := tU64) (k := .u64) (by kernel_rfl) w' c (by omega) (by omega) (by omega), ?_⟩
      intro w7 ha7
      obtain ⟨b, w2, ho, h2, h3, h4, _⟩ := hf
      refine ⟨h4.trans ha7, _, _, rfl, b, h3, hc, by rw [← hLl]; exact ho.ahead ha7, ?_⟩
      rw [hc, ho.A, show ((2 : Int)).toNat = 2 from rfl, if_neg (by omega)]
      congr 1

theorem Kept_spec {w : World} {s t : Slc} {l : List Nat} (hs : Rd .u64 w s (nn (lent l))) (ht : Rd .u64 w t (nn l)) (hl : l.length * 8 ≤ 140737488351232) :
    Calls pr surdref01_Kept_id #[s.v, t.v] w fun e w' => w' = w ∧ e = .returned (.bool true) := by
  have hn : s.n = l.length + 4 := by rw [hs.n, nn_length, lent_length]
  have hm : t.n = l.length := by rw [ht.n, nn_length]
  refine surdref01_Kept_vc s t w _ (fun p q n i w' => w' = w ∧ p = t ∧ q = s ∧ n = ((l.length + 4 : Nat) : Int) ∧ ∃ j : Nat, i = (j : Int) ∧ j ≤ l.length + 4) (fun _ _ n i _ => (n - i).toNat) ?_ ?_
  · rw [hn, hm, wrap_i64 (x := (l.length : Int) + 4) (by omega) (by omega)]
    exact br_false (by simp) ⟨rfl, rfl, rfl, rfl, 0, rfl, Nat.zero_le _⟩
  · rintro p q n i w1 ⟨rfl, rfl, rfl, rfl, j, rfl, hj⟩
    refine br_intro (fun hlt => ?_) (fun hge => ?_)
    · have hj' : j < l.length + 4 := by simp at hlt; omega
      have e8 : IntKind.i64.wrap ((j : Int) + 1) = ((j + 1 : Nat) : Int) := by rw [wrap_i64 (by omega) (by omega)]; omega
      refine ldN hs (by omega) (by rw [lent_length]; omega) ?_
      rw [Int.toNat_natCast, lent_getD l hj', hm, wrap_i64 (x := ((l.length : Nat) : Int) + 2) (by omega) (by omega)]
      have go : (w1 = w1 ∧ p = p ∧ q = q ∧ ((l.length + 4 : Nat) : Int) = ((l.length + 4 : Nat) : Int) ∧ ∃ j' : Nat, IntKind.i64.wrap ((j : Int) + 1) = (j' : Int) ∧ j' ≤ l.length + 4) ∧
          (((l.length + 4 : Nat) : Int) - IntKind.i64.wrap ((j : Int) + 1)).toNat < (((l.length + 4 : Nat) : Int) - (j : Int)).toNat :=
        ⟨⟨rfl, rfl, rfl, rfl, j + 1, e8, hj'⟩, by rw [e8]; omega⟩
      refine br_intro (fun h2 => ?_) (fun h2 => ?_)
      · have h2' : j < 2 := by simp at h2; omega
        rw [if_neg (by omega)]
        exact br_false (by simp [A5]) go
      · have h2' : 2 ≤ j := by simp at h2; omega
        refine br_intro (fun h3 => ?_) (fun h3 => ?_)
        · have h3' : l.length + 2 ≤ j := by simp at h3; omega
          rw [if_neg (by omega)]
          exact br_false (by simp [A5]) go
        · have h3' : j < l.length + 2 := by simp at h3; omega
          rw [if_pos ⟨h2', h3'⟩, wrap_i64 (x := (j : Int) - 2) (by omega) (by omega)]
          refine ldN ht (by omega) (by omega) ?_
          rw [show ((j : Int) - 2).toNat = j - 2 by omega]
          exact br_false (by simp) go
    · exact ⟨rfl, rfl⟩

end Ref
end Go.Proofs.Ytfdajpjiengihaa
namespace Go.Proofs.Ytfdajpjiengihaa
open Go Go.RowKit Eng Sp Dg
set_option linter.unusedVariables false
set_option linter.unusedSimpArgs false
set_option maxRecDepth 100000
namespace Nat

/-- A law's answer. -/
def Yes (w : World) (e : Ending) (w' : World) : Prop := e = .returned (.bool true) ∧ Ahead w w'

end Nat
end Go.Proofs.Ytfdajpjiengihaa
namespace Go.Proofs.Ytfdajpjiengihaa
open Go Go.RowKit Eng Sp Dg
set_option linter.unusedVariables false
set_option linter.unusedSimpArgs false
set_option maxRecDepth 100000
namespace Mul
open _root_.Go.Proofs.Ytfdajpjiengihaa.Nat (ldN ldNf stN mkN Num OwnNil len_le Norm_spec Length_spec Ret bigC bigC_ok own_num digs_len_bl Yes)

theorem fits_spec {w : World} {s : Slc} {l : List Nat} (h : Rd .u64 w s (nn l)) (hl : l.length ≤ 2 ^ 44) (ol : ok B64 l) : Calls pr mul_fits_id #[s.v] w (Ret w (bigC (val B64 l)) (val B64 l)) := by
  have hd := len_le ol
  refine mul_fits_vc s w _ (Calls.mono (Norm_spec h hl ol) ?_)
  rintro e w1 ⟨h1, t, rfl, ho⟩
  refine ⟨_, rfl, Calls.mono (Length_spec ho.rd (by omega) (ok_digs two64 _)) ?_⟩
  rintro e w2 ⟨rfl, rfl⟩
  rw [val_digs two64]
  refine ⟨_, rfl, br_intro (fun hb => ?_) (fun hb => ?_)⟩
  · have hc : bigC (val B64 l) = 3 := by rw [bigC, if_neg (by simp at hb; omega)]
    rw [hc]
    exact ⟨h1, _, rfl, by rw [if_neg (by omega)]; exact OwnNil.nil⟩
  · have hc : bigC (val B64 l) = 0 := by rw [bigC, if_pos (by simp at hb; omega)]
    rw [hc]
    exact ⟨h1, _, rfl, by rw [if_pos rfl]; exact ho⟩

theorem bl_mul {x y : Nat} (hx : x ≠ 0) (hy : y ≠ 0) : bl x + bl y - 1 ≤ bl (x * y) := by
  have h1 := (bl_bounds hx).1
  have h2 := (bl_bounds hy).1
  have p1 := bl_pos hx
  have p2 := bl_pos hy
  have h3 := Nat.mul_le_mul h1 h2
  rw [← Nat.pow_add] at h3
  rcases Nat.lt_or_ge (bl (x * y)) (bl x + bl y - 1) with h | h
  · exfalso
    have h4 := bl_le_iff.1 (show bl (x * y) ≤ bl x - 1 + (bl y - 1) by omega)
    omega
  · exact h

theorem great_spec {w : World} {a b : Slc} {x y : Nat} (ha : Num w a x) (hb : Num w b y) :
    Calls pr mul_great_id #[a.v, b.v] w fun e w' => w' = w ∧ ∃ c : Bool, e = .returned (.bool c) ∧ (c = true ↔ x ≠ 0 ∧ y ≠ 0 ∧ 67108864 < bl x + bl y - 1) := by
  have bx := ha.bl
  have by' := hb.bl
  refine mul_great_vc a b w _ (Calls.mono (Nat.len_num ha) ?_)
  rintro e w1 ⟨rfl, rfl⟩
  refine ⟨_, rfl, Calls.mono (Nat.len_num hb) ?_⟩
  rintro e w2 ⟨rfl, rfl⟩
  have zx : bl x = 0 ↔ x = 0 := ⟨fun h => by rcases Nat.eq_zero_or_pos x with h1 | h1; exact h1; have := bl_pos (n := x) (by omega); omega, fun h => by rw [h, bl_zero]⟩
  have zy : bl y = 0 ↔ y = 0 := ⟨fun h => by rcases Nat.eq_zero_or_pos y with h1 | h1; exact h1; have := bl_pos (n := y) (by omega); omega, fun h => by rw [h, bl_zero]⟩
  refine ⟨_, rfl, br_intro (fun h => br_intro (fun h' => ?_) (fun h' => ?_)) (fun h => ?_)⟩
  · have h1 : 0 < bl x := by simp at h; omega
    have h2 : 0 < bl y := by simp at h'; omega
    rw [wrap_i64 (x := (bl x : Int) + (bl y : Int)) (by omega) (by omega), wrap_i64 (by omega) (by omega)]
    refine ⟨rfl, _, rfl, ?_⟩
    simp only [decide_eq_true_eq]
    constructor
    · intro h3
      exact ⟨fun e => by have := zx.2 e; omega, fun e => by have := zy.2 e; omega, by omega⟩
    · rintro ⟨_, _, h3⟩
      omega
  · have h2 : bl y = 0 := by simp at h'; omega
    exact ⟨rfl, _, rfl, by simp [zy.1 h2]⟩
  · have h2 : bl x = 0 := by simp at h; omega
    exact ⟨rfl, _, rfl, by simp [zx.1 h2]⟩

theorem Mul_spec {w : World} {a b : Slc} {x y : Nat} (ha : Num w a x) (hb : Num w b y) (la : (digs B64 x).length + 16 ≤ 2 ^ 44) (lb : (digs B64 y).length + 16 ≤ 2 ^ 44) :
    Calls pr mul_Mul_id #[a.v, b.v] w (Ret w (bigC (x * y)) (x * y)) := by
  obtain ⟨l, ra, na, oa, rfl⟩ := ha
  obtain ⟨m, rb, nb, ob, rfl⟩ := hb
  refine mul_Mul_vc a b w _ ?_
  refine mul_product__mul_Mul_1_vc a b w _ (Calls.mono (Norm_spec ra na oa) ?_)
  rintro e w1 ⟨h1, s, rfl, os⟩
  refine ⟨_, rfl, Calls.mono (Norm_spec (rb.ahead h1) nb ob) ?_⟩
  rintro e w2 ⟨h2, t, rfl, ot⟩
  have h12 := h1.trans h2
  have rs := (os.ahead h2).rd
  have rt := ot.rd
  have ns : Num w2 s (val B64 l) := ⟨_, rs, by omega, ok_digs two64 _, val_digs two64 _⟩
  have nt : Num w2 t (val B64 m) := ⟨_, rt, by omega, ok_digs two64 _, val_digs two64 _⟩
  generalize val B64 l = x at *
  generalize val B64 m = y at *
  refine ⟨_, rfl, Calls.mono (great_spec ns nt) ?_⟩
  rintro e w3 ⟨rfl, c, rfl, hc⟩
  refine ⟨_, rfl, br_intro (fun h => ?_) (fun h => ?_)⟩
  · obtain ⟨h3, h4, h5⟩ := hc.1 h
    have := bl_mul h3 h4
    have hcc : bigC (x * y) = 3 := by rw [bigC, if_neg (by omega)]
    rw [hcc]
    exact ⟨_, _, rfl, h12, _, rfl, by rw [if_neg (by omega)]; exact OwnNil.nil⟩
  · have hsz : (digs B64 x).length + (digs B64 y).length + 16 ≤ 2 ^ 44 := by
      by_cases hx : x = 0
      · subst hx; rw [digs_zero]; simp; omega
      · by_cases hy : y = 0
        · subst hy; rw [digs_zero]; simp; omega
        · have hbl : bl x + bl y - 1 ≤ 67108864 := by
            rcases Nat.lt_or_ge 67108864 (bl x + bl y - 1) with h6 | h6
            · have := hc.2 ⟨hx, hy, h6⟩; rw [h] at this; cases this
            · exact h6
          have p1 := bl_pos hx
          have p2 := bl_pos hy
          have := digs_len_bl (N := x) (m := 2 ^ 21) (by omega)
          have := digs_len_bl (N := y) (m := 2 ^ 21) (by omega)
          omega
    refine mul_Mul_1_vc s t w3 _ (Calls.mono (halved_spec _ w3 s _ rs (ok_digs two64 x) t _ rt (ok_digs two64 y) 40 (by omega) (by omega) (by omega) (Nat.le_refl _)) ?_)
    rintro e w4 ⟨h4, u, L, rfl, ou, nu, ku, vu⟩
    rw [val_digs two64, val_digs two64] at vu
    refine ⟨_, rfl, _, rfl, Calls.mono (fits_spec ou.rd (by omega) ku) ?_⟩
    rw [vu]
    rintro e w5 ⟨h5, v, rfl, ov⟩
    have hsz := (h12.trans h4).size
    exact ⟨_, _, rfl, _, _, rfl, (h12.trans h4).trans h5, _, rfl, ov.mono hsz⟩

theorem num_spec {w : World} {c : Int} : Calls pr surdlaw02_num_id #[.int .i64 c] w fun e w' => w' = w ∧ e = .returned (.int .i64 c) :=
  surdlaw02_num_vc c w _ ⟨rfl, rfl⟩

theorem lit64 (w : World) (l : List Nat) : Rd .u64 (w.alloc (.cells (ints .u64 (nn l)).toArray tU64 (0, 0))) ⟨some ⟨w.heap.size, 0, none⟩, l.length, l.length⟩ (nn l) :=
  Own.rd (t := tU64) (b := w.heap.size) ⟨by simp, [], by simp, by rw [get_alloc]; simp⟩

theorem awake_spec (w : World) : Calls pr surdlaw02_awake_id #[] w (Yes w) := by
  have hB := B64v
  refine surdlaw02_awake_vc w _ ?_
  have r1 := lit64 w [0, 1]
  have a1 := Ahead.alloc w (.cells (ints .u64 (nn [0, 1])).toArray tU64 (0, 0))
  have r2 := lit64 (w.alloc (.cells (ints .u64 (nn [0, 1])).toArray tU64 (0, 0))) [7, 3]
  have a2 := Ahead.alloc (w.alloc (.cells (ints .u64 (nn [0, 1])).toArray tU64 (0, 0))) (.cells (ints .u64 (nn [7, 3])).toArray tU64 (0, 0))
  have ok2 : ∀ x y : Nat, x < 100 → y < 100 → ok B64 [x, y] := fun x y hx hy z hz => by simp at hz; omega
  have v1 : val B64 [0, 1] = B64 := by simp [val]
  have v2 : val B64 [7, 3] = 7 + B64 * 3 := by simp [val]
  have v3 : val B64 [0, 7, 3] = B64 * (7 + B64 * 3) := by simp [val]
  have n1 : Num _ _ B64 := ⟨[0, 1], r1.ahead a2, by simp, ok2 0 1 (by omega) (by omega), v1⟩
  have n2 : Num _ _ (7 + B64 * 3) := ⟨[7, 3], r2, by simp, ok2 7 3 (by omega) (by omega), v2⟩
  have hb1 : bl B64 ≤ 64 * 2 := bl_le (by rw [hB]; omega)
  have hb2 : bl (7 + B64 * 3) ≤ 64 * 2 := bl_le (by rw [hB]; omega)
  have hb3 : bl (B64 * (7 + B64 * 3)) ≤ 64 * 3 := bl_le (by rw [hB]; omega)
  have l1 := digs_len_bl hb1
  have l2 := digs_len_bl hb2
  have l3 := digs_len_bl hb3
  refine Calls.mono (Mul_spec n1 n2 (by omega) (by omega)) ?_
  intro e w3 hr
  have hcc : bigC (B64 * (7 + B64 * 3)) = 0 := bigC_ok (by omega)
  obtain ⟨h3, s, rfl, os, _⟩ := hr.num hcc (by omega)
  have h03 := (a1.trans a2).trans h3
  refine ⟨_, _, rfl, Calls.mono num_spec ?_⟩
  rintro e w4 ⟨rfl, rfl⟩
  refine ⟨_, rfl, br_true rfl ?_⟩
  have a5 := Ahead.alloc w4 (.cells (ints .u64 (nn [0, 7, 3])).toArray tU64 (0, 0))
  refine Calls.mono (Ref.Of_spec (lit64 w4 [0, 7, 3]) (by simp) (fun z hz => by simp at hz; omega)) ?_
  rintro e w6 ⟨h6, t, rfl, rt⟩
  rw [v3] at rt
  refine ⟨_, rfl, Calls.mono (Ref.Is_spec rt ((os.ahead a5).ahead h6).rd (by omega)) ?_⟩
  rintro e w7 ⟨h7, rfl⟩
  exact ⟨_, rfl, rfl, ((h03.trans a5).trans h6).trans h7⟩

theorem end_awake {w0 w : World} (ha : Ahead w0 w) : Calls pr surdlaw02_awake_id #[] w fun e w' => ∃ b : Bool, e = .returned (.bool b) ∧ Yes w0 (.returned (.bool b)) w' :=
  Calls.mono (awake_spec w) fun e w' ⟨he, h⟩ => ⟨true, he, rfl, ha.trans h⟩

end Mul
end Go.Proofs.Ytfdajpjiengihaa
namespace Go.Proofs.Ytfdajpjiengihaa
open Go Go.RowKit Eng Sp Dg
set_option linter.unusedVariables false
set_option linter.unusedSimpArgs false
set_option maxRecDepth 100000
namespace Ref
open _root_.Go.Proofs.Ytfdajpjiengihaa.Nat (ldN ldNf stN mkN Fill mkF stF stFf Num OwnNil)

theorem rMul_spec {w : World} {a b : Slc} {x y : Nat} (ha : RN w a x) (hb : RN w b y) (nab : (digs B32 x).length + (digs B32 y).length + 1 ≤ 2 ^ 45) :
    Calls pr surdref01_Mul_id #[a.v, b.v] w fun e w' => Ahead w w' ∧ ∃ s', e = .returned (Slc.v s') ∧ RN w' s' (x * y) := by
  have hB32 := B32v
  have hna := ha.n
  have hnb := hb.n
  have oa := ok_digs two32 x
  have ob := ok_digs two32 y
  have vx := val_digs two32 x
  have vy := val_digs two32 y
  unfold RN at ha hb
  generalize digs B32 x = la at *
  generalize digs B32 y = lb at *
  refine surdref01_Mul_vc a b w _
    (fun t1 out t19 t20 t21 w' => t1 = b ∧ t19 = a ∧ t20 = (la.length : Int) ∧ ∃ (i : Nat) (l : List Nat), t21 = (i : Int) ∧ i ≤ la.length ∧ Fill w w' out l (fun _ => True) ∧ l.length = la.length + lb.length + 1 ∧ ok B32 l ∧
      (∀ j, i + lb.length ≤ j → j < l.length → l.getD j 0 = 0) ∧ val B32 l = val B32 (la.take i) * val B32 lb)
    (fun _ _ _ n i _ => (n - i).toNat)
    (fun o1 o5 o19 o20 o21 ow t1 out t6 t7 t8 t19 t20 t21 t26 t27 t28 w' => o20 = t20 ∧ o21 = t21 ∧ t1 = b ∧ t19 = a ∧ t20 = (la.length : Int) ∧ t26 = b ∧ t27 = (lb.length : Int) ∧ ∃ (i k cr : Nat) (l : List Nat), t6 = (i : Int) ∧ t21 = (i : Int) ∧ i < la.length ∧ t7 = ((la.getD i 0 : Nat) : Int) ∧
      t8 = (cr : Int) ∧ cr < B32 ∧ t28 = (k : Int) ∧ k ≤ lb.length ∧ Fill w w' out l (fun _ => True) ∧ l.length = la.length + lb.length + 1 ∧ ok B32 l ∧
      (∀ j, i + lb.length ≤ j → j < l.length → l.getD j 0 = 0) ∧ val B32 l + cr * B32 ^ (i + k) = val B32 (la.take i) * val B32 lb + la.getD i 0 * val B32 (lb.take k) * B32 ^ i)
    (fun _ _ _ _ _ _ _ _ _ _ _ _ _ _ _ n k _ => (n - k).toNat) ?_ ?_ ?_
  · rw [hna, hnb, wrap_i64 (x := (la.length : Int) + (lb.length : Int)) (by omega) (by omega), wrap_i64 (by omega) (by omega)]
    refine mkF (S := fun _ => True) (w0 := w) (by omega) (by omega) (Ahead.refl _) trivial ?_
    intro c w1 hcn hf h1
    refine ⟨rfl, rfl, rfl, 0, _, rfl, Nat.zero_le _, hf, by rw [List.length_replicate]; omega, ok_replicate (by omega) _, fun j h2 h3 => ?_, by rw [val_replicate]; simp [val]⟩
    rw [List.length_replicate] at h3
    simp [List.getD_eq_getElem?_getD, List.getElem?_replicate, h3]
  · rintro t1 out t19 t20 t21 w1 ⟨rfl, rfl, rfl, i, l, rfl, hi, hf, hl, ol, hz, hv⟩
    refine br_intro (fun hlt => ?_) (fun hge => ?_)
    · have hi' : i < la.length := by simp at hlt; omega
      refine ldN (ha.ahead hf.base) (by omega) (by omega) ?_
      rw [Int.toNat_natCast]
      exact ⟨rfl, rfl, rfl, rfl, rfl, rfl, by rw [hnb], i, 0, 0, l, rfl, rfl, hi', rfl, rfl, by omega, rfl, Nat.zero_le _, hf, hl, ol, hz, by simp [val, hv]⟩
    · have hi' : i = la.length := by simp at hge; omega
      subst hi'
      rw [List.take_length, vx, vy] at hv
      refine Calls.mono (Fill.norm hf (by omega) ol) ?_
      rintro e w6 ⟨rfl, s', rfl, hr⟩
      rw [hv] at hr
      exact ⟨_, rfl, hf.base, _, rfl, hr⟩
  · rintro o1 o5 o19 o20 o21 ow _ t1 out t6 t7 t8 t19 t20 t21 t26 t27 t28 w1 ⟨rfl, rfl, rfl, rfl, rfl, rfl, rfl, i, k, cr, l, rfl, rfl, hi, rfl, rfl, hcr, rfl, hk, hf, hl, ol, hz, hv⟩
    have hx := ok_getD oa (by omega : 0 < B32) i
    refine br_intro (fun hlt => ?_) (fun hge => ?_)
    · have hk' : k < lb.length := by simp at hlt; omega
      have e8 : IntKind.i64.wrap ((k : Int) + 1) = ((k + 1 : Nat) : Int) := by rw [wrap_i64 (by omega) (by omega)]; omega
      have hy := ok_getD ob (by omega : 0 < B32) k
      have hoo := ok_getD ol (by omega : 0 < B32) (i + k)
      refine ldN (hb.ahead hf.base) (by omega) (by omega) ?_
      rw [Int.toNat_natCast, wrap_i64 (x := (i : Int) + (k : Int)) (by omega) (by omega), show (i : Int) + (k : Int) = ((i + k : Nat) : Int) by omega]
      refine ldN hf.rd (by omega) (by omega) ?_
      rw [Int.toNat_natCast]
      have vs := fun s : Nat => val_set (B := B32) l (i + k) s (by omega)
      have tk := val_take_succ' lb k (B := B32)
      have hxy : la.getD i 0 * lb.getD k 0 ≤ 4294967295 * 4294967295 := Nat.mul_le_mul (by omega) (by omega)
      have ec : IntKind.u64.wrap (IntKind.u64.wrap (IntKind.u64.wrap (((la.getD i 0 : Nat) : Int) * ((lb.getD k 0 : Nat) : Int)) + ((l.getD (i + k) 0 : Nat) : Int)) + (cr : Int)) = ((la.getD i 0 * lb.getD k 0 + l.getD (i + k) 0 + cr : Nat) : Int) := by
        rw [show ((la.getD i 0 : Nat) : Int) * ((lb.getD k 0 : Nat) : Int) = ((la.getD i 0 * lb.getD k 0 : Nat) : Int) by push_cast; rfl]
        generalize la.getD i 0 * lb.getD k 0 = xy at *
        rw [wrap_u64' (x := (xy : Int)) (by omega) (by omega), wrap_u64' (x := (xy : Int) + _) (by omega) (by omega), wrap_u64' (by omega) (by omega)]; omega
      rw [ec]
      have hvlt : la.getD i 0 * lb.getD k 0 + l.getD (i + k) 0 + cr < 18446744073709551616 := by omega
      have hvd : (la.getD i 0 * lb.getD k 0 + l.getD (i + k) 0 + cr) / 4294967296 < 4294967296 := by omega
      have dm := Nat.mod_add_div (la.getD i 0 * lb.getD k 0 + l.getD (i + k) 0 + cr) B32
      have e1 : la.getD i 0 * (val B32 (lb.take k) + B32 ^ k * lb.getD k 0) * B32 ^ i = la.getD i 0 * val B32 (lb.take k) * B32 ^ i + B32 ^ (i + k) * (la.getD i 0 * lb.getD k 0) := by
        rw [Nat.mul_add, Nat.add_mul, Nat.pow_add]; congr 1; ac_rfl
      have goal2 : ∀ s q : Nat, s + B32 * q = la.getD i 0 * lb.getD k 0 + l.getD (i + k) 0 + cr → val B32 (l.set (i + k) s) + q * B32 ^ (i + (k + 1)) = val B32 (la.take i) * val B32 lb + la.getD i 0 * val B32 (lb.take (k + 1)) * B32 ^ i := by
        intro s q hsq
        have vs := vs s
        rw [tk, e1, show i + (k + 1) = i + k + 1 by omega, Nat.pow_succ]
        generalize la.getD i 0 * lb.getD k 0 = xy at *
        generalize l.getD (i + k) 0 = o at *
        generalize B32 ^ (i + k) = P at *
        have f1 : P * (s + B32 * q) = P * s + q * (P * B32) := by rw [Nat.mul_add]; congr 1; ac_rfl
        have f2 : P * (xy + o + cr) = P * xy + P * o + cr * P := by rw [Nat.mul_add, Nat.mul_add, Nat.mul_comm P cr]
        rw [hsq, f2] at f1
        omega
      have goal2' := goal2 _ _ dm
      generalize la.getD i 0 * lb.getD k 0 + l.getD (i + k) 0 + cr = v at *
      have e2 : Int.tmod (v : Int) 4294967296 = ((v % B32 : Nat) : Int) := by rw [Int.tmod_eq_emod_of_nonneg (by omega), hB32]; omega
      have e3 : IntKind.u64.wrap (Int.tdiv (v : Int) 4294967296) = ((v / B32 : Nat) : Int) := by
        have : Int.tdiv (v : Int) 4294967296 = ((v / 4294967296 : Nat) : Int) := by rw [Int.tdiv_eq_ediv_of_nonneg (by omega)]; omega
        rw [this, wrap_u64' (by omega) (by omega), hB32]
      rw [e2, e3, e8]
      refine stF hf (by omega) (by omega) ?_
      intro w6 hf6
      rw [Int.toNat_natCast] at hf6
      refine ⟨⟨by trivial, by trivial, by trivial, by trivial, by trivial, by trivial, by trivial, i, k + 1, _, _, rfl, rfl, hi, rfl, rfl, by rw [hB32]; exact hvd, rfl, hk', hf6, by simpa using hl, ok_set ol (Nat.mod_lt _ (by omega)), fun j h2 h3 => ?_, goal2'⟩, by omega⟩
      rw [List.length_set] at h3
      rw [getD_set _ _ _ _ (by omega), if_neg (by omega)]
      exact hz j h2 h3
    · have hk' : k = lb.length := by simp at hge; omega
      subst hk'
      have e8 : IntKind.i64.wrap ((i : Int) + 1) = ((i + 1 : Nat) : Int) := by rw [wrap_i64 (by omega) (by omega)]; omega
      rw [hnb, wrap_i64 (x := (i : Int) + ((lb.length : Nat) : Int)) (by omega) (by omega), show (i : Int) + ((lb.length : Nat) : Int) = ((i + lb.length : Nat) : Int) by omega]
      refine stF hf (by omega) (by omega) ?_
      intro w8 hf8
      rw [Int.toNat_natCast] at hf8
      have hzero := hz (i + lb.length) (Nat.le_refl _) (by omega)
      refine ⟨⟨rfl, rfl, rfl, i + 1, _, e8, hi, hf8, by simpa using hl, ok_set ol hcr, fun j h2 h3 => ?_, ?_⟩, by rw [e8]; omega⟩
      · rw [List.length_set] at h3
        rw [getD_set _ _ _ _ (by omega), if_neg (by omega)]
        exact hz j (by omega) h3
      · have vs := val_set (B := B32) l (i + lb.length) cr (by omega)
        rw [hzero, Nat.mul_zero, Nat.add_zero] at vs
        rw [vs, Nat.mul_comm (B32 ^ (i + lb.length)), hv, List.take_length, val_take_succ', Nat.add_mul]
        congr 1
        ac_rfl

end Ref
end Go.Proofs.Ytfdajpjiengihaa
namespace Go.Proofs.Ytfdajpjiengihaa
open Go Go.RowKit Eng Sp Dg
set_option linter.unusedVariables false
set_option linter.unusedSimpArgs false
set_option maxRecDepth 100000
namespace Ref
open _root_.Go.Proofs.Ytfdajpjiengihaa.Nat (ldN OwnNil)

def isRw (P : Program) (t : TypeId) : Bool := match P.underlying t with
  | some (.slice e) => match P.info? e with
    | some i => i.size == 1
    | none => false
  | _ => false
theorem run_indexAtG {P : Program} {t : TypeId} (hT : isRw P t = true) (w : World) (s : Slc) (i : Int) (ad : Addr) (hA : s.A = some ad) (h0 : 0 ≤ i) (h1 : i < s.n) :
    (Instr.indexAt t s.v (.int .i64 i)).run P w = .ok (.pointer (some (ad.add i.toNat))) w := by
  unfold isRw at hT
  split at hT
  · rename_i e hu
    split at hT
    · rename_i inf hi
      have hs : inf.size = 1 := by simpa using hT
      obtain ⟨A, n, c⟩ := s
      simp only at hA h1
      subst hA
      simp only [Instr.indexAt, asIntOf, Slc.v, underlying, program, Sem.run_bind, Sem.run, Result.andThen, hu, Sem.run_pure]
      simp [h0, h1, sizeOf, typeInfo, program, Sem.run, hi, hs, hu]
    · cases hT
  · cases hT

/-- The slice's row lies in this block. -/
def Bk (s : Slc) (k : Nat) : Prop := s.A = some ⟨k, 0, none⟩
def upd {α : Type} (f : Nat → α) (i : Nat) (x : α) : Nat → α := fun j => if j = i then x else f j

/-- The state of a call of Own: the lists lie apart, in memory from base on; their heads stand in the block ab. -/
structure St (V : Nat → Prop) (base : Nat) (w0 : World) (ab n : Nat) (w : World) (S : Nat → Slc) (L : Nat → List Nat) : Prop where
  low : Below base w0 w
  hab : base ≤ ab
  hsz : base ≤ w.heap.size
  row : w.heap[ab]? = some (.cells ((List.range n).map fun j => (S j).v).toArray tU64s (0, 0))
  own : ∀ j, j < n → OwnNil base w (S j) (L j)
  nab : ∀ j, j < n → ¬ Bk (S j) ab
  apart : ∀ i j k, i < n → j < n → i ≠ j → Bk (S i) k → ¬ Bk (S j) k
  keepV : ∀ k, k < w0.heap.size → ¬ V k → w.heap[k]? = w0.heap[k]?
  vab : V ab
  vbig : ∀ k, w0.heap.size ≤ k → V k
  vS : ∀ j k, j < n → Bk (S j) k → V k

theorem St.ablt {V : Nat → Prop} {base : Nat} {w0 : World} {ab n : Nat} {w : World} {S : Nat → Slc} {L : Nat → List Nat} (h : St V base w0 ab n w S L) : ab < w.heap.size := (Array.getElem?_eq_some_iff.1 h.row).1

theorem OwnNil.block {base : Nat} {w w' : World} {s : Slc} {l : List Nat} (h : OwnNil base w s l) (hb : ∀ k, k < w.heap.size → Bk s k → w'.heap[k]? = w.heap[k]?) : OwnNil base w' s l := by
  rcases h with h | ⟨b, h1, h2, h3⟩
  · exact .inl h
  · refine .inr ⟨b, h1, h2, h3.hd, ?_⟩
    obtain ⟨sp, hc, hm⟩ := h3.mem
    exact ⟨sp, hc, by rw [hb b h3.lt h3.A]; exact hm⟩

theorem St.alloc {V : Nat → Prop} {base : Nat} {w0 : World} {ab n : Nat} {w : World} {S : Nat → Slc} {L : Nat → List Nat} (h : St V base w0 ab n w S L) (o : Obj) : St V base w0 ab n (w.alloc o) S L where
  low := Below.alloc h.low h.hsz o
  hab := h.hab
  hsz := by rw [size_alloc]; have := h.hsz; omega
  row := by rw [Below.heap_alloc _ _ _ h.ablt]; exact h.row
  own := fun j hj => OwnNil.block (h.own j hj) fun k hk _ => Below.heap_alloc _ _ _ hk
  nab := h.nab
  apart := h.apart
  keepV := fun k hk hv => by rw [Below.heap_alloc _ _ _ (Nat.lt_of_lt_of_le hk h.low.size)]; exact h.keepV k hk hv
  vab := h.vab
  vbig := h.vbig
  vS := h.vS

theorem St.ld {V : Nat → Prop} {base : Nat} {w0 : World} {ab n : Nat} {w : World} {S : Nat → Slc} {L : Nat → List Nat} (h : St V base w0 ab n w S L) {t : TypeId} (hT : isRw pr t = true) {i : Nat} (hi : i < n) {K : Slc → World → Prop} (hk : K (S i) w) :
    semA pr (Instr.indexAt t (Slc.v ⟨some ⟨ab, 0, none⟩, n, n⟩) (.int .i64 (i : Int))) w fun ad w1 => ldS ad w1 fun s => K s w1 := by
  unfold semA
  rw [Sem.wp_iff_run, run_indexAtG hT w ⟨some ⟨ab, 0, none⟩, n, n⟩ i ⟨ab, 0, none⟩ rfl (by omega) (by simp; omega), add_off]
  refine ⟨_, rfl, S i, ?_, hk⟩
  simp [World.cell?, h.row, hi]

/-- A number is written into one of the lists. -/
theorem St.st {V : Nat → Prop} {base : Nat} {w0 : World} {ab n : Nat} {w : World} {S : Nat → Slc} {L : Nat → List Nat} (h : St V base w0 ab n w S L) {t : TypeId} (hT : isSl pr t .u64 = some tU64) {i k : Nat} (hi : i < n) (hk : k < (L i).length) {x : Nat} {K : World → Prop}
    (hK : ∀ w', St V base w0 ab n w' S (upd L i ((L i).set k x)) → K w') :
    semA pr (Instr.indexAt t (S i).v (.int .i64 (k : Int))) w fun ad w1 => stC ad (.int .u64 (x : Int)) w1 fun w2 => K w2 := by
  rcases h.own i hi with ⟨_, hnil⟩ | ⟨b, hb, hc, ho⟩
  · rw [hnil] at hk; simp at hk
  · unfold semA
    rw [Sem.wp_iff_run, run_indexAt hT w (S i) k _ ho.A (by omega) (by rw [ho.n]; simpa using hk), add_off]
    refine ⟨_, rfl, ⟨_, ho.cell (by simpa using hk)⟩, ho.frozen _, hK _ ?_⟩
    have hbab : b ≠ ab := fun e => h.nab i hi (by rw [← e]; exact ho.A)
    refine ⟨Below.setCell h.low hb _, h.hab, by simpa [World.setCell] using h.hsz, ?_, ?_, h.nab, h.apart, ?_, h.vab, h.vbig, h.vS⟩
    · rw [Below.heap_setCell _ _ _ _ (by simpa using fun e => hbab e.symm)]; exact h.row
    · intro j hj
      unfold upd
      split
      · rename_i hji
        subst hji
        refine .inr ⟨b, hb, hc, ?_⟩
        have := ho.set (i := k) (by simpa using hk) (x : Int)
        rw [nn_set] at this
        exact this
      · rename_i hji
        refine OwnNil.block (h.own j hj) fun m hm hbm => Below.heap_setCell _ _ _ _ ?_
        intro e
        subst e
        exact h.apart i j _ hi hj (fun e => hji e.symm) ho.A hbm
    · intro m hm hv
      rw [Below.heap_setCell _ _ _ _ (by intro e; subst e; exact hv (h.vS i _ hi ho.A))]
      exact h.keepV m hm hv

/-- One of the lists grows, and its new head is stored. -/
theorem St.app {V : Nat → Prop} {base : Nat} {w0 : World} {ab n : Nat} {w : World} {S : Nat → Slc} {L : Nat → List Nat} (h : St V base w0 ab n w S L) {t ty t2 : TypeId} (hT : isSl pr t .u64 = some tU64) (hT2 : isRw pr t2 = true) {i : Nat} (hi : i < n) {x : Slc} {ys : List Nat}
    (hx : Rd .u64 w x (nn ys)) (hy : 0 < ys.length) (hsz : ((L i).length + ys.length) * 8 ≤ 2 ^ 47) {K : World → Prop}
    (hK : ∀ w' s', St V base w0 ab n w' (upd S i s') (upd L i (L i ++ ys)) → K w') :
    semS pr (Builtin.append_ #[t, t] ty #[(S i).v, x.v]) w fun s3 w6 => semA pr (Instr.indexAt t2 (Slc.v ⟨some ⟨ab, 0, none⟩, n, n⟩) (.int .i64 (i : Int))) w6 fun ad w7 => stC ad s3.v w7 fun w8 => K w8 := by
  obtain ⟨hu, he, inf, hinf, hs1, hb8, hz⟩ := isSl_out hT
  obtain ⟨ad, hA, _⟩ := hx.get 0 (by simpa using hy)
  have hrow : w.ownsRow base tU64 1 (S i).v (L i).length (ints .u64 (nn (L i))) := by
    rcases h.own i hi with ⟨h1, h2⟩ | ⟨b, h1, h2, h3⟩
    · rw [h1, h2]; exact ⟨rfl, .inl ⟨rfl, rfl⟩⟩
    · have := h3.ownsRow h1 h2
      rw [nn_length] at this
      exact this
  obtain ⟨v', w', hr, ho, hg, hn, hblk⟩ := run_append_own_at (P := pr) (ty := ty) w base t tU64 inf (.int .u64 0) 1 8 hu hinf hz hs1 hb8 rfl (by omega) (S i).v (L i).length (ints .u64 (nn (L i))) hrow ad ys.length x.c (ints .u64 (nn ys)) (by simp [ints])
    (fun j u hj => by
      have hj' : j < (nn ys).length := by
        have := (List.getElem?_eq_some_iff.1 hj).1
        simpa [ints] using this
      obtain ⟨ad', e', hc⟩ := hx.get j hj'
      rw [hA] at e'
      obtain rfl := Option.some.inj e'
      rw [ints_get hj'] at hj
      obtain rfl := Option.some.inj hj
      exact hc) (by simp [ints, Value.oneCell']) (by unfold maxLen; omega) (by omega) h.hsz
  have hne : v' ≠ .slice none 0 0 := fun e => by have := hn.1 e; omega
  have ho' : w'.ownsRow base tU64 1 v' (nn (L i ++ ys)).length (ints .u64 (nn (L i ++ ys))) := by
    simp only [ints, nn_append, List.map_append, List.length_append, nn_length]; exact ho
  obtain ⟨s', b', rfl, hb', hc', hown⟩ := own_of_row ho' hne
  unfold semS
  have hxv : x.v = .slice (some ad) ys.length x.c := by rw [Slc.v, hA, hx.n, nn_length]
  rw [Sem.wp_iff_run, hxv, hr]
  refine ⟨s', rfl, ?_⟩
  -- which blocks changed
  have hob : ∀ k, (S i).v.ownBlock = some k → Bk (S i) k ∧ base ≤ k := by
    intro k hk
    rcases h.own i hi with ⟨h1, _⟩ | ⟨b, h1, _, h3⟩
    · rw [h1] at hk; simp [Slc.v, Value.ownBlock] at hk
    · rw [Slc.v, h3.A] at hk
      simp [Value.ownBlock] at hk
      subst hk
      exact ⟨h3.A, h1⟩
  have keep : ∀ k, k < w.heap.size → ¬ Bk (S i) k → w'.heap[k]? = w.heap[k]? := fun k hk hb => hg.block k hk fun e => hb (hob k e.symm).1
  have hlow : Below base w w' := Below.grown (Below.refl _ _) hg h.hsz fun k hk => (hob k hk).2
  have hab' : w'.heap[ab]? = some (.cells ((List.range n).map fun j => (S j).v).toArray tU64s (0, 0)) := by rw [keep ab h.ablt (h.nab i hi)]; exact h.row
  have hbnew : Bk s' b' := hown.A
  have hb2 : Bk (S i) b' ∨ b' = w.heap.size := by
    have e : s'.v.ownBlock = some b' := by rw [Slc.v, hown.A]; rfl
    rcases hblk with h1 | h1
    · exact .inl (hob b' (by rw [← h1]; exact e)).1
    · right
      rw [e] at h1
      exact Option.some.inj h1
  have hablt := h.ablt
  have hbab : b' ≠ ab := by
    rintro rfl
    rcases hb2 with h1 | h1
    · exact h.nab i hi h1
    · omega
  show semA pr (Instr.indexAt t2 (Slc.v ⟨some ⟨ab, 0, none⟩, n, n⟩) (.int .i64 (i : Int))) w' fun ad w7 => stC ad s'.v w7 fun w8 => K w8
  unfold semA
  rw [Sem.wp_iff_run, run_indexAtG hT2 w' ⟨some ⟨ab, 0, none⟩, n, n⟩ i ⟨ab, 0, none⟩ rfl (by omega) (by simp; omega), add_off]
  refine ⟨_, rfl, ⟨(S i).v, by simp [World.cell?, hab', hi]⟩, by simp [World.frozen?, hab'], hK _ s' ?_⟩
  have hset : ∀ k, k ≠ ab → (w'.setCell ⟨ab, i, none⟩ s'.v).heap[k]? = w'.heap[k]? := fun k hk => Below.heap_setCell _ _ _ _ (by simpa using hk)
  refine ⟨Below.setCell (Below.trans h.low hlow) h.hab _, h.hab, ?_, ?_, ?_, ?_, ?_, ?_, h.vab, h.vbig, ?_⟩
  · have := h.hsz; have := hg.size; simp [World.setCell]; omega
  · have hlt : ab < w'.heap.size := (Array.getElem?_eq_some_iff.1 hab').1
    simp only [World.setCell]
    rw [Array.getElem?_modify, if_pos rfl, hab']
    simp only [Option.map_some, Option.some.injEq]
    congr 1
    apply Array.ext
    · simp
    · intro k hk1 hk2
      have hk : k < n := by simpa using hk2
      by_cases hki : k = i
      · subst hki; simp [upd]
      · simp [upd, hki, Ne.symm hki, Array.getElem_set, Array.getElem_setIfInBounds]
  · intro j hj
    unfold upd
    split
    · rename_i hji
      subst hji
      refine .inr ⟨b', hb', hc', hown.hd, ?_⟩
      obtain ⟨sp, h1, h2⟩ := hown.mem
      exact ⟨sp, h1, (hset _ hbab).trans h2⟩
    · rename_i hji
      refine OwnNil.block (OwnNil.block (h.own j hj) fun k hk hbk => keep k hk fun e => h.apart i j k hi hj (fun e => hji e.symm) e hbk) fun k hk hbk => hset k ?_
      rintro rfl
      exact h.nab j hj hbk
  · intro j hj
    unfold upd
    split
    · intro e
      exact hbab (congrArg Addr.block (Option.some.inj (hbnew.symm.trans e)))
    · exact h.nab j hj
  · intro a c k ha hc hac
    unfold upd
    have only : ∀ j, j < n → j ≠ i → ∀ k, Bk (S j) k → Bk s' k → False := by
      intro j hj hji k h1 h2
      have : b' = k := congrArg Addr.block (Option.some.inj (hbnew.symm.trans h2))
      subst this
      rcases hb2 with h4 | h4
      · exact h.apart i j _ hi hj (fun e => hji e.symm) h4 h1
      · rcases h.own j hj with ⟨h5, _⟩ | ⟨b, _, _, h5⟩
        · rw [h5] at h1; simp [Bk] at h1
        · have h6 : b = b' := congrArg Addr.block (Option.some.inj (h5.A.symm.trans h1))
          have := h5.lt
          omega
    split
    · rename_i hai
      subst hai
      split
      · rename_i hci; exact absurd hci.symm hac
      · rename_i hci
        intro h1 h2
        exact only c hc hci k h2 h1
    · rename_i hai
      split
      · intro h1 h2
        exact only a ha hai k h1 h2
      · exact h.apart a c k ha hc hac
  · intro k hk hv
    have hkw := Nat.lt_of_lt_of_le hk h.low.size
    exact (Below.heap_setCell _ _ _ _ (by simpa using fun e => hv (by rw [e]; exact h.vab))).trans ((keep k hkw (fun e => hv (h.vS i k hi e))).trans (h.keepV k hk hv))
  · intro j k hj
    unfold upd
    split
    · intro e
      have : b' = k := congrArg Addr.block (Option.some.inj (hbnew.symm.trans e))
      subst this
      rcases hb2 with h1 | h1
      · exact h.vS i _ hi h1
      · exact h.vbig _ (by have := h.low.size; omega)
    · exact h.vS j k hj

/-- What Own writes into a list, and what it appends. -/
def fil (L : Nat → List Nat) (j : Nat) : List Nat := List.replicate (L j).length (j % 251 + 1)
def tl (j : Nat) : List Nat := [300 + 5 * j, 300 + 5 * j + 1, 300 + 5 * j + 2, 300 + 5 * j + 3, 300 + 5 * j + 4]
theorem upd_same {α : Type} (f : Nat → α) (i : Nat) (x : α) : upd f i x i = x := if_pos rfl
theorem upd_upd {α : Type} (f : Nat → α) (i : Nat) (x y : α) : upd (upd f i x) i y = upd f i y := by
  funext j; unfold upd; split <;> rfl
theorem upd_self {α : Type} (f : Nat → α) (i : Nat) : upd f i (f i) = f := by
  funext j; unfold upd; split
  · rename_i h; rw [h]
  · rfl
theorem tl_getD (i k : Nat) (h : k < 5) : (tl i).getD k 0 = 300 + 5 * i + k := by
  have : k = 0 ∨ k = 1 ∨ k = 2 ∨ k = 3 ∨ k = 4 := by omega
  rcases this with rfl | rfl | rfl | rfl | rfl <;> rfl

theorem St.congr {V : Nat → Prop} {base : Nat} {w0 : World} {ab n : Nat} {w : World} {S : Nat → Slc} {L L' : Nat → List Nat} (h : St V base w0 ab n w S L) (e : ∀ j, j < n → L j = L' j) : St V base w0 ab n w S L' :=
  ⟨h.low, h.hab, h.hsz, h.row, fun j hj => by rw [← e j hj]; exact h.own j hj, h.nab, h.apart, h.keepV, h.vab, h.vbig, h.vS⟩
theorem fil_getD (L : Nat → List Nat) (i k : Nat) : (fil L i ++ tl i).getD k 0 = if k < (L i).length then i % 251 + 1 else if k < (L i).length + 5 then 300 + 5 * i + (k - (L i).length) else 0 := by
  by_cases h : k < (L i).length
  · rw [if_pos h]
    simp [fil, List.getD_eq_getElem?_getD, List.getElem?_append, h]
  · rw [if_neg h]
    have e : (fil L i ++ tl i).getD k 0 = (tl i).getD (k - (L i).length) 0 := by
      simp [fil, List.getD_eq_getElem?_getD, List.getElem?_append, h]
    rw [e]
    by_cases h2 : k < (L i).length + 5
    · rw [if_pos h2]; exact tl_getD i _ (by omega)
    · rw [if_neg h2, getD_ge]; simp [tl]; omega

theorem Own_spec {V : Nat → Prop} {base : Nat} {w0 w : World} {ab n : Nat} {S : Nat → Slc} {L : Nat → List Nat} (h : St V base w0 ab n w S L) (hn : n ≤ 1000) (hL : ∀ j, j < n → ((L j).length + 5) * 8 ≤ 2 ^ 47) :
    Calls pr surdref01_Own_id #[Slc.v ⟨some ⟨ab, 0, none⟩, n, n⟩] w fun e w' => (Below base w0 w' ∧ ∀ k, k < w0.heap.size → ¬ V k → w'.heap[k]? = w0.heap[k]?) ∧ e = .returned (.bool true) := by
  have hB := B64v
  refine surdref01_Own_vc ⟨some ⟨ab, 0, none⟩, n, n⟩ w _
    (fun t0 t13 t14 t15 w' => t0 = ⟨some ⟨ab, 0, none⟩, n, n⟩ ∧ t13 = ⟨some ⟨ab, 0, none⟩, n, n⟩ ∧ t14 = (n : Int) ∧ ∃ i : Nat, t15 = (i : Int) ∧ i ≤ n ∧ St V base w0 ab n w' S (fun j => if j < i then fil L j else L j))
    (fun _ _ n i _ => (n - i).toNat)
    (fun o0 o13 o14 o15 ow t0 t3 t4 t13 t14 t15 t21 t22 w' => t0 = ⟨some ⟨ab, 0, none⟩, n, n⟩ ∧ t13 = ⟨some ⟨ab, 0, none⟩, n, n⟩ ∧ t14 = (n : Int) ∧ ∃ (i k : Nat) (R : List Nat), o15 = (i : Int) ∧ t3 = (i : Int) ∧ t15 = (i : Int) ∧ i < n ∧ t4 = S i ∧ t21 = ((L i).length : Int) ∧ t22 = (k : Int) ∧ k ≤ (L i).length ∧
      R.length = (L i).length ∧ (∀ m, m < k → R.getD m 0 = i % 251 + 1) ∧ St V base w0 ab n w' S (upd (fun j => if j < i then fil L j else L j) i R))
    (fun _ _ _ _ _ _ _ _ _ _ _ n k _ => (n - k).toNat)
    (fun t0 t34 t35 t36 w' => t0 = ⟨some ⟨ab, 0, none⟩, n, n⟩ ∧ t34 = ⟨some ⟨ab, 0, none⟩, n, n⟩ ∧ t35 = (n : Int) ∧ ∃ (i : Nat) (S' : Nat → Slc), t36 = (i : Int) ∧ i ≤ n ∧ St V base w0 ab n w' S' (fun j => if j < i then fil L j ++ tl j else fil L j))
    (fun _ _ n i _ => (n - i).toNat)
    (fun t62 t63 t64 w' => t62 = ⟨some ⟨ab, 0, none⟩, n, n⟩ ∧ t63 = (n : Int) ∧ ∃ (i : Nat) (S' : Nat → Slc), t64 = (i : Int) ∧ i ≤ n ∧ St V base w0 ab n w' S' (fun j => fil L j ++ tl j))
    (fun _ n i _ => (n - i).toNat)
    (fun o62 o63 o64 ow t9 t10 t62 t63 t64 t69 t70 t71 w' => t62 = ⟨some ⟨ab, 0, none⟩, n, n⟩ ∧ t63 = (n : Int) ∧ ∃ (i k : Nat) (S' : Nat → Slc), o64 = (i : Int) ∧ t9 = (i : Int) ∧ t64 = (i : Int) ∧ i < n ∧ t10 = S' i ∧ t69 = S' i ∧ t70 = ((L i).length + 5 : Nat) ∧ t71 = (k : Int) ∧ k ≤ (L i).length + 5 ∧ St V base w0 ab n w' S' (fun j => fil L j ++ tl j))
    (fun _ _ _ _ _ _ _ _ _ _ n k _ => (n - k).toNat) ?_ ?_ ?_ ?_ ?_ ?_
  · exact ⟨rfl, rfl, rfl, 0, rfl, Nat.zero_le _, by simpa using h⟩
  · rintro t0 t13 t14 t15 w1 ⟨rfl, rfl, rfl, i, rfl, hi, hst⟩
    refine br_intro (fun hlt => ?_) (fun hge => ?_)
    · have hi' : i < n := by simp at hlt; omega
      refine hst.ld (by kernel_rfl) hi' ?_
      have ho := (hst.own i hi').rd
      rw [if_neg (by omega)] at ho
      refine ⟨rfl, rfl, rfl, i, 0, L i, rfl, rfl, rfl, hi', rfl, by rw [ho.n, nn_length], rfl, Nat.zero_le _, rfl, fun m hm => by omega, ?_⟩
      have e : upd (fun j => if j < i then fil L j else L j) i (L i) = fun j => if j < i then fil L j else L j := by
        have := upd_self (fun j => if j < i then fil L j else L j) i
        rw [if_neg (by omega)] at this
        exact this
      rw [e]
      exact hst
    · have hi' : i = n := by simp at hge; omega
      subst hi'
      exact ⟨rfl, rfl, rfl, 0, S, rfl, Nat.zero_le _, hst.congr fun j hj => by rw [if_pos hj, if_neg (by omega)]⟩
  · rintro t0 t13 t14 t15 w1 _ t0' t3' t4' t13' t14' t15' t21' t22' w2 ⟨rfl, rfl, rfl, i, k, R, rfl, rfl, rfl, hi, rfl, rfl, rfl, hk, hR, hd, hst⟩
    have hLi := hL i hi
    refine br_intro (fun hlt => ?_) (fun hge => ?_)
    · have hk' : k < (L i).length := by simp at hlt; omega
      have e8 : IntKind.i64.wrap ((k : Int) + 1) = ((k + 1 : Nat) : Int) := by rw [wrap_i64 (by omega) (by omega)]; omega
      have e1 : IntKind.u64.wrap (IntKind.i64.wrap (Int.tmod (i : Int) 251 + 1)) = ((i % 251 + 1 : Nat) : Int) := by
        have : Int.tmod (i : Int) 251 = ((i % 251 : Nat) : Int) := by rw [Int.tmod_eq_emod_of_nonneg (by omega)]; omega
        rw [this, wrap_i64 (by omega) (by omega), wrap_u64' (by omega) (by omega)]; omega
      rw [e1]
      refine hst.st (by kernel_rfl) hi (by rw [upd_same]; omega) ?_
      intro w3 hst3
      rw [upd_same, upd_upd] at hst3
      refine ⟨⟨rfl, rfl, rfl, i, k + 1, R.set k (i % 251 + 1), rfl, rfl, rfl, hi, rfl, rfl, e8, hk', by simpa using hR, fun m hm => ?_, hst3⟩, by rw [e8]; omega⟩
      rw [getD_set _ _ _ _ (by omega)]
      split
      · rfl
      · exact hd m (by omega)
    · have hk' : k = (L i).length := by simp at hge; omega
      subst hk'
      have e8 : IntKind.i64.wrap ((i : Int) + 1) = ((i + 1 : Nat) : Int) := by rw [wrap_i64 (by omega) (by omega)]; omega
      have hRf : R = fil L i := ext_getD (by rw [hR, fil, List.length_replicate]) fun m hm => by
        rw [hd m (by omega), fil]
        simp [List.getD_eq_getElem?_getD, List.getElem?_replicate, show m < (L i).length by omega]
      refine ⟨⟨rfl, rfl, rfl, i + 1, e8, hi, hst.congr fun j hj => ?_⟩, by rw [e8]; omega⟩
      unfold upd
      by_cases hji : j = i
      · subst hji; rw [if_pos rfl, if_pos (by omega), hRf]
      · rw [if_neg hji]
        show (if j < i then _ else _) = _
        by_cases hlt : j < i
        · rw [if_pos hlt, if_pos (by omega)]
        · rw [if_neg hlt, if_neg (by omega)]
  · rintro t0 t34 t35 t36 w1 ⟨rfl, rfl, rfl, i, S', rfl, hi, hst⟩
    refine br_intro (fun hlt => ?_) (fun hge => ?_)
    · have hi' : i < n := by simp at hlt; omega
      have hLi := hL i hi'
      have e8 : IntKind.i64.wrap ((i : Int) + 1) = ((i + 1 : Nat) : Int) := by rw [wrap_i64 (by omega) (by omega)]; omega
      have e0 : IntKind.u64.wrap (IntKind.i64.wrap (300 + IntKind.i64.wrap (5 * (i : Int)))) = ((300 + 5 * i : Nat) : Int) := by
        rw [wrap_i64 (x := 5 * (i : Int)) (by omega) (by omega), wrap_i64 (by omega) (by omega), wrap_u64' (by omega) (by omega)]; omega
      have e1 : IntKind.u64.wrap (((300 + 5 * i : Nat) : Int) + 1) = ((300 + 5 * i + 1 : Nat) : Int) := by rw [wrap_u64' (by omega) (by omega)]; omega
      have e2 : IntKind.u64.wrap (((300 + 5 * i : Nat) : Int) + 2) = ((300 + 5 * i + 2 : Nat) : Int) := by rw [wrap_u64' (by omega) (by omega)]; omega
      have e3 : IntKind.u64.wrap (((300 + 5 * i : Nat) : Int) + 3) = ((300 + 5 * i + 3 : Nat) : Int) := by rw [wrap_u64' (by omega) (by omega)]; omega
      have e4 : IntKind.u64.wrap (((300 + 5 * i : Nat) : Int) + 4) = ((300 + 5 * i + 4 : Nat) : Int) := by rw [wrap_u64' (by omega) (by omega)]; omega
      rw [e0, e1, e2, e3, e4]
      refine hst.ld (by kernel_rfl) hi' ?_
      have hst2 := hst.alloc (.cells (ints .u64 (nn (tl i))).toArray tU64 (0, 0))
      have hlit : Rd .u64 (w1.alloc (.cells (ints .u64 (nn (tl i))).toArray tU64 (0, 0))) ⟨some ⟨w1.heap.size, 0, none⟩, 5, 5⟩ (nn (tl i)) :=
        Own.rd (t := tU64) (b := w1.heap.size) ⟨rfl, [], rfl, by rw [get_alloc]; simp⟩
      have hG : (if i < i then fil L i ++ tl i else fil L i) = fil L i := if_neg (by omega)
      refine hst2.app (by kernel_rfl) (by kernel_rfl) hi' hlit (by simp [tl]) (by rw [hG]; simp [fil, tl]; omega) ?_
      intro w8 s' hst8
      refine ⟨⟨rfl, rfl, rfl, i + 1, upd S' i s', e8, hi', hst8.congr fun j hj => ?_⟩, by rw [e8]; omega⟩
      rw [hG]
      unfold upd
      by_cases hji : j = i
      · subst hji; rw [if_pos rfl, if_pos (by omega)]
      · rw [if_neg hji]
        show (if j < i then _ else _) = _
        by_cases hlt : j < i
        · rw [if_pos hlt, if_pos (by omega)]
        · rw [if_neg hlt, if_neg (by omega)]
    · have hi' : i = n := by simp at hge; omega
      subst hi'
      exact ⟨rfl, rfl, 0, S', rfl, Nat.zero_le _, hst.congr fun j hj => by rw [if_pos hj]⟩
  · rintro t62 t63 t64 w1 ⟨rfl, rfl, i, S', rfl, hi, hst⟩
    refine br_intro (fun hlt => ?_) (fun hge => ?_)
    · have hi' : i < n := by simp at hlt; omega
      refine hst.ld (by kernel_rfl) hi' ?_
      have ho := (hst.own i hi').rd
      exact ⟨rfl, rfl, i, 0, S', rfl, rfl, rfl, hi', rfl, rfl, by rw [ho.n, nn_length]; simp [fil, tl], rfl, Nat.zero_le _, hst⟩
    · exact ⟨⟨hst.low, hst.keepV⟩, rfl⟩
  · rintro t62 t63 t64 w1 _ t9' t10' t62' t63' t64' t69' t70' t71' w2 ⟨rfl, rfl, i, k, S', rfl, rfl, rfl, hi, rfl, rfl, rfl, rfl, hk, hst⟩
    have hLi := hL i hi
    have ho := (hst.own i hi).rd
    have hon : (S' i).n = (L i).length + 5 := by rw [ho.n, nn_length]; simp [fil, tl]
    have hlen : (fil L i ++ tl i).length = (L i).length + 5 := by simp [fil, tl]
    refine br_intro (fun hlt => ?_) (fun hge => ?_)
    · have hk' : k < (L i).length + 5 := by simp at hlt; omega
      have e8 : IntKind.i64.wrap ((k : Int) + 1) = ((k + 1 : Nat) : Int) := by rw [wrap_i64 (by omega) (by omega)]; omega
      have e1 : IntKind.u64.wrap (IntKind.i64.wrap (Int.tmod (i : Int) 251 + 1)) = ((i % 251 + 1 : Nat) : Int) := by
        have : Int.tmod (i : Int) 251 = ((i % 251 : Nat) : Int) := by rw [Int.tmod_eq_emod_of_nonneg (by omega)]; omega
        rw [this, wrap_i64 (by omega) (by omega), wrap_u64' (by omega) (by omega)]; omega
      have e5 : IntKind.i64.wrap (((S' i).n : Int) - 5) = ((L i).length : Int) := by rw [hon, wrap_i64 (by omega) (by omega)]; omega
      have go : ((⟨some ⟨ab, 0, none⟩, n, n⟩ : Slc) = ⟨some ⟨ab, 0, none⟩, n, n⟩ ∧ (n : Int) = (n : Int) ∧ ∃ (i' k' : Nat) (S'' : Nat → Slc), (i : Int) = (i' : Int) ∧ (i : Int) = (i' : Int) ∧ (i : Int) = (i' : Int) ∧ i' < n ∧ S' i = S'' i' ∧ S' i = S'' i' ∧ (((L i).length + 5 : Nat) : Int) = ((L i').length + 5 : Nat) ∧ IntKind.i64.wrap ((k : Int) + 1) = (k' : Int) ∧ k' ≤ (L i').length + 5 ∧ St V base w0 ab n w2 S'' (fun j => fil L j ++ tl j)) ∧
          ((((L i).length + 5 : Nat) : Int) - IntKind.i64.wrap ((k : Int) + 1)).toNat < ((((L i).length + 5 : Nat) : Int) - (k : Int)).toNat :=
        ⟨⟨rfl, rfl, i, k + 1, S', rfl, rfl, rfl, hi, rfl, rfl, rfl, e8, hk', hst⟩, by rw [e8]; omega⟩
      refine ldN ho (by omega) (by omega) ?_
      rw [Int.toNat_natCast, fil_getD, e5, e1]
      refine br_intro (fun h2 => ?_) (fun h2 => ?_)
      · have h2' : k < (L i).length := by simp at h2; omega
        rw [if_pos h2']
        refine br_false (by simp) (br_false (by simp; omega) go)
      · have h2' : (L i).length ≤ k := by simp at h2; omega
        rw [if_neg (by omega), if_pos hk']
        have e6 : IntKind.u64.wrap (IntKind.i64.wrap (IntKind.i64.wrap (IntKind.i64.wrap (IntKind.i64.wrap (300 + IntKind.i64.wrap (5 * (i : Int))) + (k : Int)) - ((S' i).n : Int)) + 5)) = ((300 + 5 * i + (k - (L i).length) : Nat) : Int) := by
          rw [hon, wrap_i64 (x := 5 * (i : Int)) (by omega) (by omega), wrap_i64 (x := 300 + 5 * (i : Int)) (by omega) (by omega), wrap_i64 (x := 300 + 5 * (i : Int) + (k : Int)) (by omega) (by omega),
            wrap_i64 (x := 300 + 5 * (i : Int) + (k : Int) - _) (by omega) (by omega), wrap_i64 (by omega) (by omega), wrap_u64' (by omega) (by omega)]
          omega
        rw [e6]
        exact br_true (by simp; omega) (br_false (by simp) go)
    · have hk' : k = (L i).length + 5 := by simp at hge; omega
      subst hk'
      have e8 : IntKind.i64.wrap ((i : Int) + 1) = ((i + 1 : Nat) : Int) := by rw [wrap_i64 (by omega) (by omega)]; omega
      exact ⟨⟨rfl, rfl, i + 1, S', e8, hi, hst⟩, by rw [e8]; omega⟩

end Ref
end Go.Proofs.Ytfdajpjiengihaa
namespace Go.Proofs.Ytfdajpjiengihaa
open Go Go.RowKit Eng Sp Dg
set_option linter.unusedVariables false
set_option linter.unusedSimpArgs false
set_option maxRecDepth 100000
namespace Ref
open _root_.Go.Proofs.Ytfdajpjiengihaa.Nat (OwnNil Num Ret bigC Yes own_num num_of digs_len_bl bigC_ok)

theorem low_ahead {w0 w w' : World} {base : Nat} (ha : Ahead w0 w) (hb : w0.heap.size ≤ base) (h : Below base w w') : Ahead w0 w' := Below.trans ha (Below.mono h hb)

theorem own_listV {base : Nat} {w : World} (ss : List (Slc × List Nat)) (hb : base ≤ w.heap.size) (h : ∀ p ∈ ss, OwnNil base w p.1 p.2 ∧ (p.2.length + 5) * 8 ≤ 2 ^ 47) (hp : ss.Pairwise fun p q => ∀ k, Bk p.1 k → ¬ Bk q.1 k) (hn : ss.length ≤ 1000)
    {arr : Array Value} {n : Nat} (harr : arr = (ss.map fun p => p.1.v).toArray) (hnn : n = ss.length) :
    Calls pr surdref01_Own_id #[Slc.v ⟨some ⟨w.heap.size, 0, none⟩, n, n⟩] (w.alloc (.cells arr tU64s (0, 0))) fun e w' => e = .returned (.bool true) ∧ Below base w w' ∧ (w.alloc (.cells arr tU64s (0, 0))).heap.size ≤ w'.heap.size ∧ ∀ k, k < w.heap.size → (∀ p ∈ ss, ¬ Bk p.1 k) → w'.heap[k]? = w.heap[k]? := by
  subst harr hnn
  have hget : ∀ j, j < ss.length → ss.getD j (⟨none, 0, 0⟩, []) ∈ ss := fun j hj => by
    rw [List.getD_eq_getElem?_getD, List.getElem?_eq_getElem hj]; exact List.getElem_mem hj
  have hal : ∀ {arr : Array Value} {t : TypeId}, Below base w (w.alloc (.cells arr t (0, 0))) := Below.alloc (Below.refl _ _) hb _
  refine Calls.mono (Own_spec (V := fun k => w.heap.size ≤ k ∨ ∃ p ∈ ss, Bk p.1 k) (base := base) (w0 := w.alloc (.cells (ss.map fun p => p.1.v).toArray tU64s (0, 0))) (ab := w.heap.size) (n := ss.length) (S := fun j => (ss.getD j (⟨none, 0, 0⟩, [])).1) (L := fun j => (ss.getD j (⟨none, 0, 0⟩, [])).2) ⟨Below.refl _ _, hb, ?_, ?_, ?_, ?_, ?_, fun _ _ _ => rfl, .inl (Nat.le_refl _), fun k hk => .inl (by rw [size_alloc] at hk; omega), fun j k hj hbk => .inr ⟨_, hget j hj, hbk⟩⟩ hn fun j hj => (h _ (hget j hj)).2) fun e w' ⟨⟨h1, h3⟩, h2⟩ => ⟨h2, Below.trans hal h1, h1.size, fun k hk hv => (h3 k (by rw [size_alloc]; omega) fun hh => by
    rcases hh with hh | ⟨p, hp, hh⟩
    · omega
    · exact hv p hp hh).trans (Below.heap_alloc _ _ _ hk)⟩
  · rw [size_alloc]; omega
  · rw [get_alloc]
    congr 3
    apply List.ext_getElem
    · simp
    · intro i h1 h2
      have hi : i < ss.length := by simpa using h1
      simp [List.getD_eq_getElem?_getD, hi]
  · intro j hj
    refine OwnNil.block (h _ (hget j hj)).1 fun k hk _ => Below.heap_alloc _ _ _ hk
  · intro j hj hbk
    rcases (h _ (hget j hj)).1 with ⟨h1, _⟩ | ⟨b, _, _, ho⟩
    · simp only [Bk, h1] at hbk; cases hbk
    · have : b = w.heap.size := congrArg Addr.block (Option.some.inj (ho.A.symm.trans hbk))
      have := ho.lt
      omega
  · intro i j k hi hj hij h1 h2
    rw [List.pairwise_iff_getElem] at hp
    simp only [List.getD_eq_getElem?_getD, List.getElem?_eq_getElem hi, List.getElem?_eq_getElem hj, Option.getD_some] at h1 h2
    rcases Nat.lt_or_ge i j with hlt | hge
    · exact hp i j hi hj hlt k h1 h2
    · exact hp j i hj hi (by omega) k h2 h1
theorem own_list {base : Nat} {w : World} (ss : List (Slc × List Nat)) (hb : base ≤ w.heap.size) (h : ∀ p ∈ ss, OwnNil base w p.1 p.2 ∧ (p.2.length + 5) * 8 ≤ 2 ^ 47) (hp : ss.Pairwise fun p q => ∀ k, Bk p.1 k → ¬ Bk q.1 k) (hn : ss.length ≤ 1000)
    {arr : Array Value} {n : Nat} (harr : arr = (ss.map fun p => p.1.v).toArray) (hnn : n = ss.length) :
    Calls pr surdref01_Own_id #[Slc.v ⟨some ⟨w.heap.size, 0, none⟩, n, n⟩] (w.alloc (.cells arr tU64s (0, 0))) fun e w' => e = .returned (.bool true) ∧ Below base w w' :=
  Calls.mono (own_listV ss hb h hp hn harr hnn) fun e w' ⟨h1, h2, _⟩ => ⟨h1, h2⟩

theorem len32 {l : List Nat} (h : ok B64 l) : (digs B32 (val B64 l)).length ≤ 2 * l.length := by
  refine digs_length_le two32 ?_
  rw [← b64_sq]
  exact val_lt h
theorem digs_own_len {n : Nat} {code : Int} (hc : code = bigC n) : ((if code = 0 then digs B64 n else []).length + 5) * 8 ≤ 2 ^ 47 := by
  subst hc
  unfold bigC
  by_cases h : bl n ≤ 67108864
  · rw [if_pos h, if_pos rfl]
    have := digs_len_bl (N := n) (m := 2 ^ 20) (by omega)
    omega
  · rw [if_neg h, if_neg (by omega)]; simp

end Ref
end Go.Proofs.Ytfdajpjiengihaa
namespace Go.Proofs.Ytfdajpjiengihaa
open Go Go.RowKit Eng Sp Dg
set_option linter.unusedVariables false
set_option linter.unusedSimpArgs false
set_option maxRecDepth 100000
namespace Mul
open _root_.Go.Proofs.Ytfdajpjiengihaa.Nat (Num OwnNil Ret bigC bigC_ok digs_len_bl Yes num_of)
open _root_.Go.Proofs.Ytfdajpjiengihaa.Ref (RN Lend_spec Of_spec Kept_spec rMul_spec Len_spec zero_spec Is_spec bl_len32)

/-- The document's answer: the number, or nothing and the code. -/
def RAns (w : World) (code : Int) (n : Nat) (e : Ending) (w' : World) : Prop := Ahead w w' ∧ ∃ s, e = .returned (.tuple #[Slc.v s, .int .i64 code]) ∧ (code = 0 → RN w' s n)

theorem Told_spec {w : World} {s : Slc} {n : Nat} (h : RN w s n) (hl : (digs B32 n).length ≤ 2 ^ 46) : Calls pr surdref02_Told_id #[s.v] w (RAns w (bigC n) n) := by
  refine surdref02_Told_vc s w _ (Calls.mono (Len_spec h hl) ?_)
  rintro e w1 ⟨rfl, rfl⟩
  refine ⟨_, rfl, br_intro (fun hb => ?_) (fun hb => ?_)⟩
  · have hc : bigC n = 3 := by rw [bigC, if_neg (by simp at hb; omega)]
    rw [hc]
    exact ⟨Ahead.refl _, _, rfl, fun h => by omega⟩
  · have hc : bigC n = 0 := by rw [bigC, if_pos (by simp at hb; omega)]
    rw [hc]
    exact ⟨Ahead.refl _, _, rfl, fun _ => h⟩

theorem bl_le_mul (x y : Nat) : bl (x * y) ≤ bl x + bl y := by
  refine bl_le ?_
  rw [Nat.pow_add]
  exact Nat.mul_lt_mul_of_lt_of_lt (lt_bl x) (lt_bl y)
theorem digs32_bl {n m : Nat} (h : bl n ≤ 32 * m) : (digs B32 n).length ≤ m := by
  refine digs_length_le two32 ?_
  rw [b32_pow]
  exact bl_le_iff.1 h

theorem refMul_spec {w : World} {a b : Slc} {x y : Nat} (ha : RN w a x) (hb : RN w b y) (la : (digs B32 x).length + 1 ≤ 2 ^ 45) (lb : (digs B32 y).length + 1 ≤ 2 ^ 45) :
    Calls pr surdref02_Mul_id #[a.v, b.v] w (RAns w (bigC (x * y)) (x * y)) := by
  have ob := bl_len32 (ok_digs two32 x)
  have ob' := bl_len32 (ok_digs two32 y)
  rw [val_digs two32] at ob ob'
  have fin : ∀ w1, w1 = w → (digs B32 x).length + (digs B32 y).length + 1 ≤ 2 ^ 45 → (digs B32 (x * y)).length ≤ 2 ^ 46 → Calls pr surdref01_Mul_id #[a.v, b.v] w1 fun e9 w9 => ∃ s5 : Slc, e9 = .returned s5.v ∧
      (Calls pr surdref02_Told_id #[s5.v] w9 fun e10 w10 => ∃ s6 : Slc, ∃ x5 : Int, e10 = .returned (.tuple #[s6.v, .int .i64 x5]) ∧ RAns w (bigC (x * y)) (x * y) (.returned (.tuple #[s6.v, .int .i64 x5])) w10) := by
    rintro w1 rfl h1 h2
    refine Calls.mono (rMul_spec ha hb h1) ?_
    rintro e w2 ⟨h3, s, rfl, hs⟩
    refine ⟨_, rfl, Calls.mono (Told_spec hs h2) ?_⟩
    rintro e w4 ⟨h4, t, rfl, ht⟩
    exact ⟨_, _, rfl, h3.trans h4, _, rfl, ht⟩
  refine surdref02_Mul_vc a b w _ (Calls.mono (zero_spec ha) ?_)
  rintro e w1 ⟨rfl, rfl⟩
  refine ⟨_, rfl, br_intro (fun hx => ?_) (fun hx => ?_)⟩
  · have hx0 : x ≠ 0 := by simpa using hx
    refine Calls.mono (zero_spec hb) ?_
    rintro e w2 ⟨rfl, rfl⟩
    refine ⟨_, rfl, br_intro (fun hy => ?_) (fun hy => ?_)⟩
    · have hy0 : y ≠ 0 := by simpa using hy
      refine Calls.mono (Len_spec ha (by omega)) ?_
      rintro e w3 ⟨rfl, rfl⟩
      refine ⟨_, rfl, Calls.mono (Len_spec hb (by omega)) ?_⟩
      rintro e w4 ⟨rfl, rfl⟩
      have p1 := bl_pos hx0
      have p2 := bl_pos hy0
      refine ⟨_, rfl, ?_⟩
      rw [wrap_i64 (x := (bl x : Int) + (bl y : Int)) (by omega) (by omega), wrap_i64 (by omega) (by omega)]
      refine br_intro (fun hg => ?_) (fun hg => ?_)
      · have := bl_mul hx0 hy0
        have hc : bigC (x * y) = 3 := by rw [bigC, if_neg (by simp at hg; omega)]
        rw [hc]
        exact ⟨Ahead.refl _, _, rfl, fun h => by omega⟩
      · have hg' : bl x + bl y ≤ 67108865 := by simp at hg; omega
        have l1 := digs32_bl (n := x) (m := 2 ^ 22) (by omega)
        have l2 := digs32_bl (n := y) (m := 2 ^ 22) (by omega)
        have l3 := digs32_bl (n := x * y) (m := 2 ^ 22) (by have := bl_le_mul x y; omega)
        exact fin _ rfl (by omega) (by omega)
    · have hy0 : y = 0 := by simpa using hy
      subst hy0
      exact fin _ rfl (by rw [digs_zero]; simp; omega) (by rw [Nat.mul_zero, digs_zero]; simp)
  · have hx0 : x = 0 := by simpa using hx
    subst hx0
    exact fin _ rfl (by rw [digs_zero]; simp; omega) (by rw [Nat.zero_mul, digs_zero]; simp)

theorem alike_spec {w : World} {s want : Slc} {code : Int} {n : Nat} (hs : Rd .u64 w s (nn (if code = 0 then digs B64 n else []))) (hw : code = 0 → RN w want n) (hl : code = 0 → bl n ≤ 67108864) :
    Calls pr surdlaw02_alike_id #[s.v, .int .i64 code, want.v, .int .i64 code] w fun e w' => Ahead w w' ∧ e = .returned (.bool true) := by
  refine surdlaw02_alike_vc s code want code w _ (Calls.mono num_spec ?_)
  rintro e w1 ⟨rfl, rfl⟩
  refine ⟨_, rfl, br_false (by simp) (br_intro (fun hc => ?_) (fun hc => ?_))⟩
  · have hc0 : code ≠ 0 := by simpa using hc
    rw [if_neg hc0] at hs
    refine ⟨Ahead.refl _, ?_⟩
    have := hs.n
    simp at this
    rw [this]; rfl
  · have hc0 : code = 0 := by simpa using hc
    rw [if_pos hc0] at hs
    have := digs_len_bl (N := n) (m := 2 ^ 20) (by have := hl hc0; omega)
    refine Calls.mono (Is_spec (hw hc0) hs (by omega)) ?_
    rintro e w2 ⟨ha, rfl⟩
    exact ⟨_, rfl, ha, rfl⟩
theorem bigC_bl {n : Nat} (h : bigC n = 0) : bl n ≤ 67108864 := by
  unfold bigC at h
  by_cases hb : bl n ≤ 67108864
  · exact hb
  · rw [if_neg hb] at h; omega

theorem len32 {l : List Nat} (h : ok B64 l) : (digs B32 (val B64 l)).length ≤ 2 * l.length := by
  refine digs_length_le two32 ?_
  rw [← Ref.b64_sq]
  exact val_lt h

end Mul
end Go.Proofs.Ytfdajpjiengihaa
namespace Go.Proofs.Ytfdajpjiengihaa
open Go Go.RowKit Eng Sp Dg
set_option linter.unusedVariables false
set_option linter.unusedSimpArgs false
set_option maxRecDepth 100000
namespace Mul
open _root_.Go.Proofs.Ytfdajpjiengihaa.Nat (Num OwnNil Ret bigC bigC_ok digs_len_bl Yes num_of)
open _root_.Go.Proofs.Ytfdajpjiengihaa.Ref (RN Lend_spec Of_spec Kept_spec rMul_spec Len_spec zero_spec Is_spec bl_len32)

theorem lit_rd (k : IntKind) (t : TypeId) (w : World) (l : List Int) : Rd k (w.alloc (.cells (ints k l).toArray t (0, 0))) ⟨some ⟨w.heap.size, 0, none⟩, l.length, l.length⟩ l :=
  Own.rd (t := t) (b := w.heap.size) ⟨rfl, [], by simp, by rw [get_alloc]; simp⟩

/-- What reads as limbs of a number, of a size that the laws' own functions take. -/
def NumB (w : World) (s : Slc) (n : Nat) : Prop := ∃ l, Rd .u64 w s (nn l) ∧ l.length * 8 ≤ 140737488351232 ∧ ok B64 l ∧ val B64 l = n
theorem NumB.num {w : World} {s : Slc} {n : Nat} (h : NumB w s n) : Num w s n := by
  obtain ⟨l, h1, h2, h3, h4⟩ := h; exact ⟨l, h1, by omega, h3, h4⟩
theorem NumB.ahead {w w' : World} {s : Slc} {n : Nat} (h : NumB w s n) (ha : Ahead w w') : NumB w' s n := by
  obtain ⟨l, h1, h2⟩ := h; exact ⟨l, h1.ahead ha, h2⟩

end Mul
end Go.Proofs.Ytfdajpjiengihaa
namespace Go.Proofs.Ytfdajpjiengihaa
open Go Go.RowKit Eng Sp Dg
set_option linter.unusedVariables false
set_option linter.unusedSimpArgs false
set_option maxRecDepth 100000
namespace Dg

end Dg
namespace Nat
theorem fdivN (x k : Nat) : Int.fdiv (x : Int) (2 ^ (k : Nat)) = ((x / 2 ^ k : Nat) : Int) := by
  rw [Int.fdiv_eq_ediv_of_nonneg _ (Int.le_of_lt (Int.pow_pos (by omega)))]
  norm_cast

end Nat
end Go.Proofs.Ytfdajpjiengihaa
namespace Go.Proofs.Ytfdajpjiengihaa
open Go Go.RowKit Eng
set_option linter.unusedVariables false

def bits_Div64_cut (J0 : Int → Int → Int → Int → Int → Int → Int → Int → Int → World → Prop) (m0 : Int → Int → Int → Int → Int → Int → Int → Int → Int → World → Nat) (J2 : Int → Int → Int → Int → Int → Int → Int → Int → Int → World → Prop) (m2 : Int → Int → Int → Int → Int → Int → Int → Int → Int → World → Nat) : Nat → Option ((Act → World → Prop) × (Act → World → Nat))
  | 0 => some (fun a_ w_ => atSz a_ 135 (atI .u64 a_ 2 fun t2 => atI .u64 a_ 8 fun t8 => atI .u64 a_ 9 fun t9 => atI .u64 a_ 10 fun t10 => atI .u64 a_ 11 fun t11 => atI .u64 a_ 13 fun t13 => atI .u64 a_ 14 fun t14 => atI .u64 a_ 15 fun t15 => atI .u64 a_ 16 fun t16 => J0 t2 t8 t9 t10 t11 t13 t14 t15 t16 w_), fun a_ w_ => mI a_ 2 fun t2 => mI a_ 8 fun t8 => mI a_ 9 fun t9 => mI a_ 10 fun t10 => mI a_ 11 fun t11 => mI a_ 13 fun t13 => mI a_ 14 fun t14 => mI a_ 15 fun t15 => mI a_ 16 fun t16 => m0 t2 t8 t9 t10 t11 t13 t14 t15 t16 w_)
  | 2 => some (fun a_ w_ => atSz a_ 135 (atI .u64 a_ 2 fun t2 => atI .u64 a_ 8 fun t8 => atI .u64 a_ 9 fun t9 => atI .u64 a_ 10 fun t10 => atI .u64 a_ 14 fun t14 => atI .u64 a_ 15 fun t15 => atI .u64 a_ 16 fun t16 => atI .u64 a_ 17 fun t17 => atI .u64 a_ 18 fun t18 => J2 t2 t8 t9 t10 t14 t15 t16 t17 t18 w_), fun a_ w_ => mI a_ 2 fun t2 => mI a_ 8 fun t8 => mI a_ 9 fun t9 => mI a_ 10 fun t10 => mI a_ 14 fun t14 => mI a_ 15 fun t15 => mI a_ 16 fun t16 => mI a_ 17 fun t17 => mI a_ 18 fun t18 => m2 t2 t8 t9 t10 t14 t15 t16 t17 t18 w_)
  | _ => none

set_option maxRecDepth 100000 in
/-- math/bits.Div64: function 66. -/
theorem bits_Div64_vc (a0 : Int) (a1 : Int) (a2 : Int) (w : World) (R : Ending → World → Prop)
    (J0 : Int → Int → Int → Int → Int → Int → Int → Int → Int → World → Prop) (m0 : Int → Int → Int → Int → Int → Int → Int → Int → Int → World → Nat) (J2 : Int → Int → Int → Int → Int → Int → Int → Int → Int → World → Prop) (m2 : Int → Int → Int → Int → Int → Int → Int → Int → Int → World → Nat)
    (h : br (a2 == 0)
    (False)
    (br (decide (a2 ≤ a0))
     (False)
     (br (a0 == 0)
      (fixI Try.prog .u64 (binOp .quo 29 (Value.int .u64 a1) (Value.int .u64 a2)) w fun x1 =>
       fixI Try.prog .u64 (binOp .rem 29 (Value.int .u64 a1) (Value.int .u64 a2)) w fun x2 =>
       ∀ w1, Ahead w w1 →
       (R (.returned (Value.tuple #[Value.int .u64 x1, Value.int .u64 x2])) w1))
      (Calls Try.prog 76 #[Value.int .u64 a2] w fun e1 w2 =>
       ∃ x3 : Int, e1 = .returned (Value.int .i64 x3) ∧
       (semI Try.prog .u64 (binOp .shl 29 (Value.int .u64 a2) (Value.int .u64 (IntKind.u64.wrap x3))) w2 fun x4 w3 =>
        semI Try.prog .u64 (binOp .shl 29 (Value.int .u64 a0) (Value.int .u64 (IntKind.u64.wrap x3))) w3 fun x5 w4 =>
        semI Try.prog .u64 (binOp .shr 29 (Value.int .u64 a1) (Value.int .u64 (IntKind.u64.wrap (64 - (IntKind.u64.wrap x3))))) w4 fun x6 w5 =>
        semI Try.prog .u64 (binOp .shl 29 (Value.int .u64 a1) (Value.int .u64 (IntKind.u64.wrap x3))) w5 fun x7 w6 =>
        semI Try.prog .u64 (binOp .quo 29 (Value.int .u64 (orI .u64 x5 x6)) (Value.int .u64 (Int.fdiv x4 (2 ^ (32 : Nat))))) w6 fun x8 w7 =>
        J0 x4 (IntKind.u64.wrap x3) (Int.fdiv x4 (2 ^ (32 : Nat))) (andI .u64 x4 4294967295) (orI .u64 x5 x6) (Int.fdiv x7 (2 ^ (32 : Nat))) (andI .u64 x7 4294967295) x8 (IntKind.u64.wrap ((orI .u64 x5 x6) - (IntKind.u64.wrap (x8 * (Int.fdiv x4 (2 ^ (32 : Nat))))))) w7)))))
    (h0 : ∀ (t2 : Int) (t8 : Int) (t9 : Int) (t10 : Int) (t11 : Int) (t13 : Int) (t14 : Int) (t15 : Int) (t16 : Int) (w_ : World), J0 t2 t8 t9 t10 t11 t13 t14 t15 t16 w_ → 
    br (decide (t15 ≥ 4294967296))
    (br (decide ((IntKind.u64.wrap (t16 + t9)) ≥ 4294967296))
     (semI Try.prog .u64 (binOp .quo 29 (Value.int .u64 (IntKind.u64.wrap ((IntKind.u64.wrap ((IntKind.u64.wrap (t11 * 4294967296)) + t13)) - (IntKind.u64.wrap ((IntKind.u64.wrap (t15 - 1)) * t2))))) (Value.int .u64 t9)) w_ fun x9 w8 =>
      J2 t2 t8 t9 t10 t14 (IntKind.u64.wrap (t15 - 1)) (IntKind.u64.wrap ((IntKind.u64.wrap ((IntKind.u64.wrap ((IntKind.u64.wrap (t11 * 4294967296)) + t13)) - (IntKind.u64.wrap ((IntKind.u64.wrap (t15 - 1)) * t2)))) - (IntKind.u64.wrap (x9 * t9)))) (IntKind.u64.wrap ((IntKind.u64.wrap ((IntKind.u64.wrap (t11 * 4294967296)) + t13)) - (IntKind.u64.wrap ((IntKind.u64.wrap (t15 - 1)) * t2)))) x9 w8)
     (J0 t2 t8 t9 t10 t11 t13 t14 (IntKind.u64.wrap (t15 - 1)) (IntKind.u64.wrap (t16 + t9)) w_ ∧
      m0 t2 t8 t9 t10 t11 t13 t14 (IntKind.u64.wrap (t15 - 1)) (IntKind.u64.wrap (t16 + t9)) w_ < m0 t2 t8 t9 t10 t11 t13 t14 t15 t16 w_))
    (br (decide ((IntKind.u64.wrap (t15 * t10)) > (IntKind.u64.wrap ((IntKind.u64.wrap (4294967296 * t16)) + t13))))
     (br (decide ((IntKind.u64.wrap (t16 + t9)) ≥ 4294967296))
      (semI Try.prog .u64 (binOp .quo 29 (Value.int .u64 (IntKind.u64.wrap ((IntKind.u64.wrap ((IntKind.u64.wrap (t11 * 4294967296)) + t13)) - (IntKind.u64.wrap ((IntKind.u64.wrap (t15 - 1)) * t2))))) (Value.int .u64 t9)) w_ fun x13 w12 =>
       J2 t2 t8 t9 t10 t14 (IntKind.u64.wrap (t15 - 1)) (IntKind.u64.wrap ((IntKind.u64.wrap ((IntKind.u64.wrap ((IntKind.u64.wrap (t11 * 4294967296)) + t13)) - (IntKind.u64.wrap ((IntKind.u64.wrap (t15 - 1)) * t2)))) - (IntKind.u64.wrap (x13 * t9)))) (IntKind.u64.wrap ((IntKind.u64.wrap ((IntKind.u64.wrap (t11 * 4294967296)) + t13)) - (IntKind.u64.wrap ((IntKind.u64.wrap (t15 - 1)) * t2)))) x13 w12)
      (J0 t2 t8 t9 t10 t11 t13 t14 (IntKind.u64.wrap (t15 - 1)) (IntKind.u64.wrap (t16 + t9)) w_ ∧
       m0 t2 t8 t9 t10 t11 t13 t14 (IntKind.u64.wrap (t15 - 1)) (IntKind.u64.wrap (t16 + t9)) w_ < m0 t2 t8 t9 t10 t11 t13 t14 t15 t16 w_))
     (semI Try.prog .u64 (binOp .quo 29 (Value.int .u64 (IntKind.u64.wrap ((IntKind.u64.wrap ((IntKind.u64.wrap (t11 * 4294967296)) + t13)) - (IntKind.u64.wrap (t15 * t2))))) (Value.int .u64 t9)) w_ fun x14 w13 =>
      J2 t2 t8 t9 t10 t14 t15 (IntKind.u64.wrap ((IntKind.u64.wrap ((IntKind.u64.wrap ((IntKind.u64.wrap (t11 * 4294967296)) + t13)) - (IntKind.u64.wrap (t15 * t2)))) - (IntKind.u64.wrap (x14 * t9)))) (IntKind.u64.wrap ((IntKind.u64.wrap ((IntKind.u64.wrap (t11 * 4294967296)) + t13)) - (IntKind.u64.wrap (t15 * t2)))) x14 w13)))
    (h2 : ∀ (t2 : Int) (t8 : Int) (t9 : Int) (t10 : Int) (t14 : Int) (t15 : Int) (t16 : Int) (t17 : Int) (t18 : Int) (w_ : World), J2 t2 t8 t9 t10 t14 t15 t16 t17 t18 w_ → 
    br (decide (t18 ≥ 4294967296))
    (br (decide ((IntKind.u64.wrap (t16 + t9)) ≥ 4294967296))
     (semI Try.prog .u64 (binOp .shr 29 (Value.int .u64 (IntKind.u64.wrap ((IntKind.u64.wrap ((IntKind.u64.wrap (t17 * 4294967296)) + t14)) - (IntKind.u64.wrap ((IntKind.u64.wrap (t18 - 1)) * t2))))) (Value.int .u64 t8)) w_ fun x10 w9 =>
      R (.returned (Value.tuple #[Value.int .u64 (IntKind.u64.wrap ((IntKind.u64.wrap (t15 * 4294967296)) + (IntKind.u64.wrap (t18 - 1)))), Value.int .u64 x10])) w9)
     (J2 t2 t8 t9 t10 t14 t15 (IntKind.u64.wrap (t16 + t9)) t17 (IntKind.u64.wrap (t18 - 1)) w_ ∧
      m2 t2 t8 t9 t10 t14 t15 (IntKind.u64.wrap (t16 + t9)) t17 (IntKind.u64.wrap (t18 - 1)) w_ < m2 t2 t8 t9 t10 t14 t15 t16 t17 t18 w_))
    (br (decide ((IntKind.u64.wrap (t18 * t10)) > (IntKind.u64.wrap ((IntKind.u64.wrap (4294967296 * t16)) + t14))))
     (br (decide ((IntKind.u64.wrap (t16 + t9)) ≥ 4294967296))
      (semI Try.prog .u64 (binOp .shr 29 (Value.int .u64 (IntKind.u64.wrap ((IntKind.u64.wrap ((IntKind.u64.wrap (t17 * 4294967296)) + t14)) - (IntKind.u64.wrap ((IntKind.u64.wrap (t18 - 1)) * t2))))) (Value.int .u64 t8)) w_ fun x11 w10 =>
       R (.returned (Value.tuple #[Value.int .u64 (IntKind.u64.wrap ((IntKind.u64.wrap (t15 * 4294967296)) + (IntKind.u64.wrap (t18 - 1)))), Value.int .u64 x11])) w10)
      (J2 t2 t8 t9 t10 t14 t15 (IntKind.u64.wrap (t16 + t9)) t17 (IntKind.u64.wrap (t18 - 1)) w_ ∧
       m2 t2 t8 t9 t10 t14 t15 (IntKind.u64.wrap (t16 + t9)) t17 (IntKind.u64.wrap (t18 - 1)) w_ < m2 t2 t8 t9 t10 t14 t15 t16 t17 t18 w_))
     (semI Try.prog .u64 (binOp .shr 29 (Value.int .u64 (IntKind.u64.wrap ((IntKind.u64.wrap ((IntKind.u64.wrap (t17 * 4294967296)) + t14)) - (IntKind.u64.wrap (t18 * t2))))) (Value.int .u64 t8)) w_ fun x12 w11 =>
      R (.returned (Value.tuple #[Value.int .u64 (IntKind.u64.wrap ((IntKind.u64.wrap (t15 * 4294967296)) + t18)), Value.int .u64 x12])) w11))) :
    Calls Try.prog 66 #[Value.int .u64 a0, Value.int .u64 a1, Value.int .u64 a2] w R := by
  refine calls_of_vc (bits_Div64_cut J0 m0 J2 m2) (by kernel_rfl) Try.func66 rfl ?_ ?_
  · refine kcast h ?_; kernel_rfl
  · exact (obl_seq rfl (obl_reg (obl_seq rfl (obl_seq rfl (obl_reg (obl_cond (obl_reg (obl_skip (obl_seq rfl (obl_seq rfl (obl_reg (obl_cond (obl_reg (obl_skip (obl_seq rfl (obl_seq rfl (obl_reg (obl_cond (obl_seq rfl (obl_quiet (by kernel_rfl) (by kernel_rfl) (by kernel_rfl) (by kernel_rfl) (obl_ret (obl_skip (obl_seq rfl (obl_reg (obl_seq rfl (obl_reg (obl_seq rfl (obl_reg (obl_seq rfl (obl_reg (obl_seq rfl (obl_reg (obl_seq rfl (obl_reg (obl_seq rfl (obl_reg (obl_seq rfl (obl_reg (obl_seq rfl (obl_reg (obl_seq rfl (obl_reg (obl_seq rfl (obl_loop _ rfl (fun a_ w_ hL_ => (by
    obtain ⟨hz_, hd_, hL_⟩ := atSz_out hL_
    obtain ⟨t2, h2_, hL_⟩ := atI_out hL_
    obtain ⟨t8, h8_, hL_⟩ := atI_out hL_
    obtain ⟨t9, h9_, hL_⟩ := atI_out hL_
    obtain ⟨t10, h10_, hL_⟩ := atI_out hL_
    obtain ⟨t11, h11_, hL_⟩ := atI_out hL_
    obtain ⟨t13, h13_, hL_⟩ := atI_out hL_
    obtain ⟨t14, h14_, hL_⟩ := atI_out hL_
    obtain ⟨t15, h15_, hL_⟩ := atI_out hL_
    obtain ⟨t16, h16_, hL_⟩ := atI_out hL_
    obtain ⟨g0, rfl⟩ : ∃ g, a_ = Fr 135 [(2, Value.int .u64 t2), (8, Value.int .u64 t8), (9, Value.int .u64 t9), (10, Value.int .u64 t10), (11, Value.int .u64 t11), (13, Value.int .u64 t13), (14, Value.int .u64 t14), (15, Value.int .u64 t15), (16, Value.int .u64 t16)] g := ⟨_, fr_of hz_ hd_ [(2, Value.int .u64 t2), (8, Value.int .u64 t8), (9, Value.int .u64 t9), (10, Value.int .u64 t10), (11, Value.int .u64 t11), (13, Value.int .u64 t13), (14, Value.int .u64 t14), (15, Value.int .u64 t15), (16, Value.int .u64 t16)] (sel_cons h2_ (sel_cons h8_ (sel_cons h9_ (sel_cons h10_ (sel_cons h11_ (sel_cons h13_ (sel_cons h14_ (sel_cons h15_ (sel_cons h16_ sel_nil)))))))))⟩
    clear hz_ hd_ h2_ h8_ h9_ h10_ h11_ h13_ h14_ h15_ h16_
    have hJ0_ := hL_
    refine ⟨(fun _ => none), kcast (h0 t2 t8 t9 t10 t11 t13 t14 t15 t16 w_ hJ0_) ?_, ?_⟩
    · kernel_rfl
    · exact (obl_seq rfl (obl_seq rfl (obl_reg (obl_cond (obl_skip (obl_exit (obl_blk rfl (obl_seq rfl (obl_reg (obl_seq rfl (obl_reg (obl_seq rfl (obl_reg (obl_cond (obl_exit (obl_skip trivial)))))))))))))))))) (obl_seq rfl (obl_reg (obl_seq rfl (obl_reg (obl_seq rfl (obl_reg (obl_seq rfl (obl_loop _ rfl (fun a_ w_ hL_ => (by
    obtain ⟨hz_, hd_, hL_⟩ := atSz_out hL_
    obtain ⟨t2, h2_, hL_⟩ := atI_out hL_
    obtain ⟨t8, h8_, hL_⟩ := atI_out hL_
    obtain ⟨t9, h9_, hL_⟩ := atI_out hL_
    obtain ⟨t10, h10_, hL_⟩ := atI_out hL_
    obtain ⟨t14, h14_, hL_⟩ := atI_out hL_
    obtain ⟨t15, h15_, hL_⟩ := atI_out hL_
    obtain ⟨t16, h16_, hL_⟩ := atI_out hL_
    obtain ⟨t17, h17_, hL_⟩ := atI_out hL_
    obtain ⟨t18, h18_, hL_⟩ := atI_out hL_
    obtain ⟨g2, rfl⟩ : ∃ g, a_ = Fr 135 [(2, Value.int .u64 t2), (8, Value.int .u64 t8), (9, Value.int .u64 t9), (10, Value.int .u64 t10), (14, Value.int .u64 t14), (15, Value.int .u64 t15), (16, Value.int .u64 t16), (17, Value.int .u64 t17), (18, Value.int .u64 t18)] g := ⟨_, fr_of hz_ hd_ [(2, Value.int .u64 t2), (8, Value.int .u64 t8), (9, Value.int .u64 t9), (10, Value.int .u64 t10), (14, Value.int .u64 t14), (15, Value.int .u64 t15), (16, Value.int .u64 t16), (17, Value.int .u64 t17), (18, Value.int .u64 t18)] (sel_cons h2_ (sel_cons h8_ (sel_cons h9_ (sel_cons h10_ (sel_cons h14_ (sel_cons h15_ (sel_cons h16_ (sel_cons h17_ (sel_cons h18_ sel_nil)))))))))⟩
    clear hz_ hd_ h2_ h8_ h9_ h10_ h14_ h15_ h16_ h17_ h18_
    have hJ2_ := hL_
    refine ⟨(fun _ => none), kcast (h2 t2 t8 t9 t10 t14 t15 t16 t17 t18 w_ hJ2_) ?_, ?_⟩
    · kernel_rfl
    · exact (obl_seq rfl (obl_seq rfl (obl_reg (obl_cond (obl_skip (obl_exit (obl_blk rfl (obl_seq rfl (obl_reg (obl_seq rfl (obl_reg (obl_seq rfl (obl_reg (obl_cond (obl_exit (obl_skip trivial)))))))))))))))))) (obl_seq rfl (obl_reg (obl_ret trivial)))))))))))))))))))))))))))))))))))))))))))))))))))))))

end Go.Proofs.Ytfdajpjiengihaa
namespace Go.Proofs.Ytfdajpjiengihaa
open Go Go.RowKit Eng Sp Dg
set_option linter.unusedVariables false
set_option linter.unusedSimpArgs false
set_option maxRecDepth 100000
namespace Nat

theorem binQuo {x y : Nat} {t : TypeId} (hx : x < B64) (hy : y ≠ 0) : binOp .quo t (.int .u64 (x : Int)) (.int .u64 (y : Int)) = pure (.int .u64 ((x / y : Nat) : Int)) := by
  have e : Int.tdiv (x : Int) (y : Int) = ((x / y : Nat) : Int) := by rw [Int.tdiv_eq_ediv_of_nonneg (by omega)]; simp
  have hle := Nat.div_le_self x y
  have hB := B64v
  unfold binOp
  simp only [Op.intDiv]
  rw [if_neg (by simp), if_neg (by simpa using hy)]
  simp only [e]
  generalize x / y = q at *
  rw [wrap_u64' (by omega) (by omega)]
theorem binRem {x y : Nat} {t : TypeId} (hx : x < B64) (hy : y ≠ 0) : binOp .rem t (.int .u64 (x : Int)) (.int .u64 (y : Int)) = pure (.int .u64 ((x % y : Nat) : Int)) := by
  have e : Int.tmod (x : Int) (y : Int) = ((x % y : Nat) : Int) := by rw [Int.tmod_eq_emod_of_nonneg (by omega)]; simp
  have hle := Nat.mod_le x y
  have hB := B64v
  unfold binOp
  simp only [Op.intDiv]
  rw [if_neg (by simp), if_neg (by simpa using hy)]
  simp only [e]

theorem semQuo {x y : Nat} {t : TypeId} {w : World} {K : Int → World → Prop} (hx : x < B64) (hy : y ≠ 0) (h : K ((x / y : Nat) : Int) w) : semI pr .u64 (binOp .quo t (.int .u64 (x : Int)) (.int .u64 (y : Int))) w K := by
  unfold semI
  rw [binQuo hx hy, Sem.wp_iff_run]
  exact ⟨_, rfl, h⟩
theorem fixQuo {x y : Nat} {t : TypeId} {w : World} {K : Int → Prop} (hx : x < B64) (hy : y ≠ 0) (h : K ((x / y : Nat) : Int)) : fixI pr .u64 (binOp .quo t (.int .u64 (x : Int)) (.int .u64 (y : Int))) w K := by
  rw [fixI, binQuo hx hy]
  exact ⟨_, fun _ _ => rfl, h⟩
theorem fixRem {x y : Nat} {t : TypeId} {w : World} {K : Int → Prop} (hx : x < B64) (hy : y ≠ 0) (h : K ((x % y : Nat) : Int)) : fixI pr .u64 (binOp .rem t (.int .u64 (x : Int)) (.int .u64 (y : Int))) w K := by
  rw [fixI, binRem hx hy]
  exact ⟨_, fun _ _ => rfl, h⟩

/-- The guess q, with its rest r, of U b + u through y = y1 b + y0. -/
structure Guess (U u y y1 y0 q r : Nat) : Prop where
  eq : q * y1 + r = U
  ge : (U * 4294967296 + u) / y ≤ q
theorem Guess.over {U u y y1 y0 q r : Nat} (h : Guess U u y y1 y0 q r) (hy : y = y1 * 4294967296 + y0) : q * y0 > 4294967296 * r + u ↔ q * y > U * 4294967296 + u := by
  have e1 : q * y = q * y1 * 4294967296 + q * y0 := by rw [hy, Nat.mul_add, Nat.mul_assoc]
  have := h.eq
  generalize q * y1 = A at *
  generalize q * y0 = B at *
  generalize q * y = C at *
  omega
theorem Guess.less {U u y y1 y0 q r : Nat} (h : Guess U u y y1 y0 q r) (hq : 0 < q) (hl : (U * 4294967296 + u) / y < q) : Guess U u y y1 y0 (q - 1) (r + y1) := by
  refine ⟨?_, by omega⟩
  have := h.eq
  obtain ⟨k, rfl⟩ : ∃ k, q = k + 1 := ⟨q - 1, by omega⟩
  rw [Nat.add_sub_cancel]
  rw [Nat.succ_mul] at this
  omega
theorem Guess.done {U u y y1 y0 q r : Nat} (h : Guess U u y y1 y0 q r) (hy0 : 0 < y) (hl : q * y ≤ U * 4294967296 + u) : q = (U * 4294967296 + u) / y :=
  Nat.le_antisymm ((Nat.le_div_iff_mul_le hy0).2 hl) h.ge
theorem Guess.far {U u y y1 y0 q r : Nat} (h : Guess U u y y1 y0 q r) (hy : y = y1 * 4294967296 + y0) (h0 : y0 < 4294967296) (hq : q ≤ 4294967296) (hr : 4294967296 ≤ r) : q * y ≤ U * 4294967296 + u := by
  have e1 : q * y = q * y1 * 4294967296 + q * y0 := by rw [hy, Nat.mul_add, Nat.mul_assoc]
  have := h.eq
  have h2 : q * y0 ≤ 4294967296 * 4294967295 := Nat.mul_le_mul hq (by omega)
  generalize q * y1 = A at *
  generalize q * y0 = B at *
  generalize q * y = C at *
  omega
theorem Guess.first {U u y y1 y0 : Nat} (hy : y = y1 * 4294967296 + y0) (h1 : 2147483648 ≤ y1) (h0 : y0 < 4294967296) (hu : u < 4294967296) (hU : U < y) :
    Guess U u y y1 y0 (U / y1) (U - U / y1 * y1) ∧ U / y1 ≤ 4294967297 ∧ U - U / y1 * y1 < 4294967296 + y1 := by
  have hd := Nat.div_add_mod U y1
  have hm := Nat.mod_lt U (show y1 > 0 by omega)
  have hc : y1 * (U / y1) = U / y1 * y1 := Nat.mul_comm _ _
  refine ⟨⟨by omega, ?_⟩, ?_, by omega⟩
  · rw [← Nat.lt_succ_iff, Nat.div_lt_iff_lt_mul (by omega)]
    have e1 : (U / y1).succ * y = (U / y1 * y1 + y1) * 4294967296 + (U / y1).succ * y0 := by
      rw [hy, Nat.mul_add, ← Nat.mul_assoc, Nat.succ_mul]
    rw [e1]
    have : U + 1 ≤ U / y1 * y1 + y1 := by omega
    generalize U / y1 * y1 = A at *
    generalize (U / y1).succ * y0 = B at *
    omega
  · rw [← Nat.lt_succ_iff, Nat.div_lt_iff_lt_mul (by omega)]
    omega
theorem quot_lt {U u y : Nat} (hu : u < 4294967296) (hU : U < y) : (U * 4294967296 + u) / y < 4294967296 := by
  rw [Nat.div_lt_iff_lt_mul (by omega)]; omega
/-- What stays, reckoned modulo 2^64. -/
theorem rest_wrap {U u y q : Nat} (hy : y < 18446744073709551616) (hy0 : 0 < y) (hq : q = (U * 4294967296 + u) / y) :
    IntKind.u64.wrap (IntKind.u64.wrap (IntKind.u64.wrap ((U : Int) * 4294967296) + (u : Int)) - IntKind.u64.wrap ((q : Int) * (y : Int))) = (((U * 4294967296 + u) % y : Nat) : Int) := by
  have hd := Nat.div_add_mod (U * 4294967296 + u) y
  have hm := Nat.mod_lt (U * 4294967296 + u) hy0
  rw [← hq, Nat.mul_comm] at hd
  have e : (q : Int) * (y : Int) = ((q * y : Nat) : Int) := by push_cast; rfl
  rw [e, wrap_u64, wrap_u64, wrap_u64, wrap_u64]
  generalize (U * 4294967296 + u) % y = m at *
  generalize q * y = C at *
  omega

def J0r (w : World) (Y s y1 y0 U u1 u0 : Nat) (t2 t8 t9 t10 t11 t13 t14 t15 t16 : Int) (w' : World) : Prop :=
  w' = w ∧ t2 = (Y : Int) ∧ t8 = (s : Int) ∧ t9 = (y1 : Int) ∧ t10 = (y0 : Int) ∧ t11 = (U : Int) ∧ t13 = (u1 : Int) ∧ t14 = (u0 : Int) ∧ ∃ q r : Nat, t15 = (q : Int) ∧ t16 = (r : Int) ∧ Guess U u1 Y y1 y0 q r ∧ r < 4294967296 ∧ q ≤ 4294967297
def J2r (w : World) (Y s y1 y0 u0 Q1 R1 : Nat) (t2 t8 t9 t10 t14 t15 t16 t17 t18 : Int) (w' : World) : Prop :=
  w' = w ∧ t2 = (Y : Int) ∧ t8 = (s : Int) ∧ t9 = (y1 : Int) ∧ t10 = (y0 : Int) ∧ t14 = (u0 : Int) ∧ t15 = (Q1 : Int) ∧ t17 = (R1 : Int) ∧ ∃ q r : Nat, t18 = (q : Int) ∧ t16 = (r : Int) ∧ Guess R1 u0 Y y1 y0 q r ∧ r < 4294967296 ∧ q ≤ 4294967297
theorem guess_wrap {U y1 : Nat} (hU : U < B64) (h1 : 0 < y1) : IntKind.u64.wrap ((U : Int) - IntKind.u64.wrap (((U / y1 : Nat) : Int) * (y1 : Int))) = ((U - U / y1 * y1 : Nat) : Int) ∧ U - U / y1 * y1 < y1 := by
  have hB := B64v
  have hd := Nat.div_mul_le_self U y1
  have h2 := Nat.div_add_mod U y1
  have h3 := Nat.mod_lt U h1
  have h4 : y1 * (U / y1) = U / y1 * y1 := Nat.mul_comm _ _
  have e : ((U / y1 : Nat) : Int) * (y1 : Int) = ((U / y1 * y1 : Nat) : Int) := by push_cast; rfl
  rw [e]
  generalize U / y1 * y1 = A at *
  refine ⟨?_, by omega⟩
  rw [wrap_u64' (x := (A : Int)) (by omega) (by omega), wrap_u64' (by omega) (by omega)]
  omega
theorem exit1 {w : World} {Y s y1 y0 u0 Q1 R1 : Nat} (eY : Y = y1 * 4294967296 + y0) (hy1lo : 2147483648 ≤ y1) (hy1hi : y1 < 4294967296) (hy0lt : y0 < 4294967296) (hu0lt : u0 < 4294967296) (hR : R1 < Y) :
    semI pr .u64 (binOp .quo tU64 (.int .u64 (R1 : Int)) (.int .u64 (y1 : Int))) w fun x9 w8 => J2r w Y s y1 y0 u0 Q1 R1 Y s y1 y0 u0 Q1 (IntKind.u64.wrap ((R1 : Int) - IntKind.u64.wrap (x9 * (y1 : Int)))) R1 x9 w8 := by
  have hB := B64v
  obtain ⟨k1, k2, k3⟩ := Guess.first (u := u0) eY hy1lo hy0lt hu0lt hR
  obtain ⟨e6, hm⟩ := guess_wrap (U := R1) (y1 := y1) (by omega) (by omega)
  refine semQuo (by omega) (by omega) ?_
  rw [e6]
  exact ⟨rfl, rfl, rfl, rfl, rfl, rfl, rfl, rfl, _, _, rfl, rfl, k1, by omega, k2⟩

theorem Div64_spec {w : World} {hi lo y : Nat} (hh : hi < y) (hl : lo < B64) (hy : y < B64) :
    Calls pr bits_Div64_id #[.int .u64 (hi : Int), .int .u64 (lo : Int), .int .u64 (y : Int)] w fun e w' => Ahead w w' ∧ e = .returned (.tuple #[.int .u64 (((hi * B64 + lo) / y : Nat) : Int), .int .u64 (((hi * B64 + lo) % y : Nat) : Int)]) := by
  have hB := B64v
  obtain ⟨s, hs⟩ : ∃ s, s = 64 - bl y := ⟨_, rfl⟩
  have hbl : bl y ≤ 64 := bl_le_iff.2 hy
  have hbp : 0 < bl y := bl_pos (by omega)
  obtain ⟨Y, hY⟩ : ∃ Y, Y = y * 2 ^ s := ⟨_, rfl⟩
  obtain ⟨M, hM⟩ : ∃ M, M = (hi * B64 + lo) * 2 ^ s := ⟨_, rfl⟩
  have hp : 0 < 2 ^ s := Nat.pow_pos (by omega)
  have hYlo : 9223372036854775808 ≤ Y := by
    have h1 : 2 ^ (bl y - 1) ≤ y := by
      rcases Nat.lt_or_ge y (2 ^ (bl y - 1)) with h | h
      · have := bl_le h; omega
      · exact h
    have h2 : (2 : Nat) ^ (bl y - 1) * 2 ^ s = 9223372036854775808 := by rw [← Nat.pow_add, show bl y - 1 + s = 63 by omega]
    rw [hY, ← h2]
    exact Nat.mul_le_mul_right _ h1
  have hYhi : Y < 18446744073709551616 := by
    have h1 := bl_le_iff.1 (Nat.le_refl (bl y))
    have h2 : (2 : Nat) ^ bl y * 2 ^ s = 18446744073709551616 := by rw [← Nat.pow_add, show bl y + s = 64 by omega]
    rw [hY, ← h2]
    exact Nat.mul_lt_mul_of_pos_right h1 hp
  -- the parts
  obtain ⟨y1, hy1⟩ : ∃ y1, y1 = Y / 4294967296 := ⟨_, rfl⟩
  obtain ⟨y0, hy0⟩ : ∃ y0, y0 = Y % 4294967296 := ⟨_, rfl⟩
  obtain ⟨U, hU⟩ : ∃ U, U = M / 18446744073709551616 := ⟨_, rfl⟩
  obtain ⟨L, hL⟩ : ∃ L, L = M % 18446744073709551616 := ⟨_, rfl⟩
  obtain ⟨u1, hu1⟩ : ∃ u1, u1 = L / 4294967296 := ⟨_, rfl⟩
  obtain ⟨u0, hu0⟩ : ∃ u0, u0 = L % 4294967296 := ⟨_, rfl⟩
  have eY : Y = y1 * 4294967296 + y0 := by omega
  have hUY : U < Y := by
    rw [hU, Nat.div_lt_iff_lt_mul (by omega), hM, hY, Nat.mul_right_comm]
    refine Nat.mul_lt_mul_of_pos_right ?_ hp
    rw [← hB]
    calc hi * B64 + lo < hi * B64 + B64 := by omega
      _ = (hi + 1) * B64 := by rw [Nat.succ_mul]
      _ ≤ y * B64 := Nat.mul_le_mul_right _ hh
  have hu1lt : u1 < 4294967296 := by omega
  have hu0lt : u0 < 4294967296 := by omega
  have hy0lt : y0 < 4294967296 := by omega
  have hy1lo : 2147483648 ≤ y1 := by omega
  have hy1hi : y1 < 4294967296 := by omega
  obtain ⟨Q1, hQ1⟩ : ∃ Q1, Q1 = (U * 4294967296 + u1) / Y := ⟨_, rfl⟩
  obtain ⟨R1, hR1⟩ : ∃ R1, R1 = (U * 4294967296 + u1) % Y := ⟨_, rfl⟩
  have hR1lt : R1 < Y := by rw [hR1]; exact Nat.mod_lt _ (by omega)
  have hQ1lt := quot_lt hu1lt hUY
  rw [← hQ1] at hQ1lt
  obtain ⟨Q0, hQ0⟩ : ∃ Q0, Q0 = (R1 * 4294967296 + u0) / Y := ⟨_, rfl⟩
  have hQ0lt := quot_lt hu0lt hR1lt
  rw [← hQ0] at hQ0lt
  have eM : M = (U * 4294967296 + u1) * 4294967296 + u0 := by omega
  have hq : (hi * B64 + lo) / y = Q1 * 4294967296 + Q0 := by
    have e1 : (hi * B64 + lo) / y = M / Y := by rw [hM, hY, Nat.mul_div_mul_right _ _ hp]
    have d1 := Nat.div_add_mod (U * 4294967296 + u1) Y
    have d0 := Nat.div_add_mod (R1 * 4294967296 + u0) Y
    rw [← hQ1, ← hR1] at d1
    have m0 := Nat.mod_lt (R1 * 4294967296 + u0) (show Y > 0 by omega)
    rw [← hQ0] at d0
    rw [e1]
    refine Nat.div_eq_of_lt_le ?_ ?_
    · rw [eM, ← d1, Nat.add_mul, Nat.add_mul, Nat.mul_comm Y Q1] 
      have : Q1 * 4294967296 * Y = Q1 * Y * 4294967296 := Nat.mul_right_comm _ _ _
      have e3 : Y * Q0 = Q0 * Y := Nat.mul_comm _ _
      omega
    · rw [eM, ← d1, Nat.add_mul, Nat.succ_mul, Nat.add_mul, Nat.mul_comm Y Q1]
      have : Q1 * 4294967296 * Y = Q1 * Y * 4294967296 := Nat.mul_right_comm _ _ _
      have e3 : Y * Q0 = Q0 * Y := Nat.mul_comm _ _
      omega
  have hr : (R1 * 4294967296 + u0) % Y / 2 ^ s = (hi * B64 + lo) % y := by
    have e2 : (R1 * 4294967296 + u0) % Y = M % Y := by
      rw [eM, hR1]
      have d1 := Nat.div_add_mod (U * 4294967296 + u1) Y
      rw [← hQ1] at d1
      conv => rhs; rw [← d1, Nat.add_mul, Nat.mul_assoc, Nat.add_assoc, Nat.mul_add_mod]
    rw [e2, hM, hY, Nat.mul_mod_mul_right, Nat.mul_div_cancel _ hp]
  refine bits_Div64_vc hi lo y w _ (J0r w Y s y1 y0 U u1 u0) (fun _ _ _ _ _ _ _ t15 _ _ => t15.toNat) (J2r w Y s y1 y0 u0 Q1 R1)
    (fun _ _ _ _ _ _ _ _ t18 _ => t18.toNat) ?_ ?_ ?_
  · refine br_false (by simp; omega) (br_false (by simp; omega) (br_intro (fun h0 => ?_) (fun h0 => ?_)))
    · have h0' : hi = 0 := by simpa using h0
      refine fixQuo hl (by omega) (fixRem hl (by omega) fun w1 ha => ⟨ha, ?_⟩)
      rw [h0', Nat.zero_mul, Nat.zero_add]
    · have hlz := Try.bits_LeadingZeros64 (y : Int) w (by omega) (by omega)
      refine Calls.mono hlz ?_
      rintro e w1 ⟨rfl, rfl⟩
      have e3 : (64 : Int) - (Lib.bitLen ((y : Int)).toNat : Int) = (s : Int) := by
        rw [Int.toNat_natCast, bitLen_eq hy]; omega
      rw [e3]
      have e4 : IntKind.u64.wrap (s : Int) = (s : Int) := wrap_u64' (by omega) (by omega)
      have e5 : IntKind.u64.wrap (64 - (s : Int)) = ((64 - s : Nat) : Int) := by rw [wrap_u64' (by omega) (by omega)]; omega
      refine ⟨_, rfl, ?_⟩
      rw [e4, e5]
      refine semShl (by omega) (semShl (by omega) (semShr (by omega) (semShl (by omega) ?_)))
      have f1 : y * 2 ^ s % B64 = Y := by rw [← hY]; exact Nat.mod_eq_of_lt (by omega)
      have hhi : hi * 2 ^ s < B64 := by
        have : hi * 2 ^ s < y * 2 ^ s := Nat.mul_lt_mul_of_pos_right hh hp
        omega
      have eM2 : M = hi * 2 ^ s * 18446744073709551616 + lo * 2 ^ s := by rw [hM, Nat.add_mul, hB, Nat.mul_right_comm]
      have hlo2 : lo * 2 ^ s / 18446744073709551616 = lo / 2 ^ (64 - s) := by
        rw [show (18446744073709551616 : Nat) = 2 ^ (64 - s) * 2 ^ s by rw [← Nat.pow_add, show 64 - s + s = 64 by omega], Nat.mul_div_mul_right _ _ hp]
      have hlos : lo / 2 ^ (64 - s) < 2 ^ s := by
        rw [Nat.div_lt_iff_lt_mul (Nat.pow_pos (by omega)), ← Nat.pow_add, show s + (64 - s) = 64 by omega]
        omega
      have f2 : (hi * 2 ^ s % B64) ||| (lo / 2 ^ (64 - s)) = U := by
        rw [Nat.mod_eq_of_lt hhi, Nat.mul_comm, ← Nat.two_pow_add_eq_or_of_lt hlos, hU, eM2]
        rw [Nat.mul_comm (hi * 2 ^ s), Nat.mul_add_div (by omega), hlo2, Nat.mul_comm]
      have f3 : lo * 2 ^ s % B64 = L := by rw [hL, eM2, Nat.mul_comm (hi * 2 ^ s), Nat.mul_add_mod, hB]
      have hlo3 : lo / 2 ^ (64 - s) < B64 := Nat.lt_of_le_of_lt (Nat.div_le_self _ _) hl
      rw [f1, orI_nat (Nat.mod_lt _ (by omega)) hlo3, f2, f3, show (4294967295 : Int) = ((4294967295 : Nat) : Int) from rfl, andI_nat (by omega) (by omega), andI_nat (by omega) (by omega)]
      have g1 : ∀ x : Nat, Int.fdiv (x : Int) (2 ^ (32 : Nat)) = ((x / 4294967296 : Nat) : Int) := fun x => by
        have := fdivN x 32
        exact this
      have g2 : ∀ x : Nat, x &&& 4294967295 = x % 4294967296 := fun x => Nat.and_two_pow_sub_one_eq_mod x 32
      rw [g1, g1, g2, g2, ← hy1, ← hu1, ← hy0, ← hu0]
      obtain ⟨k1, k2, k3⟩ := Guess.first (u := u1) eY hy1lo hy0lt hu1lt hUY
      obtain ⟨e6, hm⟩ := guess_wrap (U := U) (y1 := y1) (by omega) (by omega)
      refine semQuo (by omega) (by omega) ?_
      rw [e6]
      exact ⟨rfl, rfl, rfl, rfl, rfl, rfl, rfl, rfl, _, _, rfl, rfl, k1, by omega, k2⟩
  · rintro t2 t8 t9 t10 t11 t13 t14 t15 t16 w' ⟨rfl, rfl, rfl, rfl, rfl, rfl, rfl, rfl, q, r, rfl, rfl, hg, hr', hqm⟩
    have out : ∀ {t : Int}, t = (Q1 : Int) → IntKind.u64.wrap (IntKind.u64.wrap (IntKind.u64.wrap ((U : Int) * 4294967296) + (u1 : Int)) - IntKind.u64.wrap (t * (Y : Int))) = (R1 : Int) := by
      rintro t rfl
      rw [rest_wrap (by omega) (by omega) hQ1, hR1]
    have e2 : IntKind.u64.wrap ((r : Int) + (y1 : Int)) = ((r + y1 : Nat) : Int) := by rw [wrap_u64' (by omega) (by omega)]; omega
    have dec : Q1 < q → br (decide (IntKind.u64.wrap ((r : Int) + (y1 : Int)) ≥ 4294967296))
        (semI pr .u64 (binOp .quo tU64 (.int .u64 (IntKind.u64.wrap (IntKind.u64.wrap (IntKind.u64.wrap ((U : Int) * 4294967296) + (u1 : Int)) - IntKind.u64.wrap (IntKind.u64.wrap ((q : Int) - 1) * (Y : Int))))) (.int .u64 (y1 : Int))) w' fun x9 w8 =>
          J2r w' Y s y1 y0 u0 Q1 R1 Y s y1 y0 u0 (IntKind.u64.wrap ((q : Int) - 1)) (IntKind.u64.wrap (IntKind.u64.wrap (IntKind.u64.wrap (IntKind.u64.wrap ((U : Int) * 4294967296) + (u1 : Int)) - IntKind.u64.wrap (IntKind.u64.wrap ((q : Int) - 1) * (Y : Int))) - IntKind.u64.wrap (x9 * (y1 : Int))))
            (IntKind.u64.wrap (IntKind.u64.wrap (IntKind.u64.wrap ((U : Int) * 4294967296) + (u1 : Int)) - IntKind.u64.wrap (IntKind.u64.wrap ((q : Int) - 1) * (Y : Int)))) x9 w8)
        (J0r w' Y s y1 y0 U u1 u0 Y s y1 y0 U u1 u0 (IntKind.u64.wrap ((q : Int) - 1)) (IntKind.u64.wrap ((r : Int) + (y1 : Int))) w' ∧ (IntKind.u64.wrap ((q : Int) - 1)).toNat < ((q : Int)).toNat) := by
      intro hlt
      have hg' := hg.less (by omega) (by omega)
      have e1 : IntKind.u64.wrap ((q : Int) - 1) = ((q - 1 : Nat) : Int) := by rw [wrap_u64' (by omega) (by omega)]; omega
      refine br_intro (fun h => ?_) (fun h => ?_)
      · rw [e2] at h
        have hf := hg'.done (by omega) (hg'.far eY hy0lt (by omega) (by simp at h; omega))
        rw [out (by rw [e1]; omega), e1, show q - 1 = Q1 by omega]
        exact exit1 eY hy1lo hy1hi hy0lt hu0lt hR1lt
      · rw [e2] at h ⊢
        rw [e1]
        exact ⟨⟨rfl, rfl, rfl, rfl, rfl, rfl, rfl, rfl, _, _, rfl, rfl, hg', by simp at h; omega, by omega⟩, by omega⟩
    refine br_intro (fun h1 => dec (by simp at h1; omega)) (fun h1 => ?_)
    have h1' : q < 4294967296 := by simp at h1; omega
    have m1 : q * y0 ≤ 4294967295 * 4294967295 := Nat.mul_le_mul (by omega) (by omega)
    have e3 : IntKind.u64.wrap ((q : Int) * (y0 : Int)) = ((q * y0 : Nat) : Int) := by
      have e : (q : Int) * (y0 : Int) = ((q * y0 : Nat) : Int) := by push_cast; rfl
      rw [e, wrap_u64' (by omega) (by omega)]
    have e4 : IntKind.u64.wrap (IntKind.u64.wrap (4294967296 * (r : Int)) + (u1 : Int)) = ((4294967296 * r + u1 : Nat) : Int) := by
      rw [wrap_u64' (x := 4294967296 * (r : Int)) (by omega) (by omega), wrap_u64' (by omega) (by omega)]; omega
    rw [e3, e4]
    have ho := hg.over eY
    refine br_intro (fun h2 => dec ?_) (fun h2 => ?_)
    · have := ho.1 (by simp at h2; omega)
      rw [hQ1, Nat.div_lt_iff_lt_mul (by omega)]
      exact this
    · have hle : q * Y ≤ U * 4294967296 + u1 := by
        rcases Nat.lt_or_ge (U * 4294967296 + u1) (q * Y) with h | h
        · have := ho.2 h; simp at h2; omega
        · exact h
      have hf := hg.done (by omega) hle
      rw [out (by omega), show q = Q1 by omega]
      exact exit1 eY hy1lo hy1hi hy0lt hu0lt hR1lt
  · rintro t2 t8 t9 t10 t14 t15 t16 t17 t18 w' ⟨rfl, rfl, rfl, rfl, rfl, rfl, rfl, rfl, q, r, rfl, rfl, hg, hr', hqm⟩
    have out : ∀ {t : Int}, t = (Q0 : Int) → IntKind.u64.wrap (IntKind.u64.wrap (IntKind.u64.wrap ((R1 : Int) * 4294967296) + (u0 : Int)) - IntKind.u64.wrap (t * (Y : Int))) = (((R1 * 4294967296 + u0) % Y : Nat) : Int) := by
      rintro t rfl
      rw [rest_wrap (by omega) (by omega) hQ0]
    have e2 : IntKind.u64.wrap ((r : Int) + (y1 : Int)) = ((r + y1 : Nat) : Int) := by rw [wrap_u64' (by omega) (by omega)]; omega
    have eq : IntKind.u64.wrap (IntKind.u64.wrap ((Q1 : Int) * 4294967296) + (Q0 : Int)) = (((hi * B64 + lo) / y : Nat) : Int) := by
      rw [hq, wrap_u64' (x := (Q1 : Int) * 4294967296) (by omega) (by omega), wrap_u64' (by omega) (by omega)]; omega
    have fin : semI pr .u64 (binOp .shr tU64 (.int .u64 (((R1 * 4294967296 + u0) % Y : Nat) : Int)) (.int .u64 (s : Int))) w' fun x10 w9 =>
        Ahead w' w9 ∧ Ending.returned (.tuple #[.int .u64 (((hi * B64 + lo) / y : Nat) : Int), .int .u64 x10]) = .returned (.tuple #[.int .u64 (((hi * B64 + lo) / y : Nat) : Int), .int .u64 (((hi * B64 + lo) % y : Nat) : Int)]) := by
      refine semShr (by omega) ⟨Ahead.refl _, ?_⟩
      rw [hr]
    have dec : Q0 < q → br (decide (IntKind.u64.wrap ((r : Int) + (y1 : Int)) ≥ 4294967296))
        (semI pr .u64 (binOp .shr tU64 (.int .u64 (IntKind.u64.wrap (IntKind.u64.wrap (IntKind.u64.wrap ((R1 : Int) * 4294967296) + (u0 : Int)) - IntKind.u64.wrap (IntKind.u64.wrap ((q : Int) - 1) * (Y : Int))))) (.int .u64 (s : Int))) w' fun x10 w9 =>
          Ahead w' w9 ∧ Ending.returned (.tuple #[.int .u64 (IntKind.u64.wrap (IntKind.u64.wrap ((Q1 : Int) * 4294967296) + IntKind.u64.wrap ((q : Int) - 1))), .int .u64 x10]) = .returned (.tuple #[.int .u64 (((hi * B64 + lo) / y : Nat) : Int), .int .u64 (((hi * B64 + lo) % y : Nat) : Int)]))
        (J2r w' Y s y1 y0 u0 Q1 R1 Y s y1 y0 u0 Q1 (IntKind.u64.wrap ((r : Int) + (y1 : Int))) R1 (IntKind.u64.wrap ((q : Int) - 1)) w' ∧ (IntKind.u64.wrap ((q : Int) - 1)).toNat < ((q : Int)).toNat) := by
      intro hlt
      have hg' := hg.less (by omega) (by omega)
      have e1 : IntKind.u64.wrap ((q : Int) - 1) = ((q - 1 : Nat) : Int) := by rw [wrap_u64' (by omega) (by omega)]; omega
      refine br_intro (fun h => ?_) (fun h => ?_)
      · rw [e2] at h
        have hf := hg'.done (by omega) (hg'.far eY hy0lt (by omega) (by simp at h; omega))
        rw [out (by rw [e1]; omega), e1, show q - 1 = Q0 by omega, eq]
        exact fin
      · rw [e2] at h ⊢
        rw [e1]
        exact ⟨⟨rfl, rfl, rfl, rfl, rfl, rfl, rfl, rfl, _, _, rfl, rfl, hg', by simp at h; omega, by omega⟩, by omega⟩
    refine br_intro (fun h1 => dec (by simp at h1; omega)) (fun h1 => ?_)
    have h1' : q < 4294967296 := by simp at h1; omega
    have m1 : q * y0 ≤ 4294967295 * 4294967295 := Nat.mul_le_mul (by omega) (by omega)
    have e3 : IntKind.u64.wrap ((q : Int) * (y0 : Int)) = ((q * y0 : Nat) : Int) := by
      have e : (q : Int) * (y0 : Int) = ((q * y0 : Nat) : Int) := by push_cast; rfl
      rw [e, wrap_u64' (by omega) (by omega)]
    have e4 : IntKind.u64.wrap (IntKind.u64.wrap (4294967296 * (r : Int)) + (u0 : Int)) = ((4294967296 * r + u0 : Nat) : Int) := by
      rw [wrap_u64' (x := 4294967296 * (r : Int)) (by omega) (by omega), wrap_u64' (by omega) (by omega)]; omega
    rw [e3, e4]
    have ho := hg.over eY
    refine br_intro (fun h2 => dec ?_) (fun h2 => ?_)
    · have := ho.1 (by simp at h2; omega)
      rw [hQ0, Nat.div_lt_iff_lt_mul (by omega)]
      exact this
    · have hle : q * Y ≤ R1 * 4294967296 + u0 := by
        rcases Nat.lt_or_ge (R1 * 4294967296 + u0) (q * Y) with h | h
        · have := ho.2 h; simp at h2; omega
        · exact h
      have hf := hg.done (by omega) hle
      rw [out (by omega), show q = Q0 by omega, eq]
      exact fin

end Nat
end Go.Proofs.Ytfdajpjiengihaa
namespace Go.Proofs.Ytfdajpjiengihaa
open Go Go.RowKit Eng Sp Dg
set_option linter.unusedVariables false
set_option linter.unusedSimpArgs false
set_option maxRecDepth 100000
namespace Nat

theorem drop_set_self (l : List Nat) (i q : Nat) (h : i < l.length) : (l.set i q).drop i = q :: l.drop (i + 1) := by
  apply List.ext_getElem?
  intro k
  rw [List.getElem?_drop]
  cases k with
  | zero => simp [h]
  | succ k =>
    rw [List.getElem?_set_ne (by omega)]
    simp; congr 1; omega
theorem quot_limb {r x d B : Nat} (hr : r < d) (hx : x < B) : (r * B + x) / d < B := by
  rw [Nat.div_lt_iff_lt_mul (by omega)]
  have : (r + 1) * B ≤ d * B := Nat.mul_le_mul_right _ hr
  rw [Nat.succ_mul] at this
  rw [Nat.mul_comm B d]; omega

end Nat
end Go.Proofs.Ytfdajpjiengihaa
namespace Go.Proofs.Ytfdajpjiengihaa
open Go Go.RowKit Eng Sp Dg
set_option linter.unusedVariables false
set_option linter.unusedSimpArgs false
set_option maxRecDepth 100000
namespace Sb
open _root_.Go.Proofs.Ytfdajpjiengihaa.Nat (OwnNil)
open _root_.Go.Proofs.Ytfdajpjiengihaa.Mul (Only Off)

/-- The block's cells. -/
def Blk (w : World) (b : Nat) (cs : Array Value) : Prop := ∃ t, w.heap[b]? = some (.cells cs t (0, 0))
theorem Blk.lt {w : World} {b : Nat} {cs : Array Value} (h : Blk w b cs) : b < w.heap.size := by
  obtain ⟨t, h⟩ := h; exact (Array.getElem?_eq_some_iff.1 h).1
theorem Blk.ahead {w w' : World} {b : Nat} {cs : Array Value} (h : Blk w b cs) (ha : Ahead w w') : Blk w' b cs := by
  have hl := h.lt
  obtain ⟨t, h⟩ := h; exact ⟨t, by rw [Below.block ha b hl]; exact h⟩
theorem Blk.only {w w' : World} {b k : Nat} {cs : Array Value} (h : Blk w b cs) (ho : Only k w w') (hne : b ≠ k) : Blk w' b cs := by
  obtain ⟨t, h⟩ := h; exact ⟨t, by rw [ho.2.2.2.2 b hne]; exact h⟩
theorem Blk.cell {w : World} {b i : Nat} {cs : Array Value} {v : Value} (h : Blk w b cs) (hc : cs[i]? = some v) : w.cell? ⟨b, i, none⟩ = some v := by
  obtain ⟨t, h⟩ := h
  simp [World.cell?, h, hc]

theorem newC_b {w : World} {cs : Array Value} {t : TypeId} {K : Addr → World → Prop} (h : ∀ b w', b = w.heap.size → Ahead w w' → w'.heap.size = b + 1 → Blk w' b cs → K ⟨b, 0, none⟩ w') : newC w cs t K :=
  h _ _ rfl (Ahead.alloc _ _) (size_alloc _ _) ⟨t, get_alloc _ _⟩

/-- Nothing but the block, which holds no limb, has changed. -/
structure Upd (b : Nat) (w w' : World) : Prop where
  only : Only b w w'
  rd : ∀ s l, Rd .u64 w s l → Rd .u64 w' s l
theorem Upd.trans {b : Nat} {w w' w'' : World} (h : Upd b w w') (h' : Upd b w' w'') : Upd b w w'' := ⟨h.only.trans h'.only, fun s l hr => h'.rd s l (h.rd s l hr)⟩
theorem Upd.ahead {b : Nat} {w0 w w' : World} (h : Upd b w w') (ha : Ahead w0 w) (hb : w0.heap.size ≤ b) : Ahead w0 w' := h.only.ahead ha hb
theorem Upd.size {b : Nat} {w w' : World} (h : Upd b w w') : w'.heap.size = w.heap.size := h.only.2.2.2.1
theorem Upd.own {b base : Nat} {w w' : World} (h : Upd b w w') {s : Slc} {l : List Nat} (hr : OwnNil base w s l) (ho : b < base) : OwnNil base w' s l := h.only.ownNil hr ho
theorem Upd.blk {b k : Nat} {w w' : World} {cs : Array Value} (h : Upd k w w') (hr : Blk w b cs) (hne : b ≠ k) : Blk w' b cs := hr.only h.only hne
theorem Upd.cell {b : Nat} {w w' : World} (h : Upd b w w') {ad : Addr} {v : Value} (hne : ad.block ≠ b) (hc : w.cell? ad = some v) : w'.cell? ad = some v := by
  rw [World.cell?_of_block (h.only.2.2.2.2 _ hne)]; exact hc

def noU (cs : Array Value) : Bool := cs.toList.all fun v => match v with
  | .int .u64 _ => false
  | _ => true
theorem off_blk {w : World} {b : Nat} {cs : Array Value} {s : Slc} {l : List Int} (h : Blk w b cs) (hn : noU cs = true) (hr : Rd .u64 w s l) : Off b s := by
  intro ad e hp hb
  obtain ⟨ad', e', hc⟩ := hr.get 0 (by have := hr.n; omega)
  rw [e] at e'
  obtain rfl := Option.some.inj e'
  obtain ⟨t, h⟩ := h
  have hadd : ad.add 0 = ad := by simp [Addr.add]
  rw [hadd, World.cell?, hb, h] at hc
  simp only at hc
  split at hc
  · cases hc
  · have hm := Array.mem_of_getElem? hc
    unfold noU at hn
    have := List.all_eq_true.1 hn _ (Array.mem_toList_iff.2 hm)
    simp at this

theorem stC_b (i : Nat) {w : World} {b : Nat} {cs : Array Value} {ad : Addr} {v : Value} {K : World → Prop} (h : Blk w b cs) (hi : i < cs.size) (hn : noU cs = true)
    (hk : ∀ w', Upd b w w' → Blk w' b (cs.setIfInBounds i v) → K w') (hA : ad = ⟨b, i, none⟩ := by first | rfl | exact add_off) : stC ad v w K := by
  subst hA
  obtain ⟨t, hh⟩ := h
  have ho : Only b w (w.setCell ⟨b, i, none⟩ v) := Only.setCell b i w v
  refine ⟨⟨cs[i], by simp [World.cell?, hh, hi]⟩, by simp [World.frozen?, hh], hk _ ⟨ho, fun s l hr => ho.rd hr (off_blk ⟨t, hh⟩ hn hr)⟩ ⟨t, ?_⟩⟩
  have hlt := (Array.getElem?_eq_some_iff.1 hh).1
  have hget := (Array.getElem?_eq_some_iff.1 hh).2
  simp [World.setCell, Array.getElem?_modify, hh]
theorem ldB_b (i : Nat) {w : World} {b : Nat} {cs : Array Value} {ad : Addr} {x : Bool} {K : Bool → Prop} (h : Blk w b cs) (hc : cs[i]? = some (.bool x)) (hk : K x) (hA : ad = ⟨b, i, none⟩ := by first | rfl | exact add_off) : ldB ad w K := by
  subst hA; exact ⟨x, h.cell hc, hk⟩
theorem ldS_b (i : Nat) {w : World} {b : Nat} {cs : Array Value} {ad : Addr} {x : Slc} {K : Slc → Prop} (h : Blk w b cs) (hc : cs[i]? = some x.v) (hk : K x) (hA : ad = ⟨b, i, none⟩ := by first | rfl | exact add_off) : ldS ad w K := by
  subst hA; exact ⟨x, h.cell hc, hk⟩

abbrev c3 (x : Bool) (s : Slc) (e : Int) : Array Value := #[.bool x, s.v, .int .i64 e]
abbrev c2 (x : Bool) (s : Slc) : Array Value := #[.bool x, s.v]
theorem get2 {w : World} {b : Nat} {x : Bool} {s : Slc} {cs : Array Value} {K : Bool → Slc → Prop} (h : Blk w b cs) (h0 : cs[0]? = some (.bool x)) (h1 : cs[1]? = some s.v) (hk : K x s) :
    ldB ⟨b, 0, none⟩ w fun x' => ldS ((⟨b, 0, none⟩ : Addr).add 1) w fun s' => K x' s' :=
  ldB_b 0 h h0 (ldS_b 1 h h1 hk)
theorem set2 {w : World} {b : Nat} {x0 x : Bool} {s0 s : Slc} {K : World → Prop} (h : Blk w b (c2 x0 s0)) (hk : ∀ w', Upd b w w' → Blk w' b (c2 x s) → K w') :
    stC ⟨b, 0, none⟩ (.bool x) w fun w1 => stC ((⟨b, 0, none⟩ : Addr).add 1) s.v w1 fun w2 => K w2 :=
  stC_b 0 h (by simp) rfl fun w1 u1 h1 => stC_b 1 (cs := c2 x s0) h1 (by simp) rfl fun w2 u2 h2 => hk w2 (u1.trans u2) h2
theorem ret2 {w : World} {b : Nat} {x0 x : Bool} {s0 s : Slc} {K : Bool → Slc → World → Prop} (h : Blk w b (c2 x0 s0)) (hk : ∀ w', Upd b w w' → Blk w' b (c2 x s) → K x s w') :
    stC ⟨b, 0, none⟩ (.bool x) w fun w1 => stC ((⟨b, 0, none⟩ : Addr).add 1) s.v w1 fun w2 =>
      ldB ⟨b, 0, none⟩ w2 fun x' => ldS ((⟨b, 0, none⟩ : Addr).add 1) w2 fun s' => K x' s' w2 :=
  set2 h fun w' u h' => get2 h' rfl rfl (hk w' u h')

end Sb
end Go.Proofs.Ytfdajpjiengihaa
namespace Go.Proofs.Ytfdajpjiengihaa
open Go Go.RowKit Eng Sp Dg
set_option linter.unusedVariables false
set_option linter.unusedSimpArgs false
namespace L2

/-- Types of rows: no local variable's block has such a type. -/
def rowTy (t : TypeId) : Bool := t == tU64 || t == tInt || t == tU64s || t == tInts || t == 999999 || t == 25
def noU (cs : Array Value) : Bool := cs.toList.all fun v => match v with
  | .int .u64 _ => false
  | _ => true
/-- The block's cells. -/
def Blt (w : World) (b : Nat) (t : TypeId) (cs : Array Value) : Prop := w.heap[b]? = some (Obj.cells cs t (0, 0))
/-- Rows of numbers stay, and every limb. -/
structure Ext (w w' : World) : Prop where
  size : w.heap.size ≤ w'.heap.size
  row : ∀ (k : Nat) (cs : Array Value) (t : TypeId) (m : Nat × Nat), w.heap[k]? = some (Obj.cells cs t m) → rowTy t = true → w'.heap[k]? = some (Obj.cells cs t m)
  cell : ∀ (ad : Addr) (x : Int), w.cell? ad = some (.int .u64 x) → w'.cell? ad = some (.int .u64 x)
theorem Ext.refl (w : World) : Ext w w := ⟨Nat.le_refl _, fun _ _ _ _ h _ => h, fun _ _ h => h⟩
theorem Ext.trans {a b c : World} (h : Ext a b) (k : Ext b c) : Ext a c :=
  ⟨Nat.le_trans h.size k.size, fun i cs t m hi ht => k.row i cs t m (h.row i cs t m hi ht) ht, fun ad x hx => k.cell ad x (h.cell ad x hx)⟩
theorem Ext.of_ahead {a b : World} (h : Ahead a b) : Ext a b :=
  ⟨h.size, fun k cs t m hk _ => by rw [Below.block h k (Array.getElem?_eq_some_iff.1 hk).1]; exact hk, fun ad x hx => h.cell hx⟩
theorem _root_.Go.Proofs.Ytfdajpjiengihaa.Eng.Ahead.ext {a b : World} (h : Ahead a b) : Ext a b := Ext.of_ahead h

theorem Blt.lt {w : World} {b : Nat} {t : TypeId} {cs : Array Value} (h : Blt w b t cs) : b < w.heap.size := (Array.getElem?_eq_some_iff.1 h).1
theorem Blt.ahead {w w' : World} {b : Nat} {t : TypeId} {cs : Array Value} (h : Blt w b t cs) (ha : Ahead w w') : Blt w' b t cs := by
  unfold Blt; rw [Below.block ha b h.lt]; exact h
theorem Blt.cell {w : World} {b i : Nat} {t : TypeId} {cs : Array Value} {v : Value} (h : Blt w b t cs) (hc : cs[i]? = some v) : w.cell? ⟨b, i, none⟩ = some v := by
  unfold Blt at h
  simp [World.cell?, h, hc]

theorem newC_t {w : World} {cs : Array Value} {t : TypeId} {K : Addr → World → Prop} (h : ∀ b w', b = w.heap.size → Ahead w w' → w'.heap.size = b + 1 → Blt w' b t cs → K ⟨b, 0, none⟩ w') : newC w cs t K :=
  h _ _ rfl (Ahead.alloc _ _) (size_alloc _ _) (get_alloc _ _)

/-- Nothing but the block has changed; it holds no limb, before and behind. -/
structure Upt (b : Nat) (w w' : World) : Prop where
  os : w'.os = w.os
  tape : w'.tape = w.tape
  output : w'.output = w.output
  size : w'.heap.size = w.heap.size
  block : ∀ k, k ≠ b → w'.heap[k]? = w.heap[k]?
  ext : Ext w w'
theorem Upt.trans {b : Nat} {x y z : World} (h : Upt b x y) (k : Upt b y z) : Upt b x z :=
  ⟨k.os.trans h.os, k.tape.trans h.tape, k.output.trans h.output, k.size.trans h.size, fun i hi => (k.block i hi).trans (h.block i hi), h.ext.trans k.ext⟩
theorem Upt.ahead {b : Nat} {w0 w w' : World} (h : Upt b w w') (ha : Ahead w0 w) (hb : w0.heap.size ≤ b) : Ahead w0 w' :=
  Below.trans ha ⟨h.os, h.tape, h.output, Nat.le_of_eq h.size.symm, fun k hk => h.block k (by omega)⟩
theorem Upt.blt {b k : Nat} {w w' : World} {t : TypeId} {cs : Array Value} (h : Upt k w w') (hr : Blt w b t cs) (hne : b ≠ k) : Blt w' b t cs := by
  unfold Blt; rw [h.block b hne]; exact hr

theorem no_limb {w : World} {b : Nat} {t : TypeId} {cs : Array Value} (h : Blt w b t cs) (hn : noU cs = true) (ad : Addr) (x : Int) (hc : w.cell? ad = some (.int .u64 x)) : ad.block ≠ b := by
  intro hb
  unfold Blt at h
  rw [World.cell?, hb, h] at hc
  simp only at hc
  split at hc
  · cases hc
  · have hm := Array.mem_of_getElem? hc
    unfold noU at hn
    have := List.all_eq_true.1 hn _ (Array.mem_toList_iff.2 hm)
    simp at this

theorem stC_t (i : Nat) {w : World} {b : Nat} {t : TypeId} {cs : Array Value} {ad : Addr} {v : Value} {K : World → Prop} (h : Blt w b t cs) (hi : Nat.blt i cs.size = true) (hn : noU cs = true) (ht : rowTy t = false)
    (hk : ∀ w', Upt b w w' → Blt w' b t (cs.setIfInBounds i v) → K w') (hA : ad = ⟨b, i, none⟩ := by first | rfl | exact add_off) : stC ad v w K := by
  subst hA
  have hi' : i < cs.size := by simpa [Nat.blt_eq] using hi
  have hh : w.heap[b]? = some (Obj.cells cs t (0, 0)) := h
  have hlt := (Array.getElem?_eq_some_iff.1 hh).1
  have hget := (Array.getElem?_eq_some_iff.1 hh).2
  have hblk : ∀ k, k ≠ b → (w.setCell ⟨b, i, none⟩ v).heap[k]? = w.heap[k]? := fun k hk => Below.heap_setCell _ _ _ _ hk
  refine ⟨⟨cs[i], by simp [World.cell?, hh, hi']⟩, by simp [World.frozen?, hh], hk _ ⟨rfl, rfl, rfl, by simp [World.setCell], hblk, ⟨by simp [World.setCell], fun k cs' t' m hk' ht' => ?_, fun ad x hx => ?_⟩⟩ ?_⟩
  · by_cases e : k = b
    · subst e
      rw [hh] at hk'
      have := Option.some.inj hk'
      injection this with h1 h2 h3
      subst h2
      rw [ht] at ht'
      cases ht'
    · rw [hblk k e]; exact hk'
  · have hne := no_limb h hn ad x hx
    rw [World.cell?_of_block (hblk _ hne)]; exact hx
  · unfold Blt
    simp [World.setCell, Array.getElem?_modify, hh]

theorem lt1 {b : Nat} {w : World} (e : b = w.heap.size) {b1 : Nat} {t1 : TypeId} {c1 : Array Value} (h1 : Blt w b1 t1 c1) : b1 < b := by
  subst e
  exact h1.lt
theorem ah2 {w w' : World} (a : Ahead w w') {b1 b2 : Nat} {t1 t2 : TypeId} {c1 c2 : Array Value} (h1 : Blt w b1 t1 c1) (h2 : Blt w b2 t2 c2) : Blt w' b1 t1 c1 ∧ Blt w' b2 t2 c2 := ⟨h1.ahead a, h2.ahead a⟩
theorem up2 {k : Nat} {w w' : World} (u : Upt k w w') {b1 b2 : Nat} {t1 t2 : TypeId} {c1 c2 : Array Value} (h1 : Blt w b1 t1 c1) (h2 : Blt w b2 t2 c2) (d : b1 ≠ k ∧ b2 ≠ k) : Blt w' b1 t1 c1 ∧ Blt w' b2 t2 c2 := by
  obtain ⟨d1, d2⟩ := d
  exact ⟨u.blt h1 d1, u.blt h2 d2⟩
theorem lt2 {b : Nat} {w : World} (e : b = w.heap.size) {b1 b2 : Nat} {t1 t2 : TypeId} {c1 c2 : Array Value} (h1 : Blt w b1 t1 c1) (h2 : Blt w b2 t2 c2) : b1 < b ∧ b2 < b := by
  subst e
  exact ⟨h1.lt, h2.lt⟩
theorem ah3 {w w' : World} (a : Ahead w w') {b1 b2 b3 : Nat} {t1 t2 t3 : TypeId} {c1 c2 c3 : Array Value} (h1 : Blt w b1 t1 c1) (h2 : Blt w b2 t2 c2) (h3 : Blt w b3 t3 c3) : Blt w' b1 t1 c1 ∧ Blt w' b2 t2 c2 ∧ Blt w' b3 t3 c3 := ⟨h1.ahead a, h2.ahead a, h3.ahead a⟩
theorem up3 {k : Nat} {w w' : World} (u : Upt k w w') {b1 b2 b3 : Nat} {t1 t2 t3 : TypeId} {c1 c2 c3 : Array Value} (h1 : Blt w b1 t1 c1) (h2 : Blt w b2 t2 c2) (h3 : Blt w b3 t3 c3) (d : b1 ≠ k ∧ b2 ≠ k ∧ b3 ≠ k) : Blt w' b1 t1 c1 ∧ Blt w' b2 t2 c2 ∧ Blt w' b3 t3 c3 := by
  obtain ⟨d1, d2, d3⟩ := d
  exact ⟨u.blt h1 d1, u.blt h2 d2, u.blt h3 d3⟩
theorem lt3 {b : Nat} {w : World} (e : b = w.heap.size) {b1 b2 b3 : Nat} {t1 t2 t3 : TypeId} {c1 c2 c3 : Array Value} (h1 : Blt w b1 t1 c1) (h2 : Blt w b2 t2 c2) (h3 : Blt w b3 t3 c3) : b1 < b ∧ b2 < b ∧ b3 < b := by
  subst e
  exact ⟨h1.lt, h2.lt, h3.lt⟩
theorem ah4 {w w' : World} (a : Ahead w w') {b1 b2 b3 b4 : Nat} {t1 t2 t3 t4 : TypeId} {c1 c2 c3 c4 : Array Value} (h1 : Blt w b1 t1 c1) (h2 : Blt w b2 t2 c2) (h3 : Blt w b3 t3 c3) (h4 : Blt w b4 t4 c4) : Blt w' b1 t1 c1 ∧ Blt w' b2 t2 c2 ∧ Blt w' b3 t3 c3 ∧ Blt w' b4 t4 c4 := ⟨h1.ahead a, h2.ahead a, h3.ahead a, h4.ahead a⟩
theorem up4 {k : Nat} {w w' : World} (u : Upt k w w') {b1 b2 b3 b4 : Nat} {t1 t2 t3 t4 : TypeId} {c1 c2 c3 c4 : Array Value} (h1 : Blt w b1 t1 c1) (h2 : Blt w b2 t2 c2) (h3 : Blt w b3 t3 c3) (h4 : Blt w b4 t4 c4) (d : b1 ≠ k ∧ b2 ≠ k ∧ b3 ≠ k ∧ b4 ≠ k) : Blt w' b1 t1 c1 ∧ Blt w' b2 t2 c2 ∧ Blt w' b3 t3 c3 ∧ Blt w' b4 t4 c4 := by
  obtain ⟨d1, d2, d3, d4⟩ := d
  exact ⟨u.blt h1 d1, u.blt h2 d2, u.blt h3 d3, u.blt h4 d4⟩
theorem lt4 {b : Nat} {w : World} (e : b = w.heap.size) {b1 b2 b3 b4 : Nat} {t1 t2 t3 t4 : TypeId} {c1 c2 c3 c4 : Array Value} (h1 : Blt w b1 t1 c1) (h2 : Blt w b2 t2 c2) (h3 : Blt w b3 t3 c3) (h4 : Blt w b4 t4 c4) : b1 < b ∧ b2 < b ∧ b3 < b ∧ b4 < b := by
  subst e
  exact ⟨h1.lt, h2.lt, h3.lt, h4.lt⟩
theorem ah5 {w w' : World} (a : Ahead w w') {b1 b2 b3 b4 b5 : Nat} {t1 t2 t3 t4 t5 : TypeId} {c1 c2 c3 c4 c5 : Array Value} (h1 : Blt w b1 t1 c1) (h2 : Blt w b2 t2 c2) (h3 : Blt w b3 t3 c3) (h4 : Blt w b4 t4 c4) (h5 : Blt w b5 t5 c5) : Blt w' b1 t1 c1 ∧ Blt w' b2 t2 c2 ∧ Blt w' b3 t3 c3 ∧ Blt w' b4 t4 c4 ∧ Blt w' b5 t5 c5 := ⟨h1.ahead a, h2.ahead a, h3.ahead a, h4.ahead a, h5.ahead a⟩
theorem up5 {k : Nat} {w w' : World} (u : Upt k w w') {b1 b2 b3 b4 b5 : Nat} {t1 t2 t3 t4 t5 : TypeId} {c1 c2 c3 c4 c5 : Array Value} (h1 : Blt w b1 t1 c1) (h2 : Blt w b2 t2 c2) (h3 : Blt w b3 t3 c3) (h4 : Blt w b4 t4 c4) (h5 : Blt w b5 t5 c5) (d : b1 ≠ k ∧ b2 ≠ k ∧ b3 ≠ k ∧ b4 ≠ k ∧ b5 ≠ k) : Blt w' b1 t1 c1 ∧ Blt w' b2 t2 c2 ∧ Blt w' b3 t3 c3 ∧ Blt w' b4 t4 c4 ∧ Blt w' b5 t5 c5 := by
  obtain ⟨d1, d2, d3, d4, d5⟩ := d
  exact ⟨u.blt h1 d1, u.blt h2 d2, u.blt h3 d3, u.blt h4 d4, u.blt h5 d5⟩
theorem lt5 {b : Nat} {w : World} (e : b = w.heap.size) {b1 b2 b3 b4 b5 : Nat} {t1 t2 t3 t4 t5 : TypeId} {c1 c2 c3 c4 c5 : Array Value} (h1 : Blt w b1 t1 c1) (h2 : Blt w b2 t2 c2) (h3 : Blt w b3 t3 c3) (h4 : Blt w b4 t4 c4) (h5 : Blt w b5 t5 c5) : b1 < b ∧ b2 < b ∧ b3 < b ∧ b4 < b ∧ b5 < b := by
  subst e
  exact ⟨h1.lt, h2.lt, h3.lt, h4.lt, h5.lt⟩
theorem ah6 {w w' : World} (a : Ahead w w') {b1 b2 b3 b4 b5 b6 : Nat} {t1 t2 t3 t4 t5 t6 : TypeId} {c1 c2 c3 c4 c5 c6 : Array Value} (h1 : Blt w b1 t1 c1) (h2 : Blt w b2 t2 c2) (h3 : Blt w b3 t3 c3) (h4 : Blt w b4 t4 c4) (h5 : Blt w b5 t5 c5) (h6 : Blt w b6 t6 c6) : Blt w' b1 t1 c1 ∧ Blt w' b2 t2 c2 ∧ Blt w' b3 t3 c3 ∧ Blt w' b4 t4 c4 ∧ Blt w' b5 t5 c5 ∧ Blt w' b6 t6 c6 := ⟨h1.ahead a, h2.ahead a, h3.ahead a, h4.ahead a, h5.ahead a, h6.ahead a⟩
theorem lt6 {b : Nat} {w : World} (e : b = w.heap.size) {b1 b2 b3 b4 b5 b6 : Nat} {t1 t2 t3 t4 t5 t6 : TypeId} {c1 c2 c3 c4 c5 c6 : Array Value} (h1 : Blt w b1 t1 c1) (h2 : Blt w b2 t2 c2) (h3 : Blt w b3 t3 c3) (h4 : Blt w b4 t4 c4) (h5 : Blt w b5 t5 c5) (h6 : Blt w b6 t6 c6) : b1 < b ∧ b2 < b ∧ b3 < b ∧ b4 < b ∧ b5 < b ∧ b6 < b := by
  subst e
  exact ⟨h1.lt, h2.lt, h3.lt, h4.lt, h5.lt, h6.lt⟩
theorem st2_t {w : World} {b : Nat} {t : TypeId} {c0 c1 v0 v1 : Value} {ad0 ad1 : Addr} {K : World → Prop} (h : Blt w b t #[c0, c1]) (n0 : noU #[c0, c1] = true) (n1 : noU #[v0, c1] = true) (ht : rowTy t = false)
    (hk : ∀ w', Upt b w w' → Blt w' b t #[v0, v1] → K w') (hA0 : ad0 = ⟨b, 0, none⟩ := by first | rfl | exact add_off) (hA1 : ad1 = ⟨b, 1, none⟩ := by first | rfl | exact add_off) : stC ad0 v0 w fun w1 => stC ad1 v1 w1 K :=
  stC_t 0 h rfl n0 ht (fun w1 u1 h1 => stC_t 1 (show Blt w1 b t #[v0, c1] from h1) rfl n1 ht (fun w2 u2 h2 => hk w2 (u1.trans u2) h2) hA1) hA0

theorem le_eq {a b c : Nat} (h : a ≤ b) (e : c = b) : a ≤ c := by omega
theorem axa2 {w0 t w w' : World} (a : Ahead w w') (A : Ahead w0 w) (X : Ext t w) : Ahead w0 w' ∧ Ext t w' := ⟨A.trans a, X.trans (Ext.of_ahead a)⟩
theorem axu2 {w0 t w w' : World} {k : Nat} (u : Upt k w w') (g : w0.heap.size ≤ k) (A : Ahead w0 w) (X : Ext t w) : Ahead w0 w' ∧ Ext t w' := ⟨u.ahead A g, X.trans u.ext⟩
theorem ldB_t (i : Nat) {w : World} {b : Nat} {t : TypeId} {cs : Array Value} {ad : Addr} {x : Bool} {K : Bool → Prop} (h : Blt w b t cs) (hc : cs[i]? = some (.bool x)) (hk : K x) (hA : ad = ⟨b, i, none⟩ := by first | rfl | exact add_off) : ldB ad w K := by
  subst hA; exact ⟨x, h.cell hc, hk⟩
theorem ldS_t (i : Nat) {w : World} {b : Nat} {t : TypeId} {cs : Array Value} {ad : Addr} {x : Slc} {K : Slc → Prop} (h : Blt w b t cs) (hc : cs[i]? = some x.v) (hk : K x) (hA : ad = ⟨b, i, none⟩ := by first | rfl | exact add_off) : ldS ad w K := by
  subst hA; exact ⟨x, h.cell hc, hk⟩

theorem br_map {b : Bool} {X Y X' Y' : Prop} (h : br b X Y) (hx : X → X') (hy : Y → Y') : br b X' Y' := by cases b; exact hy h; exact hx h
section
variable {P : Program} {e : Sem Value} {w : World}
end

theorem _root_.Go.Proofs.Ytfdajpjiengihaa.Sp.Rd.ext {w w' : World} {s : Slc} {l : List Int} (h : Rd .u64 w s l) (x : Ext w w') : Rd .u64 w' s l :=
  ⟨h.n, h.c, fun i hi => by obtain ⟨ad, e, hc⟩ := h.get i hi; exact ⟨ad, e, x.cell _ _ hc⟩⟩
theorem _root_.Go.Proofs.Ytfdajpjiengihaa.Sp.Own.ext {k : IntKind} {t : TypeId} {w w' : World} {s : Slc} {l : List Int} {b : Nat} (h : Own k t w s l b) (x : Ext w w') (ht : rowTy t = true := by rfl) : Own k t w' s l b := by
  obtain ⟨sp, h1, h2⟩ := h.mem
  exact ⟨h.hd, sp, h1, x.row _ _ _ _ h2 ht⟩

end L2
end Go.Proofs.Ytfdajpjiengihaa
namespace Go.Proofs.Ytfdajpjiengihaa
open Go Go.RowKit Eng
set_option linter.unusedVariables false

set_option maxRecDepth 100000 in
/-- surd/mul.Toom: function 17. -/
theorem mul_Toom_vc (a0_a : Slc) (a1_b : Slc) (a2_cut : Int) (w : World) (R : Ending → World → Prop)
    
    (h : newC w #[Value.int .i64 a2_cut] 3 fun ad1 w1 =>
    ldI .i64 ad1 w1 fun x1 =>
    br (decide (x1 < 3))
    (R (.returned (Value.tuple #[(⟨none, 0, 0⟩ : Slc).v, Value.int .i64 1])) w1)
    (Calls Try.prog 33 #[a0_a.v, a1_b.v, Value.func (Fn.func 45) #[] #[Value.pointer (some ad1)]] w1 fun e1 w2 =>
     ∃ s1 : Slc, ∃ x2 : Int, e1 = .returned (Value.tuple #[s1.v, Value.int .i64 x2]) ∧
     (R (.returned (Value.tuple #[s1.v, Value.int .i64 x2])) w2))) :
    Calls Try.prog 17 #[a0_a.v, a1_b.v, Value.int .i64 a2_cut] w R := by
  refine calls_of_vc (fun _ => none) (by kernel_rfl) Try.func17 rfl ?_ ?_
  · refine kcast h ?_; kernel_rfl
  · exact (obl_seq rfl (obl_reg (obl_seq rfl (obl_seq rfl (obl_reg (obl_cond (obl_seq rfl (obl_reg (obl_ret (obl_skip (obl_seq rfl (obl_reg (obl_ret trivial)))))))))))))

set_option maxRecDepth 100000 in
/-- surd/mul.product: function 33. -/
theorem mul_product__mul_Toom_1_vc (a0_a : Slc) (a1_b : Slc) (c2_0 : Addr) (w : World) (R : Ending → World → Prop)
    
    (h : Calls Try.prog 41 #[a0_a.v] w fun e1 w1 =>
    ∃ s1 : Slc, e1 = .returned s1.v ∧
    (Calls Try.prog 41 #[a1_b.v] w1 fun e2 w2 =>
     ∃ s2 : Slc, e2 = .returned s2.v ∧
     (Calls Try.prog 57 #[s1.v, s2.v] w2 fun e3 w3 =>
      ∃ b1 : Bool, e3 = .returned (Value.bool b1) ∧
      (br b1
       (R (.returned (Value.tuple #[(⟨none, 0, 0⟩ : Slc).v, Value.int .i64 3])) w3)
       (Calls Try.prog 45 #[s1.v, s2.v, Value.pointer (some c2_0)] w3 fun e4 w4 =>
        ∃ s3 : Slc, e4 = .returned s3.v ∧
        (Calls Try.prog 52 #[s3.v] w4 fun e5 w5 =>
         ∃ s4 : Slc, ∃ x1 : Int, e5 = .returned (Value.tuple #[s4.v, Value.int .i64 x1]) ∧
         (R (.returned (Value.tuple #[s4.v, Value.int .i64 x1])) w5))))))) :
    Calls Try.prog 33 #[a0_a.v, a1_b.v, Value.func (Fn.func 45) #[] #[Value.pointer (some c2_0)]] w R := by
  refine calls_of_vc (fun _ => none) (by kernel_rfl) Try.func33 rfl ?_ ?_
  · refine kcast h ?_; kernel_rfl
  · exact (obl_seq rfl (obl_reg (obl_seq rfl (obl_reg (obl_seq rfl (obl_seq rfl (obl_reg (obl_cond (obl_seq rfl (obl_reg (obl_ret (obl_skip (obl_seq rfl (obl_reg (obl_ret trivial)))))))))))))))

set_option maxRecDepth 100000 in
/-- surd/mul.Toom$1: function 45. -/
theorem mul_Toom_1_vc (a0_a : Slc) (a1_b : Slc) (c2 : Addr) (w : World) (R : Ending → World → Prop)
    
    (h : ldI .i64 c2 w fun x1 =>
    Calls Try.prog 46 #[a0_a.v, a1_b.v, Value.int .i64 (maxI x1 9)] w fun e1 w1 =>
    ∃ s1 : Slc, e1 = .returned s1.v ∧
    (R (.returned s1.v) w1)) :
    Calls Try.prog 45 #[a0_a.v, a1_b.v, Value.pointer (some c2)] w R := by
  refine calls_of_vc (fun _ => none) (by kernel_rfl) Try.func45 rfl ?_ ?_
  · refine kcast h ?_; kernel_rfl
  · exact (obl_seq rfl (obl_reg (obl_seq rfl (obl_reg (obl_ret trivial)))))

def mul_thirds_cut (J0 : Slc → Slc → Int → Int → Addr → Addr → Addr → Int → World → Prop) (m0 : Slc → Slc → Int → Int → Addr → Addr → Addr → Int → World → Nat) (J2 : Int → Slc → Bool → Slc → Bool → Slc → Bool → Slc → Bool → Slc → Bool → Slc → Int → World → Prop) (m2 : Int → Slc → Bool → Slc → Bool → Slc → Bool → Slc → Bool → Slc → Bool → Slc → Int → World → Nat) (K14 : Slc → Slc → Int → Addr → Addr → Addr → World → Prop) : Nat → Option ((Act → World → Prop) × (Act → World → Nat))
  | 0 => some (fun a_ w_ => atSz a_ 139 (atS a_ 0 fun t0 => atS a_ 1 fun t1 => atI .i64 a_ 2 fun t2 => atI .i64 a_ 7 fun t7 => atA a_ 8 fun t8 => atA a_ 9 fun t9 => atA a_ 10 fun t10 => atI .i64 a_ 50 fun t50 => J0 t0 t1 t2 t7 t8 t9 t10 t50 w_), fun a_ w_ => mS a_ 0 fun t0 => mS a_ 1 fun t1 => mI a_ 2 fun t2 => mI a_ 7 fun t7 => mA a_ 8 fun t8 => mA a_ 9 fun t9 => mA a_ 10 fun t10 => mI a_ 50 fun t50 => m0 t0 t1 t2 t7 t8 t9 t10 t50 w_)
  | 2 => some (fun a_ w_ => atSz a_ 139 (atI .i64 a_ 7 fun t7 => atS a_ 17 fun t17 => atG a_ 125 10 fun q125_ => atB ⟨q125_, []⟩ 0 fun t125_0 => atS ⟨q125_, []⟩ 1 fun t125_1 => atB ⟨q125_, []⟩ 2 fun t125_2 => atS ⟨q125_, []⟩ 3 fun t125_3 => atB ⟨q125_, []⟩ 4 fun t125_4 => atS ⟨q125_, []⟩ 5 fun t125_5 => atB ⟨q125_, []⟩ 6 fun t125_6 => atS ⟨q125_, []⟩ 7 fun t125_7 => atB ⟨q125_, []⟩ 8 fun t125_8 => atS ⟨q125_, []⟩ 9 fun t125_9 => atI .i64 a_ 126 fun t126 => J2 t7 t17 t125_0 t125_1 t125_2 t125_3 t125_4 t125_5 t125_6 t125_7 t125_8 t125_9 t126 w_), fun a_ w_ => mI a_ 7 fun t7 => mS a_ 17 fun t17 => mG a_ 125 fun q125_ => mB ⟨q125_, []⟩ 0 fun t125_0 => mS ⟨q125_, []⟩ 1 fun t125_1 => mB ⟨q125_, []⟩ 2 fun t125_2 => mS ⟨q125_, []⟩ 3 fun t125_3 => mB ⟨q125_, []⟩ 4 fun t125_4 => mS ⟨q125_, []⟩ 5 fun t125_5 => mB ⟨q125_, []⟩ 6 fun t125_6 => mS ⟨q125_, []⟩ 7 fun t125_7 => mB ⟨q125_, []⟩ 8 fun t125_8 => mS ⟨q125_, []⟩ 9 fun t125_9 => mI a_ 126 fun t126 => m2 t7 t17 t125_0 t125_1 t125_2 t125_3 t125_4 t125_5 t125_6 t125_7 t125_8 t125_9 t126 w_)
  | 3000014 => some (fun a_ w_ => atSz a_ 139 (atS a_ 0 fun t0 => atS a_ 1 fun t1 => atI .i64 a_ 7 fun t7 => atA a_ 10 fun t10 => atA a_ 12 fun t12 => atA a_ 13 fun t13 => K14 t0 t1 t7 t10 t12 t13 w_), fun _ _ => 0)
  | _ => none

set_option maxRecDepth 100000 in
/-- surd/mul.thirds: function 46. -/
theorem mul_thirds_vc (a0 : Slc) (a1 : Slc) (a2 : Int) (w : World) (R : Ending → World → Prop)
    (J0 : Slc → Slc → Int → Int → Addr → Addr → Addr → Int → World → Prop) (m0 : Slc → Slc → Int → Int → Addr → Addr → Addr → Int → World → Nat) (J2 : Int → Slc → Bool → Slc → Bool → Slc → Bool → Slc → Bool → Slc → Bool → Slc → Int → World → Prop) (m2 : Int → Slc → Bool → Slc → Bool → Slc → Bool → Slc → Bool → Slc → Bool → Slc → Int → World → Nat) (K14 : Slc → Slc → Int → Addr → Addr → Addr → World → Prop)
    (h : Calls Try.prog 41 #[a0.v] w fun e1 w1 =>
    ∃ s1 : Slc, e1 = .returned s1.v ∧
    (Calls Try.prog 41 #[a1.v] w1 fun e2 w2 =>
     ∃ s2 : Slc, e2 = .returned s2.v ∧
     (br (decide ((s1.n : Int) < a2))
      (Calls Try.prog 58 #[s1.v, s2.v] w2 fun e3 w3 =>
       ∃ s3 : Slc, e3 = .returned s3.v ∧
       (R (.returned s3.v) w3))
      (br (decide ((s2.n : Int) < a2))
       (Calls Try.prog 58 #[s1.v, s2.v] w2 fun e4 w4 =>
        ∃ s4 : Slc, e4 = .returned s4.v ∧
        (R (.returned s4.v) w4))
       (Calls Try.prog 69 #[s1.v, Value.int .i64 (IntKind.i64.wrap (Int.tdiv (IntKind.i64.wrap ((maxI (s1.n : Int) (s2.n : Int)) + 2)) 3))] w2 fun e5 w5 =>
        ∃ b1 : Bool, ∃ s5 : Slc, ∃ b2 : Bool, ∃ s6 : Slc, ∃ b3 : Bool, ∃ s7 : Slc, ∃ b4 : Bool, ∃ s8 : Slc, ∃ b5 : Bool, ∃ s9 : Slc, e5 = .returned (Value.agg #[Value.bool b1, s5.v, Value.bool b2, s6.v, Value.bool b3, s7.v, Value.bool b4, s8.v, Value.bool b5, s9.v]) ∧
        (Calls Try.prog 69 #[s2.v, Value.int .i64 (IntKind.i64.wrap (Int.tdiv (IntKind.i64.wrap ((maxI (s1.n : Int) (s2.n : Int)) + 2)) 3))] w5 fun e6 w6 =>
         ∃ b6 : Bool, ∃ s10 : Slc, ∃ b7 : Bool, ∃ s11 : Slc, ∃ b8 : Bool, ∃ s12 : Slc, ∃ b9 : Bool, ∃ s13 : Slc, ∃ b10 : Bool, ∃ s14 : Slc, e6 = .returned (Value.agg #[Value.bool b6, s10.v, Value.bool b7, s11.v, Value.bool b8, s12.v, Value.bool b9, s13.v, Value.bool b10, s14.v]) ∧
         (newC w6 #[Value.bool false, (⟨none, 0, 0⟩ : Slc).v, Value.bool false, (⟨none, 0, 0⟩ : Slc).v, Value.bool false, (⟨none, 0, 0⟩ : Slc).v, Value.bool false, (⟨none, 0, 0⟩ : Slc).v, Value.bool false, (⟨none, 0, 0⟩ : Slc).v] 91 fun ad1 w7 =>
          newC w7 #[Value.bool false, (⟨none, 0, 0⟩ : Slc).v, Value.bool false, (⟨none, 0, 0⟩ : Slc).v, Value.bool false, (⟨none, 0, 0⟩ : Slc).v, Value.bool false, (⟨none, 0, 0⟩ : Slc).v, Value.bool false, (⟨none, 0, 0⟩ : Slc).v] 91 fun ad2 w8 =>
          stC ad1 (Value.bool b1) w8 fun w9 =>
          stC (ad1.add 1) s5.v w9 fun w10 =>
          stC (ad1.add 2) (Value.bool b2) w10 fun w11 =>
          stC (ad1.add 3) s6.v w11 fun w12 =>
          stC (ad1.add 4) (Value.bool b3) w12 fun w13 =>
          stC (ad1.add 5) s7.v w13 fun w14 =>
          stC (ad1.add 6) (Value.bool b4) w14 fun w15 =>
          stC (ad1.add 7) s8.v w15 fun w16 =>
          stC (ad1.add 8) (Value.bool b5) w16 fun w17 =>
          stC (ad1.add 9) s9.v w17 fun w18 =>
          stC ad2 (Value.bool b6) w18 fun w19 =>
          stC (ad2.add 1) s10.v w19 fun w20 =>
          stC (ad2.add 2) (Value.bool b7) w20 fun w21 =>
          stC (ad2.add 3) s11.v w21 fun w22 =>
          stC (ad2.add 4) (Value.bool b8) w22 fun w23 =>
          stC (ad2.add 5) s12.v w23 fun w24 =>
          stC (ad2.add 6) (Value.bool b9) w24 fun w25 =>
          stC (ad2.add 7) s13.v w25 fun w26 =>
          stC (ad2.add 8) (Value.bool b10) w26 fun w27 =>
          stC (ad2.add 9) s14.v w27 fun w28 =>
          newC w28 #[Value.bool false, (⟨none, 0, 0⟩ : Slc).v, Value.bool false, (⟨none, 0, 0⟩ : Slc).v, Value.bool false, (⟨none, 0, 0⟩ : Slc).v, Value.bool false, (⟨none, 0, 0⟩ : Slc).v, Value.bool false, (⟨none, 0, 0⟩ : Slc).v] 91 fun ad3 w29 =>
          J0 s1 s2 a2 (IntKind.i64.wrap (Int.tdiv (IntKind.i64.wrap ((maxI (s1.n : Int) (s2.n : Int)) + 2)) 3)) ad1 ad2 ad3 0 w29)))))))
    (h0 : ∀ (t0 : Slc) (t1 : Slc) (t2 : Int) (t7 : Int) (t8 : Addr) (t9 : Addr) (t10 : Addr) (t50 : Int) (w_ : World), J0 t0 t1 t2 t7 t8 t9 t10 t50 w_ → 
    br (decide (t50 < 5))
    (fixA Try.prog (Instr.indexAt 91 (Value.pointer (some t8)) (Value.int .i64 t50)) w_.drew fun ad4 =>
     ldB ad4 w_.drew fun b11 =>
     fixA Try.prog (Instr.indexAt 91 (Value.pointer (some t9)) (Value.int .i64 t50)) w_.drew fun ad5 =>
     ldB ad5 w_.drew fun b12 =>
     fixA Try.prog (Instr.indexAt 91 (Value.pointer (some t8)) (Value.int .i64 t50)) w_.drew fun ad6 =>
     ldS (ad6.add 1) w_.drew fun s15 =>
     fixA Try.prog (Instr.indexAt 91 (Value.pointer (some t9)) (Value.int .i64 t50)) w_.drew fun ad7 =>
     ldS (ad7.add 1) w_.drew fun s16 =>
     Calls Try.prog 46 #[s15.v, s16.v, Value.int .i64 t2] w_.drew fun e7 w30 =>
     ∃ s17 : Slc, e7 = .returned s17.v ∧
     (Ahead w_.drew w30 ∧
      (Calls Try.prog 41 #[s17.v] w30 fun e8 w31 =>
       ∃ s18 : Slc, e8 = .returned s18.v ∧
       (Ahead w30 w31 ∧
        (fixA Try.prog (Instr.indexAt 91 (Value.pointer (some t10)) (Value.int .i64 t50)) w31 fun ad8 =>
         stC ad8 (Value.bool (!(b11 == b12))) w31 fun w32 =>
         stC (ad8.add 1) s18.v w32 fun w33 =>
         J0 t0 t1 t2 t7 t8 t9 t10 (IntKind.i64.wrap (t50 + 1)) w33 ∧
         m0 t0 t1 t2 t7 t8 t9 t10 (IntKind.i64.wrap (t50 + 1)) w33 < m0 t0 t1 t2 t7 t8 t9 t10 t50 w_)))))
    (∃ V1 : Nat → Nat → Prop, anyA Try.prog (Instr.indexAt 91 (Value.pointer (some t10)) (Value.int .i64 0)) fun ad9 =>
     Out (V1 1) ad9 (ldB ad9 w_.drew fun b13 =>
      ldS (ad9.add 1) w_.drew fun s19 =>
      anyA Try.prog (Instr.indexAt 91 (Value.pointer (some t10)) (Value.int .i64 4)) fun ad10 =>
      Out (V1 3) ad10 (ldB ad10 w_.drew fun b14 =>
       ldS (ad10.add 1) w_.drew fun s20 =>
       (newC w_.drew #[Value.bool false, (⟨none, 0, 0⟩ : Slc).v] 90 fun ad11 w34 =>
        Bar (V1 1) w_.drew w34 ∧
        (Bar (V1 3) w_.drew w34 ∧
         (newC w34 #[Value.bool false, (⟨none, 0, 0⟩ : Slc).v] 90 fun ad12 w35 =>
          Bar (V1 1) w34 w35 ∧
          (Bar (V1 3) w34 w35 ∧
           (stC ad11 (Value.bool b13) w35 fun w36 =>
            stC (ad11.add 1) s19.v w36 fun w37 =>
            Bar (V1 3) w35 w37 ∧
            (stC ad12 (Value.bool b14) w37 fun w38 =>
             stC (ad12.add 1) s20.v w38 fun w39 =>
             K14 t0 t1 t7 t10 ad11 ad12 w39)))))) ∧
       (newC w_.drew #[Value.bool false, (⟨none, 0, 0⟩ : Slc).v] 90 fun ad23 w79 =>
        Bar (V1 1) w_.drew w79 ∧
        (Bar (V1 3) w_.drew w79 ∧
         (newC w79 #[Value.bool false, (⟨none, 0, 0⟩ : Slc).v] 90 fun ad24 w80 =>
          Bar (V1 1) w79 w80 ∧
          (Bar (V1 3) w79 w80 ∧
           (stC ad24 (Value.bool b13) w80 fun w81 =>
            stC (ad24.add 1) s19.v w81 fun w82 =>
            Bar (V1 3) w80 w82 ∧
            (stC ad23 (Value.bool b14) w82 fun w83 =>
             stC (ad23.add 1) s20.v w83 fun w84 =>
             K14 t0 t1 t7 t10 ad24 ad23 w84))))))))))
    (h2 : ∀ (t7 : Int) (t17 : Slc) (t125_0 : Bool) (t125_1 : Slc) (t125_2 : Bool) (t125_3 : Slc) (t125_4 : Bool) (t125_5 : Slc) (t125_6 : Bool) (t125_7 : Slc) (t125_8 : Bool) (t125_9 : Slc) (t126 : Int) (w_ : World), J2 t7 t17 t125_0 t125_1 t125_2 t125_3 t125_4 t125_5 t125_6 t125_7 t125_8 t125_9 t126 w_ → 
    br (decide (t126 < 5))
    (Sem.wp Try.prog (Instr.index 91 (Value.agg #[Value.bool t125_0, t125_1.v, Value.bool t125_2, t125_3.v, Value.bool t125_4, t125_5.v, Value.bool t125_6, t125_7.v, Value.bool t125_8, t125_9.v]) (Value.int .i64 t126)) (fun v1 w74 =>
      ∃ b46 : Bool, ∃ s53 : Slc, v1 = Value.agg #[Value.bool b46, s53.v] ∧
      (newC w74 #[Value.bool false, (⟨none, 0, 0⟩ : Slc).v] 90 fun ad22 w75 =>
       stC ad22 (Value.bool b46) w75 fun w76 =>
       stC (ad22.add 1) s53.v w76 fun w77 =>
       ldS (ad22.add 1) w77 fun s54 =>
       Calls Try.prog 59 #[t17.v, s54.v, Value.int .i64 (IntKind.i64.wrap (t126 * t7))] w77 fun e21 w78 =>
       e21 = .returned (Value.tuple #[]) ∧
       (J2 t7 t17 t125_0 t125_1 t125_2 t125_3 t125_4 t125_5 t125_6 t125_7 t125_8 t125_9 (IntKind.i64.wrap (t126 + 1)) w78 ∧
        m2 t7 t17 t125_0 t125_1 t125_2 t125_3 t125_4 t125_5 t125_6 t125_7 t125_8 t125_9 (IntKind.i64.wrap (t126 + 1)) w78 < m2 t7 t17 t125_0 t125_1 t125_2 t125_3 t125_4 t125_5 t125_6 t125_7 t125_8 t125_9 t126 w_))) (fun _ _ => False) w_)
    (R (.returned t17.v) w_))
    (h3000014 : ∀ (t0 : Slc) (t1 : Slc) (t7 : Int) (t10 : Addr) (t12 : Addr) (t13 : Addr) (w_ : World), K14 t0 t1 t7 t10 t12 t13 w_ → 
    semA Try.prog (Instr.indexAt 91 (Value.pointer (some t10)) (Value.int .i64 3)) w_ fun ad13 w40 =>
    ldB ad13 w40 fun b15 =>
    ldS (ad13.add 1) w40 fun s21 =>
    semA Try.prog (Instr.indexAt 91 (Value.pointer (some t10)) (Value.int .i64 1)) w40 fun ad14 w41 =>
    ldB ad14 w41 fun b16 =>
    ldS (ad14.add 1) w41 fun s22 =>
    Calls Try.prog 70 #[Value.agg #[Value.bool b15, s21.v], Value.agg #[Value.bool b16, s22.v]] w41 fun e9 w42 =>
    ∃ b17 : Bool, ∃ s23 : Slc, e9 = .returned (Value.agg #[Value.bool b17, s23.v]) ∧
    (Calls Try.prog 71 #[Value.agg #[Value.bool b17, s23.v]] w42 fun e10 w43 =>
     ∃ b18 : Bool, ∃ s24 : Slc, e10 = .returned (Value.agg #[Value.bool b18, s24.v]) ∧
     (newC w43 #[Value.bool false, (⟨none, 0, 0⟩ : Slc).v] 90 fun ad15 w44 =>
      stC ad15 (Value.bool b18) w44 fun w45 =>
      stC (ad15.add 1) s24.v w45 fun w46 =>
      semA Try.prog (Instr.indexAt 91 (Value.pointer (some t10)) (Value.int .i64 1)) w46 fun ad16 w47 =>
      ldB ad16 w47 fun b19 =>
      ldS (ad16.add 1) w47 fun s25 =>
      semA Try.prog (Instr.indexAt 91 (Value.pointer (some t10)) (Value.int .i64 2)) w47 fun ad17 w48 =>
      ldB ad17 w48 fun b20 =>
      ldS (ad17.add 1) w48 fun s26 =>
      Calls Try.prog 70 #[Value.agg #[Value.bool b19, s25.v], Value.agg #[Value.bool b20, s26.v]] w48 fun e11 w49 =>
      ∃ b21 : Bool, ∃ s27 : Slc, e11 = .returned (Value.agg #[Value.bool b21, s27.v]) ∧
      (Calls Try.prog 72 #[Value.agg #[Value.bool b21, s27.v]] w49 fun e12 w50 =>
       ∃ b22 : Bool, ∃ s28 : Slc, e12 = .returned (Value.agg #[Value.bool b22, s28.v]) ∧
       (newC w50 #[Value.bool false, (⟨none, 0, 0⟩ : Slc).v] 90 fun ad18 w51 =>
        stC ad18 (Value.bool b22) w51 fun w52 =>
        stC (ad18.add 1) s28.v w52 fun w53 =>
        semA Try.prog (Instr.indexAt 91 (Value.pointer (some t10)) (Value.int .i64 2)) w53 fun ad19 w54 =>
        ldB ad19 w54 fun b23 =>
        ldS (ad19.add 1) w54 fun s29 =>
        semA Try.prog (Instr.indexAt 91 (Value.pointer (some t10)) (Value.int .i64 0)) w54 fun ad20 w55 =>
        ldB ad20 w55 fun b24 =>
        ldS (ad20.add 1) w55 fun s30 =>
        Calls Try.prog 70 #[Value.agg #[Value.bool b23, s29.v], Value.agg #[Value.bool b24, s30.v]] w55 fun e13 w56 =>
        ∃ b25 : Bool, ∃ s31 : Slc, e13 = .returned (Value.agg #[Value.bool b25, s31.v]) ∧
        (newC w56 #[Value.bool false, (⟨none, 0, 0⟩ : Slc).v] 90 fun ad21 w57 =>
         stC ad21 (Value.bool b25) w57 fun w58 =>
         stC (ad21.add 1) s31.v w58 fun w59 =>
         ldB ad21 w59.drew fun b26 =>
         ldS (ad21.add 1) w59.drew fun s32 =>
         ldB ad15 w59.drew fun b27 =>
         ldS (ad15.add 1) w59.drew fun s33 =>
         ldB t13 w59.drew fun b28 =>
         ldS (t13.add 1) w59.drew fun s34 =>
         Calls Try.prog 70 #[Value.agg #[Value.bool b26, s32.v], Value.agg #[Value.bool b27, s33.v]] w59.drew fun e14 w60 =>
         ∃ b29 : Bool, ∃ s35 : Slc, e14 = .returned (Value.agg #[Value.bool b29, s35.v]) ∧
         (Ahead w59.drew w60 ∧
          (Calls Try.prog 72 #[Value.agg #[Value.bool b29, s35.v]] w60 fun e15 w61 =>
           ∃ b30 : Bool, ∃ s36 : Slc, e15 = .returned (Value.agg #[Value.bool b30, s36.v]) ∧
           (Ahead w60 w61 ∧
            (Calls Try.prog 74 #[Value.agg #[Value.bool b28, s34.v]] w61 fun e16 w62 =>
             ∃ b31 : Bool, ∃ s37 : Slc, e16 = .returned (Value.agg #[Value.bool b31, s37.v]) ∧
             (Ahead w61 w62 ∧
              (Calls Try.prog 73 #[Value.agg #[Value.bool b30, s36.v], Value.agg #[Value.bool b31, s37.v]] w62 fun e17 w63 =>
               ∃ b32 : Bool, ∃ s38 : Slc, e17 = .returned (Value.agg #[Value.bool b32, s38.v]) ∧
               (Ahead w62 w63 ∧
                (stC ad15 (Value.bool b32) w63 fun w64 =>
                 stC (ad15.add 1) s38.v w64 fun w65 =>
                 ldB ad21 w65.drew fun b33 =>
                 ldS (ad21.add 1) w65.drew fun s39 =>
                 ldB ad18 w65.drew fun b34 =>
                 ldS (ad18.add 1) w65.drew fun s40 =>
                 ldB t13 w65.drew fun b35 =>
                 ldS (t13.add 1) w65.drew fun s41 =>
                 Calls Try.prog 73 #[Value.agg #[Value.bool b33, s39.v], Value.agg #[Value.bool b34, s40.v]] w65.drew fun e18 w66 =>
                 ∃ b36 : Bool, ∃ s42 : Slc, e18 = .returned (Value.agg #[Value.bool b36, s42.v]) ∧
                 (Ahead w65.drew w66 ∧
                  (Calls Try.prog 70 #[Value.agg #[Value.bool b36, s42.v], Value.agg #[Value.bool b35, s41.v]] w66 fun e19 w67 =>
                   ∃ b37 : Bool, ∃ s43 : Slc, e19 = .returned (Value.agg #[Value.bool b37, s43.v]) ∧
                   (Ahead w66 w67 ∧
                    (stC ad21 (Value.bool b37) w67 fun w68 =>
                     stC (ad21.add 1) s43.v w68 fun w69 =>
                     ldB ad18 w69 fun b38 =>
                     ldS (ad18.add 1) w69 fun s44 =>
                     ldB ad15 w69 fun b39 =>
                     ldS (ad15.add 1) w69 fun s45 =>
                     Calls Try.prog 70 #[Value.agg #[Value.bool b38, s44.v], Value.agg #[Value.bool b39, s45.v]] w69 fun e20 w70 =>
                     ∃ b40 : Bool, ∃ s46 : Slc, e20 = .returned (Value.agg #[Value.bool b40, s46.v]) ∧
                     (stC ad18 (Value.bool b40) w70 fun w71 =>
                      stC (ad18.add 1) s46.v w71 fun w72 =>
                      semS Try.prog (Instr.makeSlice 24 (Value.int .i64 (IntKind.i64.wrap ((IntKind.i64.wrap ((t0.n : Int) + (t1.n : Int))) + 3))) (Value.int .i64 (IntKind.i64.wrap ((IntKind.i64.wrap ((t0.n : Int) + (t1.n : Int))) + 3)))) w72 fun s47 w73 =>
                      ldB t12 w73 fun b41 =>
                      ldS (t12.add 1) w73 fun s48 =>
                      ldB ad18 w73 fun b42 =>
                      ldS (ad18.add 1) w73 fun s49 =>
                      ldB ad21 w73 fun b43 =>
                      ldS (ad21.add 1) w73 fun s50 =>
                      ldB ad15 w73 fun b44 =>
                      ldS (ad15.add 1) w73 fun s51 =>
                      ldB t13 w73 fun b45 =>
                      ldS (t13.add 1) w73 fun s52 =>
                      J2 t7 s47 b41 s48 b42 s49 b43 s50 b44 s51 b45 s52 0 w73))))))))))))))))))) :
    Calls Try.prog 46 #[a0.v, a1.v, Value.int .i64 a2] w R := by
  refine calls_of_vc (marks [2000012] (mul_thirds_cut J0 m0 J2 m2 K14)) (by kernel_rfl) Try.func46 rfl ?_ ?_
  · refine kcast h ?_; kernel_rfl
  · exact (obl_seq rfl (obl_reg (obl_seq rfl (obl_reg (obl_seq rfl (obl_seq rfl (obl_reg (obl_cond (obl_seq rfl (obl_reg (obl_ret (obl_skip (obl_seq rfl (obl_reg (obl_seq rfl (obl_reg (obl_seq rfl (obl_reg (obl_seq rfl (obl_seq rfl (obl_reg (obl_loop _ rfl (fun a_ w_ hL_ => (by
    obtain ⟨hz_, hd_, hL_⟩ := atSz_out hL_
    obtain ⟨t0, h0_, hL_⟩ := atS_out hL_
    obtain ⟨t1, h1_, hL_⟩ := atS_out hL_
    obtain ⟨t2, h2_, hL_⟩ := atI_out hL_
    obtain ⟨t7, h7_, hL_⟩ := atI_out hL_
    obtain ⟨t8, h8_, hL_⟩ := atA_out hL_
    obtain ⟨t9, h9_, hL_⟩ := atA_out hL_
    obtain ⟨t10, h10_, hL_⟩ := atA_out hL_
    obtain ⟨t50, h50_, hL_⟩ := atI_out hL_
    obtain ⟨g0, rfl⟩ : ∃ g, a_ = Fr 139 [(0, t0.v), (1, t1.v), (2, Value.int .i64 t2), (7, Value.int .i64 t7), (8, Value.pointer (some t8)), (9, Value.pointer (some t9)), (10, Value.pointer (some t10)), (50, Value.int .i64 t50)] g := ⟨_, fr_of hz_ hd_ [(0, t0.v), (1, t1.v), (2, Value.int .i64 t2), (7, Value.int .i64 t7), (8, Value.pointer (some t8)), (9, Value.pointer (some t9)), (10, Value.pointer (some t10)), (50, Value.int .i64 t50)] (sel_cons h0_ (sel_cons h1_ (sel_cons h2_ (sel_cons h7_ (sel_cons h8_ (sel_cons h9_ (sel_cons h10_ (sel_cons h50_ sel_nil))))))))⟩
    clear hz_ hd_ h0_ h1_ h2_ h7_ h8_ h9_ h10_ h50_
    have hJ0_ := hL_
    refine ⟨(marks [2000012] (fun _ => none)), kcast (h0 t0 t1 t2 t7 t8 t9 t10 t50 w_ hJ0_) ?_, ?_⟩
    · kernel_rfl
    · exact (obl_seq rfl (obl_reg (obl_seq rfl (obl_cond (obl_skip (obl_exit (obl_seq rfl (obl_blk rfl (obl_seq rfl (obl_reg (obl_held (by kernel_rfl) (by kernel_rfl) (by kernel_rfl) (obl_reg trivial)))))))))))))) (obl_join _ rfl (obl_store _ rfl (by kernel_rfl) trivial) (fun a_ w_ hL_ => (by
    obtain ⟨hz_, hd_, hL_⟩ := atSz_out hL_
    obtain ⟨t0, h0_, hL_⟩ := atS_out hL_
    obtain ⟨t1, h1_, hL_⟩ := atS_out hL_
    obtain ⟨t7, h7_, hL_⟩ := atI_out hL_
    obtain ⟨t10, h10_, hL_⟩ := atA_out hL_
    obtain ⟨t12, h12_, hL_⟩ := atA_out hL_
    obtain ⟨t13, h13_, hL_⟩ := atA_out hL_
    obtain ⟨g3000014, rfl⟩ : ∃ g, a_ = Fr 139 [(0, t0.v), (1, t1.v), (7, Value.int .i64 t7), (10, Value.pointer (some t10)), (12, Value.pointer (some t12)), (13, Value.pointer (some t13))] g := ⟨_, fr_of hz_ hd_ [(0, t0.v), (1, t1.v), (7, Value.int .i64 t7), (10, Value.pointer (some t10)), (12, Value.pointer (some t12)), (13, Value.pointer (some t13))] (sel_cons h0_ (sel_cons h1_ (sel_cons h7_ (sel_cons h10_ (sel_cons h12_ (sel_cons h13_ sel_nil))))))⟩
    clear hz_ hd_ h0_ h1_ h7_ h10_ h12_ h13_
    have hJ3000014_ := hL_
    refine ⟨(marks [2000012] (mul_thirds_cut J0 m0 J2 m2 K14)), kcast (h3000014 t0 t1 t7 t10 t12 t13 w_ hJ3000014_) ?_, ?_⟩
    · kernel_rfl
    · exact (obl_seq rfl (obl_reg (obl_seq rfl (obl_reg (obl_seq rfl (obl_reg (obl_seq rfl (obl_held (by kernel_rfl) (by kernel_rfl) (by kernel_rfl) (obl_seq rfl (obl_held (by kernel_rfl) (by kernel_rfl) (by kernel_rfl) (obl_seq rfl (obl_reg (obl_seq rfl (obl_reg (obl_seq rfl (obl_seq rfl (obl_reg (obl_loop _ rfl (fun a_ w_ hL_ => (by
      obtain ⟨hz_, hd_, hL_⟩ := atSz_out hL_
      obtain ⟨t7, h7_, hL_⟩ := atI_out hL_
      obtain ⟨t17, h17_, hL_⟩ := atS_out hL_
      obtain ⟨q125_, h125_, n125_, hL_⟩ := atG_out hL_
      obtain ⟨t125_0, h125_0_, hL_⟩ := atB_out hL_
      obtain ⟨t125_1, h125_1_, hL_⟩ := atS_out hL_
      obtain ⟨t125_2, h125_2_, hL_⟩ := atB_out hL_
      obtain ⟨t125_3, h125_3_, hL_⟩ := atS_out hL_
      obtain ⟨t125_4, h125_4_, hL_⟩ := atB_out hL_
      obtain ⟨t125_5, h125_5_, hL_⟩ := atS_out hL_
      obtain ⟨t125_6, h125_6_, hL_⟩ := atB_out hL_
      obtain ⟨t125_7, h125_7_, hL_⟩ := atS_out hL_
      obtain ⟨t125_8, h125_8_, hL_⟩ := atB_out hL_
      obtain ⟨t125_9, h125_9_, hL_⟩ := atS_out hL_
      have e125_ := agg_eq (l := [Value.bool t125_0, t125_1.v, Value.bool t125_2, t125_3.v, Value.bool t125_4, t125_5.v, Value.bool t125_6, t125_7.v, Value.bool t125_8, t125_9.v]) n125_ ⟨h125_0_, h125_1_, h125_2_, h125_3_, h125_4_, h125_5_, h125_6_, h125_7_, h125_8_, h125_9_, trivial⟩
      subst e125_
      obtain ⟨t126, h126_, hL_⟩ := atI_out hL_
      obtain ⟨g2, rfl⟩ : ∃ g, a_ = Fr 139 [(7, Value.int .i64 t7), (17, t17.v), (125, Value.agg #[Value.bool t125_0, t125_1.v, Value.bool t125_2, t125_3.v, Value.bool t125_4, t125_5.v, Value.bool t125_6, t125_7.v, Value.bool t125_8, t125_9.v]), (126, Value.int .i64 t126)] g := ⟨_, fr_of hz_ hd_ [(7, Value.int .i64 t7), (17, t17.v), (125, Value.agg #[Value.bool t125_0, t125_1.v, Value.bool t125_2, t125_3.v, Value.bool t125_4, t125_5.v, Value.bool t125_6, t125_7.v, Value.bool t125_8, t125_9.v]), (126, Value.int .i64 t126)] (sel_cons h7_ (sel_cons h17_ (sel_cons h125_ (sel_cons h126_ sel_nil))))⟩
      clear hz_ hd_ h7_ h17_ h125_ h126_
      have hJ2_ := hL_
      refine ⟨(marks [2000012] (fun _ => none)), kcast (h2 t7 t17 t125_0 t125_1 t125_2 t125_3 t125_4 t125_5 t125_6 t125_7 t125_8 t125_9 t126 w_ hJ2_) ?_, ?_⟩
      · kernel_rfl
      · exact (obl_seq rfl (obl_reg (obl_seq rfl (obl_cond (obl_skip (obl_exit (obl_seq rfl (obl_blk rfl (obl_seq rfl (obl_reg (obl_reg (obl_reg trivial)))))))))))))) (obl_seq rfl (obl_reg (obl_ret trivial))))))))))))))))))))))))))))))))))))))))))))))

set_option maxRecDepth 100000 in
/-- surd/mul.points: function 69. -/
theorem mul_points_vc (a0_a : Slc) (a1_k : Int) (w : World) (R : Ending → World → Prop)
    
    (h : newC w #[Value.bool false, (⟨none, 0, 0⟩ : Slc).v, Value.bool false, (⟨none, 0, 0⟩ : Slc).v, Value.bool false, (⟨none, 0, 0⟩ : Slc).v, Value.bool false, (⟨none, 0, 0⟩ : Slc).v, Value.bool false, (⟨none, 0, 0⟩ : Slc).v] 91 fun ad1 w1 =>
    Calls Try.prog 60 #[a0_a.v, Value.int .i64 0, Value.int .i64 a1_k] w1 fun e1 w2 =>
    ∃ s1 : Slc, e1 = .returned s1.v ∧
    (Calls Try.prog 60 #[a0_a.v, Value.int .i64 a1_k, Value.int .i64 (IntKind.i64.wrap (2 * a1_k))] w2 fun e2 w3 =>
     ∃ s2 : Slc, e2 = .returned s2.v ∧
     (Calls Try.prog 60 #[a0_a.v, Value.int .i64 (IntKind.i64.wrap (2 * a1_k)), Value.int .i64 (a0_a.n : Int)] w3 fun e3 w4 =>
      ∃ s3 : Slc, e3 = .returned s3.v ∧
      (newC w4 #[Value.bool false, (⟨none, 0, 0⟩ : Slc).v] 90 fun ad2 w5 =>
       newC w5 #[Value.bool false, (⟨none, 0, 0⟩ : Slc).v] 90 fun ad3 w6 =>
       newC w6 #[Value.bool false, (⟨none, 0, 0⟩ : Slc).v] 90 fun ad4 w7 =>
       stC ad2 (Value.bool false) w7 fun w8 =>
       stC (ad2.add 1) s1.v w8 fun w9 =>
       stC ad3 (Value.bool false) w9 fun w10 =>
       stC (ad3.add 1) s2.v w10 fun w11 =>
       stC ad4 (Value.bool false) w11 fun w12 =>
       stC (ad4.add 1) s3.v w12 fun w13 =>
       ldB ad2 w13 fun b1 =>
       ldS (ad2.add 1) w13 fun s4 =>
       ldB ad4 w13 fun b2 =>
       ldS (ad4.add 1) w13 fun s5 =>
       Calls Try.prog 73 #[Value.agg #[Value.bool b1, s4.v], Value.agg #[Value.bool b2, s5.v]] w13 fun e4 w14 =>
       ∃ b3 : Bool, ∃ s6 : Slc, e4 = .returned (Value.agg #[Value.bool b3, s6.v]) ∧
       (newC w14 #[Value.bool false, (⟨none, 0, 0⟩ : Slc).v] 90 fun ad5 w15 =>
        stC ad5 (Value.bool b3) w15 fun w16 =>
        stC (ad5.add 1) s6.v w16 fun w17 =>
        ldB ad5 w17 fun b4 =>
        ldS (ad5.add 1) w17 fun s7 =>
        ldB ad3 w17 fun b5 =>
        ldS (ad3.add 1) w17 fun s8 =>
        Calls Try.prog 70 #[Value.agg #[Value.bool b4, s7.v], Value.agg #[Value.bool b5, s8.v]] w17 fun e5 w18 =>
        ∃ b6 : Bool, ∃ s9 : Slc, e5 = .returned (Value.agg #[Value.bool b6, s9.v]) ∧
        (newC w18 #[Value.bool false, (⟨none, 0, 0⟩ : Slc).v] 90 fun ad6 w19 =>
         stC ad6 (Value.bool b6) w19 fun w20 =>
         stC (ad6.add 1) s9.v w20 fun w21 =>
         ldB ad2 w21.drew fun b7 =>
         ldS (ad2.add 1) w21.drew fun s10 =>
         ldB ad5 w21.drew fun b8 =>
         ldS (ad5.add 1) w21.drew fun s11 =>
         ldB ad3 w21.drew fun b9 =>
         ldS (ad3.add 1) w21.drew fun s12 =>
         ldB ad6 w21.drew fun b10 =>
         ldS (ad6.add 1) w21.drew fun s13 =>
         ldB ad6 w21.drew fun b11 =>
         ldS (ad6.add 1) w21.drew fun s14 =>
         ldB ad4 w21.drew fun b12 =>
         ldS (ad4.add 1) w21.drew fun s15 =>
         ldB ad2 w21.drew fun b13 =>
         ldS (ad2.add 1) w21.drew fun s16 =>
         ldB ad4 w21.drew fun b14 =>
         ldS (ad4.add 1) w21.drew fun s17 =>
         Calls Try.prog 73 #[Value.agg #[Value.bool b8, s11.v], Value.agg #[Value.bool b9, s12.v]] w21.drew fun e6 w22 =>
         ∃ b15 : Bool, ∃ s18 : Slc, e6 = .returned (Value.agg #[Value.bool b15, s18.v]) ∧
         (Ahead w21.drew w22 ∧
          (Calls Try.prog 73 #[Value.agg #[Value.bool b11, s14.v], Value.agg #[Value.bool b12, s15.v]] w22 fun e7 w23 =>
           ∃ b16 : Bool, ∃ s19 : Slc, e7 = .returned (Value.agg #[Value.bool b16, s19.v]) ∧
           (Ahead w22 w23 ∧
            (Calls Try.prog 74 #[Value.agg #[Value.bool b16, s19.v]] w23 fun e8 w24 =>
             ∃ b17 : Bool, ∃ s20 : Slc, e8 = .returned (Value.agg #[Value.bool b17, s20.v]) ∧
             (Ahead w23 w24 ∧
              (Calls Try.prog 70 #[Value.agg #[Value.bool b17, s20.v], Value.agg #[Value.bool b13, s16.v]] w24 fun e9 w25 =>
               ∃ b18 : Bool, ∃ s21 : Slc, e9 = .returned (Value.agg #[Value.bool b18, s21.v]) ∧
               (Ahead w24 w25 ∧
                (stC ad1 (Value.bool b7) w25 fun w26 =>
                 stC (ad1.add 1) s10.v w26 fun w27 =>
                 stC (ad1.add 2) (Value.bool b15) w27 fun w28 =>
                 stC (ad1.add 3) s18.v w28 fun w29 =>
                 stC (ad1.add 4) (Value.bool b10) w29 fun w30 =>
                 stC (ad1.add 5) s13.v w30 fun w31 =>
                 stC (ad1.add 6) (Value.bool b18) w31 fun w32 =>
                 stC (ad1.add 7) s21.v w32 fun w33 =>
                 stC (ad1.add 8) (Value.bool b14) w33 fun w34 =>
                 stC (ad1.add 9) s17.v w34 fun w35 =>
                 ldB ad1 w35 fun b19 =>
                 ldS (ad1.add 1) w35 fun s22 =>
                 ldB (ad1.add 2) w35 fun b20 =>
                 ldS (ad1.add 3) w35 fun s23 =>
                 ldB (ad1.add 4) w35 fun b21 =>
                 ldS (ad1.add 5) w35 fun s24 =>
                 ldB (ad1.add 6) w35 fun b22 =>
                 ldS (ad1.add 7) w35 fun s25 =>
                 ldB (ad1.add 8) w35 fun b23 =>
                 ldS (ad1.add 9) w35 fun s26 =>
                 R (.returned (Value.agg #[Value.bool b19, s22.v, Value.bool b20, s23.v, Value.bool b21, s24.v, Value.bool b22, s25.v, Value.bool b23, s26.v])) w35)))))))))))))) :
    Calls Try.prog 69 #[a0_a.v, Value.int .i64 a1_k] w R := by
  refine calls_of_vc (fun _ => none) (by kernel_rfl) Try.func69 rfl ?_ ?_
  · refine kcast h ?_; kernel_rfl
  · exact (obl_seq rfl (obl_reg (obl_seq rfl (obl_reg (obl_seq rfl (obl_reg (obl_seq rfl (obl_reg (obl_seq rfl (obl_held (by kernel_rfl) (by kernel_rfl) (by kernel_rfl) (obl_ret trivial)))))))))))

set_option maxRecDepth 100000 in
/-- (surd/mul.signed).plus: function 73. -/
theorem mul_signed_plus_vc (a0_x_0 : Bool) (a0_x_1 : Slc) (a1_y_0 : Bool) (a1_y_1 : Slc) (w : World) (R : Ending → World → Prop)
    
    (h : newC w #[Value.bool a0_x_0, a0_x_1.v] 90 fun ad1 w1 =>
    newC w1 #[Value.bool a1_y_0, a1_y_1.v] 90 fun ad2 w2 =>
    newC w2 #[Value.bool false, (⟨none, 0, 0⟩ : Slc).v] 90 fun ad3 w3 =>
    ldB ad1 w3 fun b1 =>
    ldB ad2 w3 fun b2 =>
    br (b1 == b2)
    (ldB ad1 w3.drew fun b3 =>
     ldS (ad1.add 1) w3.drew fun s1 =>
     ldS (ad2.add 1) w3.drew fun s2 =>
     Calls Try.prog 44 #[s1.v, s2.v] w3.drew fun e1 w4 =>
     ∃ s3 : Slc, e1 = .returned s3.v ∧
     (Ahead w3.drew w4 ∧
      (Calls Try.prog 41 #[s3.v] w4 fun e2 w5 =>
       ∃ s4 : Slc, e2 = .returned s4.v ∧
       (Ahead w4 w5 ∧
        (stC ad3 (Value.bool b3) w5 fun w6 =>
         stC (ad3.add 1) s4.v w6 fun w7 =>
         ldB ad3 w7 fun b4 =>
         ldS (ad3.add 1) w7 fun s5 =>
         R (.returned (Value.agg #[Value.bool b4, s5.v])) w7)))))
    (ldS (ad1.add 1) w3 fun s6 =>
     ldS (ad2.add 1) w3 fun s7 =>
     Calls Try.prog 77 #[s6.v, s7.v] w3 fun e3 w8 =>
     ∃ x1 : Int, e3 = .returned (Value.int .i64 x1) ∧
     (br (decide (x1 ≥ 0))
      (ldB ad1 w8.drew fun b5 =>
       ldS (ad1.add 1) w8.drew fun s8 =>
       ldS (ad2.add 1) w8.drew fun s9 =>
       Calls Try.prog 61 #[s8.v, s9.v] w8.drew fun e4 w9 =>
       ∃ s10 : Slc, e4 = .returned s10.v ∧
       (Ahead w8.drew w9 ∧
        (Calls Try.prog 41 #[s10.v] w9 fun e5 w10 =>
         ∃ s11 : Slc, e5 = .returned s11.v ∧
         (Ahead w9 w10 ∧
          (stC ad3 (Value.bool b5) w10 fun w11 =>
           stC (ad3.add 1) s11.v w11 fun w12 =>
           ldB ad3 w12 fun b6 =>
           ldS (ad3.add 1) w12 fun s12 =>
           R (.returned (Value.agg #[Value.bool b6, s12.v])) w12)))))
      (ldB ad2 w8.drew fun b7 =>
       ldS (ad2.add 1) w8.drew fun s13 =>
       ldS (ad1.add 1) w8.drew fun s14 =>
       Calls Try.prog 61 #[s13.v, s14.v] w8.drew fun e6 w13 =>
       ∃ s15 : Slc, e6 = .returned s15.v ∧
       (Ahead w8.drew w13 ∧
        (Calls Try.prog 41 #[s15.v] w13 fun e7 w14 =>
         ∃ s16 : Slc, e7 = .returned s16.v ∧
         (Ahead w13 w14 ∧
          (stC ad3 (Value.bool b7) w14 fun w15 =>
           stC (ad3.add 1) s16.v w15 fun w16 =>
           ldB ad3 w16 fun b8 =>
           ldS (ad3.add 1) w16 fun s17 =>
           R (.returned (Value.agg #[Value.bool b8, s17.v])) w16)))))))) :
    Calls Try.prog 73 #[Value.agg #[Value.bool a0_x_0, a0_x_1.v], Value.agg #[Value.bool a1_y_0, a1_y_1.v]] w R := by
  refine calls_of_vc (fun _ => none) (by kernel_rfl) Try.func73 rfl ?_ ?_
  · refine kcast h ?_; kernel_rfl
  · exact (obl_seq rfl (obl_reg (obl_seq rfl (obl_seq rfl (obl_reg (obl_cond (obl_seq rfl (obl_held (by kernel_rfl) (by kernel_rfl) (by kernel_rfl) (obl_ret (obl_skip (obl_seq rfl (obl_seq rfl (obl_reg (obl_cond (obl_seq rfl (obl_held (by kernel_rfl) (by kernel_rfl) (by kernel_rfl) (obl_ret (obl_skip (obl_seq rfl (obl_held (by kernel_rfl) (by kernel_rfl) (by kernel_rfl) (obl_ret trivial)))))))))))))))))))))

set_option maxRecDepth 100000 in
/-- (surd/mul.signed).minus: function 70. -/
theorem mul_signed_minus_vc (a0_x_0 : Bool) (a0_x_1 : Slc) (a1_y_0 : Bool) (a1_y_1 : Slc) (w : World) (R : Ending → World → Prop)
    
    (h : newC w #[Value.bool a0_x_0, a0_x_1.v] 90 fun ad1 w1 =>
    newC w1 #[Value.bool a1_y_0, a1_y_1.v] 90 fun ad2 w2 =>
    newC w2 #[Value.bool false, (⟨none, 0, 0⟩ : Slc).v] 90 fun ad3 w3 =>
    ldB ad2 w3 fun b1 =>
    stC ad2 (Value.bool (!b1)) w3 fun w4 =>
    ldB ad1 w4 fun b2 =>
    ldS (ad1.add 1) w4 fun s1 =>
    ldB ad2 w4 fun b3 =>
    ldS (ad2.add 1) w4 fun s2 =>
    Calls Try.prog 73 #[Value.agg #[Value.bool b2, s1.v], Value.agg #[Value.bool b3, s2.v]] w4 fun e1 w5 =>
    ∃ b4 : Bool, ∃ s3 : Slc, e1 = .returned (Value.agg #[Value.bool b4, s3.v]) ∧
    (stC ad3 (Value.bool b4) w5 fun w6 =>
     stC (ad3.add 1) s3.v w6 fun w7 =>
     ldB ad3 w7 fun b5 =>
     ldS (ad3.add 1) w7 fun s4 =>
     R (.returned (Value.agg #[Value.bool b5, s4.v])) w7)) :
    Calls Try.prog 70 #[Value.agg #[Value.bool a0_x_0, a0_x_1.v], Value.agg #[Value.bool a1_y_0, a1_y_1.v]] w R := by
  refine calls_of_vc (fun _ => none) (by kernel_rfl) Try.func70 rfl ?_ ?_
  · refine kcast h ?_; kernel_rfl
  · exact (obl_seq rfl (obl_reg (obl_seq rfl (obl_reg (obl_seq rfl (obl_reg (obl_ret trivial)))))))

set_option maxRecDepth 100000 in
/-- (surd/mul.signed).double: function 74. -/
theorem mul_signed_double_vc (a0_x_0 : Bool) (a0_x_1 : Slc) (w : World) (R : Ending → World → Prop)
    
    (h : newC w #[Value.bool a0_x_0, a0_x_1.v] 90 fun ad1 w1 =>
    newC w1 #[Value.bool false, (⟨none, 0, 0⟩ : Slc).v] 90 fun ad2 w2 =>
    ldB ad1 w2 fun b1 =>
    ldS (ad1.add 1) w2 fun s1 =>
    ldB ad1 w2 fun b2 =>
    ldS (ad1.add 1) w2 fun s2 =>
    Calls Try.prog 73 #[Value.agg #[Value.bool b1, s1.v], Value.agg #[Value.bool b2, s2.v]] w2 fun e1 w3 =>
    ∃ b3 : Bool, ∃ s3 : Slc, e1 = .returned (Value.agg #[Value.bool b3, s3.v]) ∧
    (stC ad2 (Value.bool b3) w3 fun w4 =>
     stC (ad2.add 1) s3.v w4 fun w5 =>
     ldB ad2 w5 fun b4 =>
     ldS (ad2.add 1) w5 fun s4 =>
     R (.returned (Value.agg #[Value.bool b4, s4.v])) w5)) :
    Calls Try.prog 74 #[Value.agg #[Value.bool a0_x_0, a0_x_1.v]] w R := by
  refine calls_of_vc (fun _ => none) (by kernel_rfl) Try.func74 rfl ?_ ?_
  · refine kcast h ?_; kernel_rfl
  · exact (obl_seq rfl (obl_reg (obl_seq rfl (obl_reg (obl_ret trivial)))))

def mul_signed_half_cut (J0 : Addr → Addr → Slc → Slc → Int → Int → World → Prop) (m0 : Addr → Addr → Slc → Slc → Int → Int → World → Nat) : Nat → Option ((Act → World → Prop) × (Act → World → Nat))
  | 0 => some (fun a_ w_ => atSz a_ 48 (atA a_ 1 fun t1_x => atA a_ 2 fun t2 => atS a_ 3 fun t3_out => atS a_ 11 fun t11 => atI .i64 a_ 12 fun t12 => atI .i64 a_ 13 fun t13 => J0 t1_x t2 t3_out t11 t12 t13 w_), fun a_ w_ => mA a_ 1 fun t1_x => mA a_ 2 fun t2 => mS a_ 3 fun t3_out => mS a_ 11 fun t11 => mI a_ 12 fun t12 => mI a_ 13 fun t13 => m0 t1_x t2 t3_out t11 t12 t13 w_)
  | _ => none

set_option maxRecDepth 100000 in
/-- (surd/mul.signed).half: function 72. -/
theorem mul_signed_half_vc (a0_x_0 : Bool) (a0_x_1 : Slc) (w : World) (R : Ending → World → Prop)
    (J0 : Addr → Addr → Slc → Slc → Int → Int → World → Prop) (m0 : Addr → Addr → Slc → Slc → Int → Int → World → Nat)
    (h : newC w #[Value.bool a0_x_0, a0_x_1.v] 90 fun ad1 w1 =>
    newC w1 #[Value.bool false, (⟨none, 0, 0⟩ : Slc).v] 90 fun ad2 w2 =>
    ldS (ad1.add 1) w2 fun s1 =>
    semS Try.prog (Instr.makeSlice 24 (Value.int .i64 (s1.n : Int)) (Value.int .i64 (s1.n : Int))) w2 fun s2 w3 =>
    ldS (ad1.add 1) w3 fun s3 =>
    J0 ad1 ad2 s2 s3 (s3.n : Int) 0 w3)
    (h0 : ∀ (t1_x : Addr) (t2 : Addr) (t3_out : Slc) (t11 : Slc) (t12 : Int) (t13 : Int) (w_ : World), J0 t1_x t2 t3_out t11 t12 t13 w_ → 
    br (decide (t13 < t12))
    (semA Try.prog (Instr.indexAt 24 t11.v (Value.int .i64 t13)) w_ fun ad3 w4 =>
     ldI .u64 ad3 w4 fun x1 =>
     semA Try.prog (Instr.indexAt 24 t3_out.v (Value.int .i64 t13)) w4 fun ad4 w5 =>
     stC ad4 (Value.int .u64 (Int.fdiv x1 (2 ^ (1 : Nat)))) w5 fun w6 =>
     ldS (t1_x.add 1) w6 fun s4 =>
     br (decide ((IntKind.i64.wrap (t13 + 1)) < (s4.n : Int)))
     (fixA Try.prog (Instr.indexAt 24 t3_out.v (Value.int .i64 t13)) w6 fun ad5 =>
      ldI .u64 ad5 w6 fun x2 =>
      ldS (t1_x.add 1) w6 fun s5 =>
      fixA Try.prog (Instr.indexAt 24 s5.v (Value.int .i64 (IntKind.i64.wrap (t13 + 1)))) w6 fun ad6 =>
      ldI .u64 ad6 w6 fun x3 =>
      fixA Try.prog (Instr.indexAt 24 t3_out.v (Value.int .i64 t13)) w6 fun ad7 =>
      stC ad7 (Value.int .u64 (orI .u64 x2 (IntKind.u64.wrap (x3 * 2 ^ (63 : Nat))))) w6.drew fun w7 =>
      J0 t1_x t2 t3_out t11 t12 (IntKind.i64.wrap (t13 + 1)) w7 ∧
      m0 t1_x t2 t3_out t11 t12 (IntKind.i64.wrap (t13 + 1)) w7 < m0 t1_x t2 t3_out t11 t12 t13 w_)
     (J0 t1_x t2 t3_out t11 t12 (IntKind.i64.wrap (t13 + 1)) w6 ∧
      m0 t1_x t2 t3_out t11 t12 (IntKind.i64.wrap (t13 + 1)) w6 < m0 t1_x t2 t3_out t11 t12 t13 w_))
    (ldB t1_x w_.drew fun b1 =>
     Calls Try.prog 41 #[t3_out.v] w_.drew fun e1 w8 =>
     ∃ s6 : Slc, e1 = .returned s6.v ∧
     (Ahead w_.drew w8 ∧
      (stC t2 (Value.bool b1) w8 fun w9 =>
       stC (t2.add 1) s6.v w9 fun w10 =>
       ldB t2 w10 fun b2 =>
       ldS (t2.add 1) w10 fun s7 =>
       R (.returned (Value.agg #[Value.bool b2, s7.v])) w10)))) :
    Calls Try.prog 72 #[Value.agg #[Value.bool a0_x_0, a0_x_1.v]] w R := by
  refine calls_of_vc (mul_signed_half_cut J0 m0) (by kernel_rfl) Try.func72 rfl ?_ ?_
  · refine kcast h ?_; kernel_rfl
  · exact (obl_seq rfl (obl_reg (obl_seq rfl (obl_reg (obl_seq rfl (obl_seq rfl (obl_reg (obl_loop _ rfl (fun a_ w_ hL_ => (by
    obtain ⟨hz_, hd_, hL_⟩ := atSz_out hL_
    obtain ⟨t1_x, h1_, hL_⟩ := atA_out hL_
    obtain ⟨t2, h2_, hL_⟩ := atA_out hL_
    obtain ⟨t3_out, h3_, hL_⟩ := atS_out hL_
    obtain ⟨t11, h11_, hL_⟩ := atS_out hL_
    obtain ⟨t12, h12_, hL_⟩ := atI_out hL_
    obtain ⟨t13, h13_, hL_⟩ := atI_out hL_
    obtain ⟨g0, rfl⟩ : ∃ g, a_ = Fr 48 [(1, Value.pointer (some t1_x)), (2, Value.pointer (some t2)), (3, t3_out.v), (11, t11.v), (12, Value.int .i64 t12), (13, Value.int .i64 t13)] g := ⟨_, fr_of hz_ hd_ [(1, Value.pointer (some t1_x)), (2, Value.pointer (some t2)), (3, t3_out.v), (11, t11.v), (12, Value.int .i64 t12), (13, Value.int .i64 t13)] (sel_cons h1_ (sel_cons h2_ (sel_cons h3_ (sel_cons h11_ (sel_cons h12_ (sel_cons h13_ sel_nil))))))⟩
    clear hz_ hd_ h1_ h2_ h3_ h11_ h12_ h13_
    have hJ0_ := hL_
    refine ⟨(fun _ => none), kcast (h0 t1_x t2 t3_out t11 t12 t13 w_ hJ0_) ?_, ?_⟩
    · kernel_rfl
    · exact (obl_seq rfl (obl_reg (obl_seq rfl (obl_cond (obl_skip (obl_exit (obl_seq rfl (obl_blk rfl (obl_seq rfl (obl_reg (obl_seq rfl (obl_reg (obl_seq rfl (obl_reg (obl_cond (obl_tail 13 (by kernel_rfl) (by kernel_rfl) (by kernel_rfl) (by kernel_rfl) (by kernel_rfl) (obl_skip (obl_reg trivial)))))))))))))))))))) (obl_seq rfl (obl_held (by kernel_rfl) (by kernel_rfl) (by kernel_rfl) (obl_ret trivial)))))))))))

def mul_signed_third_cut (J0 : Addr → Addr → Slc → Int → Int → World → Prop) (m0 : Addr → Addr → Slc → Int → Int → World → Nat) : Nat → Option ((Act → World → Prop) × (Act → World → Nat))
  | 0 => some (fun a_ w_ => atSz a_ 36 (atA a_ 1 fun t1_x => atA a_ 2 fun t2 => atS a_ 3 fun t3_out => atI .u64 a_ 4 fun t4_rest => atI .i64 a_ 5 fun t5_i => J0 t1_x t2 t3_out t4_rest t5_i w_), fun a_ w_ => mA a_ 1 fun t1_x => mA a_ 2 fun t2 => mS a_ 3 fun t3_out => mI a_ 4 fun t4_rest => mI a_ 5 fun t5_i => m0 t1_x t2 t3_out t4_rest t5_i w_)
  | _ => none

set_option maxRecDepth 100000 in
/-- (surd/mul.signed).third: function 71. -/
theorem mul_signed_third_vc (a0_x_0 : Bool) (a0_x_1 : Slc) (w : World) (R : Ending → World → Prop)
    (J0 : Addr → Addr → Slc → Int → Int → World → Prop) (m0 : Addr → Addr → Slc → Int → Int → World → Nat)
    (h : newC w #[Value.bool a0_x_0, a0_x_1.v] 90 fun ad1 w1 =>
    newC w1 #[Value.bool false, (⟨none, 0, 0⟩ : Slc).v] 90 fun ad2 w2 =>
    ldS (ad1.add 1) w2 fun s1 =>
    semS Try.prog (Instr.makeSlice 24 (Value.int .i64 (s1.n : Int)) (Value.int .i64 (s1.n : Int))) w2 fun s2 w3 =>
    ldS (ad1.add 1) w3 fun s3 =>
    J0 ad1 ad2 s2 0 (IntKind.i64.wrap ((s3.n : Int) - 1)) w3)
    (h0 : ∀ (t1_x : Addr) (t2 : Addr) (t3_out : Slc) (t4_rest : Int) (t5_i : Int) (w_ : World), J0 t1_x t2 t3_out t4_rest t5_i w_ → 
    br (decide (t5_i ≥ 0))
    (ldS (t1_x.add 1) w_ fun s4 =>
     semA Try.prog (Instr.indexAt 24 s4.v (Value.int .i64 t5_i)) w_ fun ad3 w4 =>
     ldI .u64 ad3 w4 fun x1 =>
     Calls Try.prog 66 #[Value.int .u64 t4_rest, Value.int .u64 x1, Value.int .u64 3] w4 fun e1 w5 =>
     ∃ x2 : Int, ∃ x3 : Int, e1 = .returned (Value.tuple #[Value.int .u64 x2, Value.int .u64 x3]) ∧
     (semA Try.prog (Instr.indexAt 24 t3_out.v (Value.int .i64 t5_i)) w5 fun ad4 w6 =>
      stC ad4 (Value.int .u64 x2) w6 fun w7 =>
      J0 t1_x t2 t3_out x3 (IntKind.i64.wrap (t5_i - 1)) w7 ∧
      m0 t1_x t2 t3_out x3 (IntKind.i64.wrap (t5_i - 1)) w7 < m0 t1_x t2 t3_out t4_rest t5_i w_))
    (ldB t1_x w_.drew fun b1 =>
     Calls Try.prog 41 #[t3_out.v] w_.drew fun e2 w8 =>
     ∃ s5 : Slc, e2 = .returned s5.v ∧
     (Ahead w_.drew w8 ∧
      (stC t2 (Value.bool b1) w8 fun w9 =>
       stC (t2.add 1) s5.v w9 fun w10 =>
       ldB t2 w10 fun b2 =>
       ldS (t2.add 1) w10 fun s6 =>
       R (.returned (Value.agg #[Value.bool b2, s6.v])) w10)))) :
    Calls Try.prog 71 #[Value.agg #[Value.bool a0_x_0, a0_x_1.v]] w R := by
  refine calls_of_vc (mul_signed_third_cut J0 m0) (by kernel_rfl) Try.func71 rfl ?_ ?_
  · refine kcast h ?_; kernel_rfl
  · exact (obl_seq rfl (obl_reg (obl_seq rfl (obl_reg (obl_seq rfl (obl_reg (obl_seq rfl (obl_seq rfl (obl_reg (obl_loop _ rfl (fun a_ w_ hL_ => (by
    obtain ⟨hz_, hd_, hL_⟩ := atSz_out hL_
    obtain ⟨t1_x, h1_, hL_⟩ := atA_out hL_
    obtain ⟨t2, h2_, hL_⟩ := atA_out hL_
    obtain ⟨t3_out, h3_, hL_⟩ := atS_out hL_
    obtain ⟨t4_rest, h4_, hL_⟩ := atI_out hL_
    obtain ⟨t5_i, h5_, hL_⟩ := atI_out hL_
    obtain ⟨g0, rfl⟩ : ∃ g, a_ = Fr 36 [(1, Value.pointer (some t1_x)), (2, Value.pointer (some t2)), (3, t3_out.v), (4, Value.int .u64 t4_rest), (5, Value.int .i64 t5_i)] g := ⟨_, fr_of hz_ hd_ [(1, Value.pointer (some t1_x)), (2, Value.pointer (some t2)), (3, t3_out.v), (4, Value.int .u64 t4_rest), (5, Value.int .i64 t5_i)] (sel_cons h1_ (sel_cons h2_ (sel_cons h3_ (sel_cons h4_ (sel_cons h5_ sel_nil)))))⟩
    clear hz_ hd_ h1_ h2_ h3_ h4_ h5_
    have hJ0_ := hL_
    refine ⟨(fun _ => none), kcast (h0 t1_x t2 t3_out t4_rest t5_i w_ hJ0_) ?_, ?_⟩
    · kernel_rfl
    · exact (obl_seq rfl (obl_seq rfl (obl_reg (obl_cond (obl_skip (obl_exit (obl_seq rfl (obl_blk rfl (obl_reg (obl_reg trivial)))))))))))) (obl_seq rfl (obl_held (by kernel_rfl) (by kernel_rfl) (by kernel_rfl) (obl_ret trivial)))))))))))))

set_option maxRecDepth 100000 in
/-- surd/surdlaw02.MulTooms: function 4. -/
theorem surdlaw02_MulTooms_vc (a0 : Slc) (a1 : Slc) (a2 : Int) (w : World) (R : Ending → World → Prop)
    
    (h : Calls Try.prog 16 #[a0.v] w fun e1 w1 =>
    ∃ s1 : Slc, ∃ s2 : Slc, e1 = .returned (Value.tuple #[s1.v, s2.v]) ∧
    (Calls Try.prog 16 #[a1.v] w1 fun e2 w2 =>
     ∃ s3 : Slc, ∃ s4 : Slc, e2 = .returned (Value.tuple #[s3.v, s4.v]) ∧
     (Calls Try.prog 17 #[s2.v, s4.v, Value.int .i64 a2] w2 fun e3 w3 =>
      ∃ s5 : Slc, ∃ x1 : Int, e3 = .returned (Value.tuple #[s5.v, Value.int .i64 x1]) ∧
      (br (decide (a2 < 3))
       (Calls Try.prog 18 #[Value.int .i64 x1] w3 fun e4 w4 =>
        ∃ x2 : Int, e4 = .returned (Value.int .i64 x2) ∧
        (br (x2 == 1)
         (br ((s5.n : Int) == 0)
          (Calls Try.prog 7 #[] w4 fun e5 w5 =>
           ∃ b1 : Bool, e5 = .returned (Value.bool b1) ∧
           (R (.returned (Value.bool b1)) w5))
          (R (.returned (Value.bool false)) w4))
         (R (.returned (Value.bool false)) w4)))
       (Calls Try.prog 20 #[a0.v] w3 fun e6 w6 =>
        ∃ s6 : Slc, e6 = .returned s6.v ∧
        (Calls Try.prog 20 #[a1.v] w6 fun e7 w7 =>
         ∃ s7 : Slc, e7 = .returned s7.v ∧
         (Calls Try.prog 19 #[s6.v, s7.v] w7 fun e8 w8 =>
          ∃ s8 : Slc, ∃ x3 : Int, e8 = .returned (Value.tuple #[s8.v, Value.int .i64 x3]) ∧
          (Calls Try.prog 21 #[s5.v, Value.int .i64 x1, s8.v, Value.int .i64 x3] w8 fun e9 w9 =>
           ∃ b2 : Bool, e9 = .returned (Value.bool b2) ∧
           (br b2
            (Calls Try.prog 22 #[s1.v, a0.v] w9 fun e10 w10 =>
             ∃ b3 : Bool, e10 = .returned (Value.bool b3) ∧
             (br b3
              (Calls Try.prog 22 #[s3.v, a1.v] w10 fun e11 w11 =>
               ∃ b4 : Bool, e11 = .returned (Value.bool b4) ∧
               (br b4
                (newC w11 #[s5.v] 23 fun ad1 w12 =>
                 Calls Try.prog 23 #[(⟨some ad1, 1, 1⟩ : Slc).v] w12 fun e12 w13 =>
                 ∃ b5 : Bool, e12 = .returned (Value.bool b5) ∧
                 (br b5
                  (Calls Try.prog 22 #[s1.v, a0.v] w13 fun e13 w14 =>
                   ∃ b6 : Bool, e13 = .returned (Value.bool b6) ∧
                   (br b6
                    (Calls Try.prog 22 #[s3.v, a1.v] w14 fun e14 w15 =>
                     ∃ b7 : Bool, e14 = .returned (Value.bool b7) ∧
                     (br b7
                      (Calls Try.prog 7 #[] w15 fun e15 w16 =>
                       ∃ b8 : Bool, e15 = .returned (Value.bool b8) ∧
                       (R (.returned (Value.bool b8)) w16))
                      (R (.returned (Value.bool false)) w15)))
                    (R (.returned (Value.bool false)) w14)))
                  (R (.returned (Value.bool false)) w13)))
                (R (.returned (Value.bool false)) w11)))
              (R (.returned (Value.bool false)) w10)))
            (R (.returned (Value.bool false)) w9)))))))))) :
    Calls Try.prog 4 #[a0.v, a1.v, Value.int .i64 a2] w R := by
  refine calls_of_vc (fun _ => none) (by kernel_rfl) Try.func4 rfl ?_ ?_
  · refine kcast h ?_; kernel_rfl
  · exact (obl_seq rfl (obl_reg (obl_seq rfl (obl_reg (obl_seq rfl (obl_reg (obl_seq rfl (obl_reg (obl_seq rfl (obl_seq rfl (obl_reg (obl_cond (obl_seq rfl (obl_reg (obl_ret (obl_skip (obl_seq rfl (obl_reg (obl_seq rfl (obl_reg (obl_ret trivial)))))))))))))))))))))

end Go.Proofs.Ytfdajpjiengihaa
