/- nat's Times and Through; the law NatThrough. No condition. -/
import Derived.Test.YtaflfjbhlgbmdaaDv
import Derived.Test.YtaflfjbhlgbmdaaLaw2
namespace Go.Proofs.Ytaflfjbhlgbmdaa
open Go Go.RowKit Eng Sp Dg
set_option linter.unusedVariables false
set_option linter.unusedSimpArgs false
set_option maxRecDepth 100000
namespace Nat

theorem times_step {V P A x m c s c' B : Nat} (h : s + B * c' = x * m + c) (ih : V + c * P = A * m) : V + P * s + c' * (P * B) = (A + P * x) * m := by
  have e1 : P * (s + B * c') = P * s + c' * (P * B) := by rw [Nat.mul_add]; congr 1; ac_rfl
  have e2 : P * (x * m + c) = P * x * m + c * P := by rw [Nat.mul_add, Nat.mul_assoc, Nat.mul_comm c P]
  rw [Nat.add_mul, ← ih, Nat.add_assoc, ← e1, h, e2]; omega
theorem times_digit {x m c B : Nat} (hx : x < B) (hm : m < B) (hc : c < B) :
    (x * m % B + c) % B + B * (x * m / B + (x * m % B + c) / B) = x * m + c ∧ x * m / B + (x * m % B + c) / B < B := by
  have hB : 0 < B := by omega
  have d1 := Nat.mod_add_div (x * m) B
  have d2 := Nat.mod_add_div (x * m % B + c) B
  have e : (x * m % B + c) % B + B * (x * m / B + (x * m % B + c) / B) = x * m + c := by rw [Nat.mul_add]; omega
  refine ⟨e, ?_⟩
  have h1 : x * m ≤ (B - 1) * (B - 1) := Nat.mul_le_mul (by omega) (by omega)
  have h2 : (B - 1) * (B - 1) + (B - 1) = (B - 1) * B := by
    obtain ⟨k, rfl⟩ : ∃ k, B = k + 1 := ⟨B - 1, by omega⟩
    rw [Nat.add_sub_cancel, Nat.mul_succ]
  have h3 : B * (x * m / B + (x * m % B + c) / B) ≤ B * (B - 1) := by rw [Nat.mul_comm B (B - 1)]; omega
  have := Nat.le_of_mul_le_mul_left h3 hB
  omega

theorem Times_spec {w : World} {p : Slc} {a : List Nat} {m : Nat} (hp : Rd .u64 w p (nn a)) (la : a.length ≤ 2 ^ 44) (oa : ok B64 a) (hm : m < B64) :
    Calls pr nat_Times_id #[p.v, .int .u64 (m : Int)] w (Ret w (bigC (val B64 a * m)) (val B64 a * m)) := by
  have hB := B64v
  have hlen := len_le oa
  have hA0 : val B64 (digs B64 (val B64 a)) = val B64 a := val_digs two64 _
  have hoA := ok_digs two64 (val B64 a)
  generalize hA : digs B64 (val B64 a) = A at *
  refine nat_Times_vc p m w _ (fun t0 t1 c t7 t20 t21 t22 w' => t0.n = A.length ∧ t1 = (m : Int) ∧ t21 = (A.length : Int) ∧ ∃ (l : List Nat) (j cr : Nat), t7 = (cr : Int) ∧ cr < B64 ∧ t22 = (j : Int) ∧ j ≤ A.length ∧
    Fill w w' c l (fun w' => Rd .u64 w' t20 (nn A)) ∧ l.length = A.length + 1 ∧ ok B64 l ∧ val B64 (l.take j) + cr * B64 ^ j = val B64 (A.take j) * m) (fun _ _ _ _ _ n i _ => (n - i).toNat) ?_ ?_
  · refine Calls.mono (trim_rd hp la oa) ?_
    rw [hA]
    rintro e w' ⟨rfl, s, rfl, hsn, hs⟩
    refine ⟨_, rfl, ?_⟩
    rw [hsn, wrap_i64 (x := (A.length : Int) + 1) (by omega) (by omega)]
    refine mkF (w0 := w') (S := fun w' => Rd .u64 w' s (nn A)) (by omega) (by omega) (Ahead.refl _) hs ?_
    intro c w3 hcn hf ha
    exact ⟨by first | exact hsn | rfl, rfl, rfl, _, 0, 0, rfl, by omega, rfl, Nat.zero_le _, hf, by simp, ok_replicate (by omega) _, by simp [val]⟩
  · rintro t0 t1 c t7 t20 t21 t22 w' ⟨htn, rfl, rfl, l, j, cr, rfl, hcr, rfl, hj, hf, hl, ol, hv⟩
    have hS := hf.src (fun _ h hs => Rd.ahead hs h)
    refine br_intro (fun hlt => ?_) (fun hge => ?_)
    · have hj' : j < A.length := by simpa using hlt
      have hx := ok_getD hoA (by omega : 0 < B64) j
      refine ldN hS (by omega) (by omega) ?_
      rw [Int.toNat_natCast]
      refine Calls.mono (Try.bits_Mul64 _ _ (by omega) (by omega) _) ?_
      rintro e w4 ⟨rfl, rfl⟩
      refine ⟨_, _, rfl, ?_⟩
      rw [← B64v]
      refine add64 (c := 0) (by omega) ?_
      refine stF hf (by omega) (by omega) ?_
      intro w7 hf7
      rw [Int.toNat_natCast] at hf7
      simp only [Nat.add_zero] at hf7 ⊢
      obtain ⟨r1, r2⟩ := times_digit hx hm hcr
      have hsB : (A.getD j 0 * m % B64 + cr) % B64 < B64 := Nat.mod_lt _ (by omega)
      generalize (A.getD j 0 * m % B64 + cr) % B64 = s at *
      generalize A.getD j 0 * m / B64 = hi' at *
      generalize (A.getD j 0 * m % B64 + cr) / B64 = c1 at *
      have ec : IntKind.u64.wrap ((hi' : Int) + (c1 : Int)) = ((hi' + c1 : Nat) : Int) := by rw [wrap_u64' (by omega) (by omega)]; omega
      have e8 : IntKind.i64.wrap ((j : Int) + 1) = ((j + 1 : Nat) : Int) := by rw [wrap_i64 (by omega) (by omega)]; omega
      rw [ec, e8]
      refine ⟨⟨htn, by trivial, by trivial, _, j + 1, _, rfl, r2, rfl, by omega, hf7, by simpa using hl, ok_set ol hsB, ?_⟩, by omega⟩
      rw [val_take_set _ _ _ (by omega), val_take_succ', Nat.pow_succ]
      exact times_step r1 hv
    · have hj' : j = A.length := by simp at hge; omega
      subst hj'
      rw [htn]
      refine stF hf (by omega) (by omega) ?_
      intro w8 hf8
      rw [Int.toNat_natCast] at hf8
      have hfin : val B64 (l.set A.length cr) = val B64 a * m := by
        rw [← val_take_all (l.set A.length cr) (m := A.length + 1) (by simp; omega), val_take_set _ _ _ (by omega), Nat.mul_comm, hv, val_take_all A (Nat.le_refl _), hA0]
      refine Calls.mono (hf8.told (by simp; omega) (ok_set ol hcr)) ?_
      rw [hfin]
      intro e w3 h
      obtain ⟨h1, s, rfl, h2⟩ := h.ret
      exact ⟨_, _, rfl, h1, _, rfl, h2⟩

/-- Through's answer. -/
def RetQ (w : World) (code : Int) (Q r : Nat) (e : Ending) (w' : World) : Prop :=
  Ahead w w' ∧ ∃ s, e = .returned (.tuple #[Slc.v s, .int .u64 (if code = 0 then r else 0 : Nat), .int .i64 code]) ∧ OwnNil w.heap.size w' s (if code = 0 then digs B64 Q else [])
def thC (x d : Nat) : Int := if d = 0 then 1 else bigC (x / d)
theorem drop_set_self (l : List Nat) (i q : Nat) (h : i < l.length) : (l.set i q).drop i = q :: l.drop (i + 1) := by
  apply List.ext_getElem?
  intro k
  rw [List.getElem?_drop]
  cases k with
  | zero => simp [h]
  | succ k =>
    rw [List.getElem?_set_ne (by omega)]
    simp; congr 1; omega
theorem quot_limb {r x d B : Nat} (hr : r < d) (hx : x < B) : (r * B + x) / d < B := by
  rw [Nat.div_lt_iff_lt_mul (by omega)]
  have : (r + 1) * B ≤ d * B := Nat.mul_le_mul_right _ hr
  rw [Nat.succ_mul] at this
  rw [Nat.mul_comm B d]; omega

theorem Through_spec {w : World} {p : Slc} {a : List Nat} {d : Nat} (hp : Rd .u64 w p (nn a)) (la : a.length ≤ 2 ^ 44) (oa : ok B64 a) (hd : d < B64) :
    Calls pr nat_Through_id #[p.v, .int .u64 (d : Int)] w (RetQ w (thC (val B64 a) d) (val B64 a / d) (val B64 a % d)) := by
  have hB := B64v
  have hlen := len_le oa
  have hA0 : val B64 (digs B64 (val B64 a)) = val B64 a := val_digs two64 _
  have hoA := ok_digs two64 (val B64 a)
  generalize hA : digs B64 (val B64 a) = A at *
  refine nat_Through_vc p d w _ (fun t0 t1 c t8 t9 w' => 0 < d ∧ t1 = (d : Int) ∧ ∃ (l : List Nat) (j r : Nat), t8 = (r : Int) ∧ r < d ∧ t9 = (j : Int) - 1 ∧ j ≤ A.length ∧
    Fill w w' c l (fun w' => Rd .u64 w' t0 (nn A)) ∧ l.length = A.length ∧ ok B64 l ∧ val B64 (A.drop j) = val B64 (l.drop j) * d + r) (fun _ _ _ _ i _ => (i + 1).toNat) ?_ ?_
  · refine br_intro (fun h0 => ?_) (fun h0 => ?_)
    · have h0' : d = 0 := by simpa using h0
      have hc : thC (val B64 a) d = 1 := if_pos h0'
      rw [hc]
      exact ⟨Ahead.refl _, _, rfl, OwnNil.nil⟩
    · have h0' : 0 < d := by simp at h0; omega
      refine Calls.mono (trim_rd hp la oa) ?_
      rw [hA]
      rintro e w' ⟨rfl, s, rfl, hsn, hs⟩
      refine ⟨_, rfl, ?_⟩
      rw [hsn, wrap_i64 (x := (A.length : Int) - 1) (by omega) (by omega)]
      refine mkF (w0 := w') (S := fun w' => Rd .u64 w' s (nn A)) (by omega) (by omega) (Ahead.refl _) hs ?_
      intro c w3 hcn hf ha
      refine ⟨h0', rfl, _, A.length, 0, rfl, h0', rfl, Nat.le_refl _, hf, by simp, ok_replicate (by omega) _, ?_⟩
      rw [List.drop_eq_nil_of_le (Nat.le_refl _), List.drop_eq_nil_of_le (by simp)]; simp [val]
  · rintro t0 t1 c t8 t9 w' ⟨h0, rfl, l, j, r, rfl, hr, rfl, hj, hf, hl, ol, hv⟩
    have hS := hf.src (fun _ h hs => Rd.ahead hs h)
    refine br_intro (fun hge => ?_) (fun hlt => ?_)
    · have hj' : 1 ≤ j := by simp at hge; omega
      have e1 : ((j : Int) - 1) = ((j - 1 : Nat) : Int) := by omega
      have hx := ok_getD hoA (by omega : 0 < B64) (j - 1)
      rw [e1]
      refine ldN hS (by omega) (by omega) ?_
      rw [Int.toNat_natCast]
      refine Calls.mono (Div64_spec hr hx hd) ?_
      rintro e w4 ⟨h4, rfl⟩
      refine ⟨_, _, rfl, ?_⟩
      have hf4 := hf.ahead h4
      refine stF hf4 (by omega) (by omega) ?_
      intro w6 hf6
      rw [Int.toNat_natCast] at hf6
      have hq := quot_limb hr hx
      have hm := Nat.mod_lt (r * B64 + A.getD (j - 1) 0) h0
      have hdm := Nat.mod_add_div (r * B64 + A.getD (j - 1) 0) d
      rw [wrap_i64 (by omega) (by omega)]
      refine ⟨⟨h0, by trivial, _, j - 1, _, rfl, hm, rfl, by omega, hf6, by simpa using hl, ok_set ol hq, ?_⟩, by omega⟩
      rw [drop_set_self _ _ _ (by omega), List.drop_eq_getElem_cons (by omega : j - 1 < A.length), ← getD_lt _ 0, show j - 1 + 1 = j by omega]
      simp only [val]
      rw [hv]
      generalize (r * B64 + A.getD (j - 1) 0) / d = q at *
      generalize (r * B64 + A.getD (j - 1) 0) % d = m at *
      generalize A.getD (j - 1) 0 = x at *
      generalize val B64 (l.drop j) = V at *
      rw [Nat.mul_add, Nat.add_mul, ← Nat.mul_assoc, Nat.mul_comm B64 r, Nat.mul_comm q d]
      omega
    · have hj' : j = 0 := by simp at hlt; omega
      subst hj'
      rw [List.drop_zero, List.drop_zero, hA0] at hv
      have hq : val B64 l = val B64 a / d := by
        rw [hv, Nat.add_comm, Nat.add_mul_div_right _ _ h0, Nat.div_eq_of_lt hr]; omega
      have hm : r = val B64 a % d := by
        rw [hv, Nat.add_comm, Nat.add_mul_mod_self_right, Nat.mod_eq_of_lt hr]
      refine Calls.mono (hf.told (by omega) ol) ?_
      rw [hq]
      intro e w3 h
      obtain ⟨h1, s, rfl, h2⟩ := h.ret
      have hc : thC (val B64 a) d = bigC (val B64 a / d) := if_neg (by omega)
      rw [← hc] at h2 ⊢
      refine ⟨_, _, rfl, br_intro (fun hz => ?_) (fun hz => ?_)⟩
      · have hz' : ¬ thC (val B64 a) d = 0 := by simpa using hz
        refine ⟨h1, _, by rw [if_neg hz']; rfl, ?_⟩
        rw [if_neg hz']; exact OwnNil.nil
      · have hz' : thC (val B64 a) d = 0 := by simpa using hz
        rw [hz', if_pos rfl] at h2
        rw [hz', ← hm]
        exact ⟨h1, _, rfl, h2⟩

theorem times_num {w : World} {p : Slc} {x m : Nat} (hp : Num w p x) (hm : m < B64) : Calls pr nat_Times_id #[p.v, .int .u64 (m : Int)] w (Ret w (bigC (x * m)) (x * m)) := by
  obtain ⟨a, ra, la, oa, rfl⟩ := hp
  exact Times_spec ra la oa hm
theorem through_num {w : World} {p : Slc} {x d : Nat} (hp : Num w p x) (hd : d < B64) : Calls pr nat_Through_id #[p.v, .int .u64 (d : Int)] w (RetQ w (thC x d) (x / d) (x % d)) := by
  obtain ⟨a, ra, la, oa, rfl⟩ := hp
  exact Through_spec ra la oa hd

theorem NatThrough_ok {w : World} {s0 : Slc} {l0 : List Nat} {x1 : Int} (r0 : Rd .u64 w s0 (nn l0)) (o0 : ok B64 l0) (n0 : l0.length * 8 ≤ 140737488351232)
    (h1 : 0 ≤ x1 ∧ x1 < 18446744073709551616) :
    Calls pr surdlaw01_NatThrough_id #[s0.v, .int .u64 x1] w (Yes w) := by
  have hB := B64v
  have hp := num_of r0 o0 n0
  generalize val B64 l0 = x at *
  obtain ⟨d, rfl⟩ := Int.eq_ofNat_of_zero_le h1.1
  have hd : d < B64 := by omega
  refine surdlaw01_NatThrough_vc s0 d w _ (br_intro (fun _ => end_lives (Ahead.refl _)) fun hn => ?_)
  have h0 : 0 < d := by simp at hn; omega
  refine Calls.mono (len_num hp) ?_
  rintro e w1 ⟨rfl, rfl⟩
  refine ⟨_, rfl, br_intro (fun _ => end_lives (Ahead.refl _)) fun hb => ?_⟩
  have hbx : bl x ≤ 33554432 := by simp at hb; omega
  have hq : bl (x / d) ≤ 67108864 := Nat.le_trans (bl_mono (Nat.div_le_self _ _)) (by omega)
  have hc : thC x d = 0 := by rw [thC, if_neg (by omega), bigC_ok hq]
  refine Calls.mono (through_num hp hd) ?_
  rintro e w4 ⟨h4, s, rfl, o4⟩
  rw [hc, if_pos rfl] at o4
  rw [hc, if_pos rfl]
  have hle : x / d * d ≤ x := Nat.div_mul_le_self _ _
  have hqm : bl (x / d * d) ≤ 67108864 := Nat.le_trans (bl_mono hle) (by omega)
  refine ⟨_, _, _, rfl, Calls.mono (times_num (own_num o4 hq) hd) ?_⟩
  intro e w5 hr
  obtain ⟨h5, t, rfl, _, ht⟩ := hr.num (bigC_ok hqm) hqm
  have hm := Nat.mod_lt x h0
  refine ⟨_, _, rfl, Calls.mono (From_spec (v := x % d) (by omega)) ?_⟩
  rintro e w6 ⟨h6, u, rfl, o6⟩
  have hmb : bl (x % d) ≤ 67108864 := Nat.le_trans (bl_mono (Nat.mod_le _ _)) (by omega)
  have hsum : x / d * d + x % d = x := by rw [Nat.mul_comm]; exact Nat.div_add_mod _ _
  have hsb : bl (x / d * d + x % d) ≤ 67108864 := by rw [hsum]; omega
  refine ⟨_, rfl, Calls.mono (add_num (ht.ahead h6) (own_num o6 hmb)) ?_⟩
  intro e w7 hr
  obtain ⟨h7, v, rfl, _, hv⟩ := hr.num (bigC_ok hsb) hsb
  have h07 := ((h4.trans h5).trans h6).trans h7
  refine ⟨_, _, rfl, br_true rfl (br_true rfl (br_true rfl (br_true (by simp; omega) ?_)))⟩
  refine Calls.mono (cmp_num hv (hp.ahead h07)) ?_
  rintro e w8 ⟨h8, rfl⟩
  exact ⟨_, rfl, br_true (by rw [cmpI_zero.2 hsum]; rfl) (end_lives (h07.trans h8))⟩

end Nat
end Go.Proofs.Ytaflfjbhlgbmdaa
