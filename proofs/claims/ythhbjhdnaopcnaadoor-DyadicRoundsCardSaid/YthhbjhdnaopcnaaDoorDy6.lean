/- dyadic's Round and the document's; the law DyadicRounds. No condition: the library's table is a premise. -/
import Derived.Test.YthhbjhdnaopcnaaDoorDy5
import Derived.Test.YthhbjhdnaopcnaaDoorZr
import Derived.Test.YthhbjhdnaopcnaaDoorDy4
namespace Go.Proofs.YthhbjhdnaopcnaaDoor
open Go Go.RowKit Eng Sp Dg L2
set_option linter.unusedVariables false
set_option linter.unusedSimpArgs false
set_option maxRecDepth 100000
namespace Dy
open _root_.Go.Proofs.YthhbjhdnaopcnaaDoor.Nat (OwnNil Num Num.bl OwnNil.mono OwnNil.ext OwnNil.rd OwnNil.ahead digs_len_bl num_of Yes)
open _root_.Go.Proofs.YthhbjhdnaopcnaaDoor.Ref (RN RN.nil RN.ext RN.ahead Len_spec Shl_spec Int_spec Kept_spec Lent Lent.ahead Lent.part Lent.whole len_mono bl_len32 len_lt_of own_step len32)
open Sb

/-! ### What rounding comes to -/
def rX (neg : Bool) (n : Nat) (e pos m : Int) : Nat := if n = 0 ∨ pos ≤ e then n else rq neg n (pos - e).toNat m
def rE (n : Nat) (e pos : Int) : Int := if n = 0 ∨ pos ≤ e then e else pos

theorem rounded_spec {w : World} {neg : Bool} {s : Slc} {n : Nat} {e pos m : Int} (hT : Tab w) (r : Rd .u64 w s (nn (digs B64 n))) (hl : (digs B64 n).length + 1 ≤ 2 ^ 44) (he : -2305843009213693952 ≤ e ∧ e ≤ 2305843009213693952) (hp : -2305843009213693952 ≤ pos ∧ pos ≤ 2305843009213693952) :
    Calls pr dyadic_rounded_id #[.agg (c3 neg s e), .int .i64 pos, .int .i64 m] w (DOut w (tC (rX neg n e pos m) (rE n e pos)) neg (rX neg n e pos m) (rE n e pos)) := by
  have hnum : Num w s n := ⟨_, r, by omega, ok_digs two64 _, val_digs two64 _⟩
  refine Calls.mono (dyadic_rounded_v2 neg s e pos m w (fun en w' => Ahead w w' → DOut w (tC (rX neg n e pos m) (rE n e pos)) neg (rX neg n e pos m) (rE n e pos) en w') ?_) fun en w' ⟨h1, h2⟩ => h2 h1
  intro w1 x1 a1
  refine Calls.mono (part_sign_spec (hnum.ahead a1)) ?_
  rintro en w2 ⟨h2, rfl⟩
  have a2 := a1.trans h2
  have old : (n = 0 ∨ pos ≤ e) → Calls pr dyadic_told_id #[.agg (c2 neg s), .int .i64 e] w2 fun e2 w3 => ∃ b1 : Bool, ∃ s1 : Slc, ∃ x2 : Int, ∃ x3 : Int, e2 = .returned (Value.tuple #[Value.agg #[Value.bool b1, s1.v, Value.int .i64 x2], Value.int .i64 x3]) ∧ Ahead w2 w3 ∧
      (∀ w4, Ext w3 w4 → Ahead w w4 → (Ahead w w4 → DOut w (tC (rX neg n e pos m) (rE n e pos)) neg (rX neg n e pos m) (rE n e pos) (.returned (Value.tuple #[Value.agg #[Value.bool b1, s1.v, Value.int .i64 x2], Value.int .i64 x3])) w4)) := by
    intro hc
    rw [rX, if_pos hc, rE, if_pos hc]
    refine Calls.mono (told_spec (hT.ahead a2) (hnum.ahead a2) (by omega)) ?_
    rintro en w3 ⟨h3, s3, rfl, o3⟩
    exact ⟨_, _, _, _, rfl, h3, fun w4 x4 a4 _ => ⟨a4, s3, rfl, (o3.ext x4).mono a2.size⟩⟩
  refine ⟨_, rfl, h2, br_intro (fun hz => ?_) (fun hz => ?_)⟩
  · exact old (.inl (sgn_zero_iff.1 (eq_of_beq hz)))
  · have hn : n ≠ 0 := fun e0 => by rw [e0] at hz; simp [sgn] at hz
    refine br_intro (fun hge => old (.inr (of_decide_eq_true hge))) (fun hlt => ?_)
    have hc : ¬ (n = 0 ∨ pos ≤ e) := by
      rintro (h | h)
      · exact hn h
      · exact of_decide_eq_false hlt h
    have hst : stq neg n e pos m = rq neg n (pos - e).toNat m := if_neg hc
    rw [rX, if_neg hc, rE, if_neg hc]
    have lq : (digs B64 (n / 2 ^ (pos - e).toNat)).length + 1 ≤ 2 ^ 44 := Nat.le_trans (Nat.add_le_add_right (len_mono two64 (Nat.div_le_self _ _)) 1) hl
    refine Calls.mono (steps_spec (hT.ahead a2) (r.ahead a2) hl he hp (fun h => absurd h hc)) ?_
    rw [hst]
    rintro en w7 ⟨h7, s3, rfl, o3⟩
    have a7 := a2.trans h7
    have lx : (digs B64 (rq neg n (pos - e).toNat m)).length ≤ 2 ^ 44 := by
      have h1 : rq neg n (pos - e).toNat m ≤ n / 2 ^ (pos - e).toNat + 1 := by unfold rq; split <;> omega
      refine Nat.le_trans (len_mono two64 h1) ?_
      have h2 : n / 2 ^ (pos - e).toNat < B64 ^ (digs B64 (n / 2 ^ (pos - e).toNat)).length := by
        have := val_lt (ok_digs two64 (n / 2 ^ (pos - e).toNat))
        rwa [val_digs two64] at this
      refine Nat.le_trans (digs_length_le two64 (m := (digs B64 (n / 2 ^ (pos - e).toNat)).length + 1) ?_) lq
      rw [Nat.pow_succ]
      have h3 := Nat.mul_le_mul_left (B64 ^ (digs B64 (n / 2 ^ (pos - e).toNat)).length) two64
      have h4 : 0 < B64 ^ (digs B64 (n / 2 ^ (pos - e).toNat)).length := Nat.pow_pos (by rw [B64v]; omega)
      exact Nat.lt_of_le_of_lt (Nat.succ_le_of_lt h2) (by omega)
    have hx : Num w7 s3 (rq neg n (pos - e).toNat m) := ⟨_, o3.rd, lx, ok_digs two64 _, val_digs two64 _⟩
    refine ⟨_, _, rfl, h7, Calls.mono (told_spec (hT.ahead a7) hx (by omega)) ?_⟩
    rintro en w8 ⟨h8, s4, rfl, o4⟩
    exact ⟨_, _, _, _, rfl, h8, fun w4 x4 a4 _ => ⟨a4, s4, rfl, (o4.ext x4).mono a7.size⟩⟩

def okM (m : Int) : Prop := 0 ≤ m ∧ m ≤ 2
instance (m : Int) : Decidable (okM m) := inferInstanceAs (Decidable (_ ∧ _))
def rdC (neg : Bool) (x : Nat) (e pos m : Int) : Int := if wi e then if wi pos then if okM m then tC (rX (nD neg x) (od x) (eD x e) pos m) (rE (od x) (eD x e) pos) else 81 else 1 else 80
theorem eD_far {w : World} {s : Slc} {x : Nat} {e : Int} (h : Num w s x) (he : wi e) : -2305843009213693952 ≤ eD x e ∧ eD x e ≤ 2305843009213693952 := by
  have h1 := Num.bl h
  have h2 := tz_le x
  unfold wi at he
  unfold eD
  split <;> omega
theorem Round_spec {w : World} {neg : Bool} {s : Slc} {x : Nat} {e pos m : Int} (hT : Tab w) (h : Num w s x) (hl : (digs B64 x).length + 1 ≤ 2 ^ 44) :
    Calls pr dyadic_Round_id #[.agg (c3 neg s e), .int .i64 pos, .int .i64 m] w (DOut w (rdC neg x e pos m) (nD neg x) (rX (nD neg x) (od x) (eD x e) pos m) (rE (od x) (eD x e) pos)) := by
  refine Calls.mono (dyadic_Round_v2 neg s e pos m w (fun en w' => Ahead w w' → DOut w (rdC neg x e pos m) (nD neg x) (rX (nD neg x) (od x) (eD x e) pos m) (rE (od x) (eD x e) pos) en w') ?_) fun en w' ⟨h1, h2⟩ => h2 h1
  intro w1 x1 a1
  refine Calls.mono (read_spec (hT.ahead a1) (h.ahead a1)) ?_
  rintro en w2 ⟨h2, s2, rfl, o2⟩
  have a2 := a1.trans h2
  refine ⟨_, _, _, _, rfl, h2, br_intro (fun hw => ?_) (fun hw => ?_)⟩
  · have hw' : ¬ wi e := fun h => by rw [if_pos h] at hw; simp at hw
    rw [if_neg hw']
    exact fun w3 x3 a3 _ => DOut.refused a3 (if_neg hw') (by omega)
  · have hw' : wi e := by
      by_cases h : wi e
      · exact h
      · rw [if_neg h] at hw; simp at hw
    rw [if_pos hw'] at o2
    rw [if_pos hw', if_pos hw']
    intro w4 x4 a4
    refine Calls.mono within_spec ?_
    rintro en w5 ⟨rfl, rfl⟩
    refine ⟨_, rfl, Ahead.refl _, br_intro (fun hk => ?_) (fun hk => ?_)⟩
    · have hk' : ¬ wi pos := by simpa using hk
      exact fun w3 x3 a3 _ => DOut.refused a3 (by rw [rdC, if_pos hw', if_neg hk']) (by omega)
    · have hk' : wi pos := by simpa using hk
      refine Calls.mono direction_spec ?_
      rintro en w7 ⟨rfl, rfl⟩
      refine ⟨_, rfl, Ahead.refl _, br_intro (fun hm => ?_) (fun hm => ?_)⟩
      · have hm' : ¬ okM m := fun hh => by unfold okM at hh; rw [decide_eq_true hh] at hm; simp at hm
        exact fun w3 x3 a3 _ => DOut.refused a3 (by rw [rdC, if_pos hw', if_pos hk', if_neg hm']) (by omega)
      · have hm' : okM m := by
          by_cases hh : okM m
          · exact hh
          · unfold okM at hh; rw [decide_eq_false hh] at hm; simp at hm
        have hc : rdC neg x e pos m = tC (rX (nD neg x) (od x) (eD x e) pos m) (rE (od x) (eD x e) pos) := by rw [rdC, if_pos hw', if_pos hk', if_pos hm']
        rw [hc]
        have lo : (digs B64 (od x)).length + 1 ≤ 2 ^ 44 := Nat.le_trans (Nat.add_le_add_right (len_mono two64 (od_le x)) 1) hl
        refine Calls.mono (rounded_spec (hT.ahead a4) (o2.ext x4).rd lo (eD_far h hw') (by unfold wi at hk'; omega)) ?_
        rintro en w9 ⟨h9, s9, rfl, o9⟩
        exact ⟨_, _, _, _, rfl, h9, fun w3 x3 a3 _ => ⟨a3, s9, rfl, (o9.ext x3).mono a4.size⟩⟩

/-! ### Rounding as the document says it -/
theorem odd_mod {n gap : Nat} (hn : n % 2 = 1) (hg : 0 < gap) : n % 2 ^ gap ≠ 0 := by
  obtain ⟨g, rfl⟩ : ∃ g, gap = g + 1 := ⟨gap - 1, by omega⟩
  intro h
  have := Nat.mod_add_div n (2 ^ (g + 1))
  rw [h, Nat.pow_succ, Nat.mul_comm (2 ^ g) 2, Nat.mul_assoc] at this
  omega
theorem floor_odd {neg : Bool} {n gap : Nat} (hn : n % 2 = 1) (hg : 0 < gap) : sg neg n / ((2 ^ gap : Nat) : Int) = sg neg (n / 2 ^ gap + if neg then 1 else 0) := by
  rw [floor_sg (Nat.pow_pos (by omega))]
  have h := odd_mod hn hg
  generalize n / 2 ^ gap = q
  cases neg
  · simp [sg]
  · rw [if_pos ⟨h, rfl⟩]
    simp [sg]; omega
theorem mod_odd {neg : Bool} {n gap : Nat} (hn : n % 2 = 1) (hg : 0 < gap) : sg neg n % ((2 ^ gap : Nat) : Int) = if neg then ((2 ^ gap : Nat) : Int) - ((n % 2 ^ gap : Nat) : Int) else ((n % 2 ^ gap : Nat) : Int) := by
  rw [mod_sub, floor_odd hn hg]
  have hd := Nat.mod_add_div n (2 ^ gap)
  have e : (n : Int) = ((n % 2 ^ gap : Nat) : Int) + ((2 ^ gap : Nat) : Int) * ((n / 2 ^ gap : Nat) : Int) := by
    conv => lhs; rw [← hd]
    push_cast; rfl
  generalize n / 2 ^ gap = q at *
  generalize n % 2 ^ gap = r at *
  generalize 2 ^ gap = S at *
  cases neg
  · simp [sg]; rw [Int.mul_comm] at e; omega
  · simp [sg]
    rw [Int.neg_mul, Int.add_mul, Int.one_mul, Int.mul_comm (q : Int)]; omega
theorem down_odd {neg : Bool} {n gap : Nat} (hn : n % 2 = 1) (hg : 0 < gap) : sg neg n / ((2 ^ gap : Nat) : Int) = sg neg (rq neg n gap 0) := by
  rw [floor_odd hn hg]; unfold rq upR; simp
theorem up_odd {neg : Bool} {n gap : Nat} (hn : n % 2 = 1) (hg : 0 < gap) : (sg neg n / ((2 ^ gap : Nat) : Int) + if sg neg n % ((2 ^ gap : Nat) : Int) ≠ 0 then 1 else 0) = sg neg (rq neg n gap 1) := by
  have h := odd_mod hn hg
  have hlt := Nat.mod_lt n (show 2 ^ gap > 0 from Nat.pow_pos (by omega))
  rw [floor_odd hn hg, mod_odd hn hg]
  unfold rq upR
  generalize n / 2 ^ gap = q
  generalize n % 2 ^ gap = r at *
  generalize 2 ^ gap = S at *
  cases neg
  · simp [sg, h]
  · have : ¬ (S : Int) - (r : Int) = 0 := by omega
    simp [sg, this]; omega
theorem near_odd {neg : Bool} {n gap : Nat} (hn : n % 2 = 1) (hg : 0 < gap) : (sg neg n / ((2 ^ gap : Nat) : Int) + if nearUp (sg neg n) (2 ^ gap) = true then 1 else 0) = sg neg (rq neg n gap 2) := by
  have h0 := odd_mod hn hg
  have hS : 0 < 2 ^ gap := Nat.pow_pos (by omega)
  have hlt := Nat.mod_lt n hS
  have hd := Nat.mod_add_div n (2 ^ gap)
  obtain ⟨g, rfl⟩ : ∃ g, gap = g + 1 := ⟨gap - 1, by omega⟩
  have htz := tz_odd hn
  unfold nearUp
  rw [floor_odd hn hg, mod_odd hn hg, sg_abs]
  unfold rq upR
  rw [if_pos rfl, Nat.add_sub_cancel, htz]
  have hS2 : 2 ^ (g + 1) = 2 * 2 ^ g := by rw [Nat.pow_succ]; omega
  have hH : 0 < 2 ^ g := Nat.pow_pos (by omega)
  have hbit : n / 2 ^ g % 2 = n % 2 ^ (g + 1) / 2 ^ g := by
    rw [hS2, Nat.mul_comm 2, Nat.mod_mul, Nat.add_comm, Nat.mul_comm (2 ^ g), Nat.add_comm, Nat.add_mul_div_right _ _ hH, Nat.div_eq_of_lt (Nat.mod_lt _ hH), Nat.zero_add]
  rw [hbit]
  have hrodd : n % 2 ^ (g + 1) % 2 = 1 := by
    rw [hS2, Nat.mul_assoc] at hd
    rw [hS2]; omega
  have hb1 : n % 2 ^ (g + 1) / 2 ^ g = 1 ↔ 2 ^ g ≤ n % 2 ^ (g + 1) := by
    constructor
    · intro h
      rcases Nat.lt_or_ge (n % 2 ^ (g + 1)) (2 ^ g) with h1 | h1
      · rw [Nat.div_eq_of_lt h1] at h; omega
      · exact h1
    · intro h
      refine Nat.div_eq_of_lt_le (by omega) (by omega)
  have hpar : g = 0 ∨ 2 ^ g % 2 = 0 := by
    rcases Nat.eq_zero_or_pos g with h | h
    · exact .inl h
    · right
      obtain ⟨k, rfl⟩ : ∃ k, g = k + 1 := ⟨g - 1, by omega⟩
      rw [Nat.pow_succ]; omega
  have h1 : g = 0 → 2 ^ g = 1 := fun h => by rw [h, Nat.pow_zero]
  clear hd
  generalize n % 2 ^ (g + 1) = r at *
  generalize n / 2 ^ (g + 1) = q at *
  generalize 2 ^ (g + 1) = S at *
  have hd1 : decide (r / 2 ^ g = 1) = decide (2 ^ g ≤ r) := by rw [Bool.eq_iff_iff]; simp [hb1]
  rw [hd1]
  clear hd1 hb1 hbit
  generalize 2 ^ g = H at *
  subst hS2
  cases neg
  · simp only [Bool.false_eq_true, if_false, Int.natAbs_natCast, Nat.add_zero]
    have : (decide (2 * H < 2 * r ∨ 2 * r = 2 * H ∧ q % 2 = 1)) = (decide (H ≤ r) && (decide (0 < g) || decide (q % 2 = 1))) := by
      rw [Bool.eq_iff_iff]
      simp only [decide_eq_true_eq, Bool.and_eq_true, Bool.or_eq_true]
      omega
    rw [this]
    simp only [sg, Bool.false_eq_true, if_false]
    split <;> omega
  · simp only [if_true]
    have ea : ((2 * H : Nat) : Int).natAbs = 2 * H := by omega
    have : (decide (2 * H < 2 * (((2 * H : Nat) : Int) - (r : Int)).natAbs ∨ 2 * (((2 * H : Nat) : Int) - (r : Int)).natAbs = 2 * H ∧ (q + 1) % 2 = 1)) = !(decide (H ≤ r) && (decide (0 < g) || decide (q % 2 = 1))) := by
      rw [Bool.eq_iff_iff]
      simp only [decide_eq_true_eq, Bool.not_eq_true', Bool.and_eq_false_iff, Bool.or_eq_false_iff, decide_eq_false_iff_not]
      omega
    rw [this]
    simp only [sg, if_true]
    cases (decide (H ≤ r) && (decide (0 < g) || decide (q % 2 = 1))) <;> simp <;> omega


theorem rq_zero {neg : Bool} {n gap : Nat} {m : Int} (hg : bl n + 2 < gap) : rq neg n gap m = if m = 2 then 0 else if (if m = 0 then neg else !neg) = true then 1 else 0 := by
  have h1 : n / 2 ^ gap = 0 := Nat.div_eq_of_lt (bl_le_iff.1 (by omega))
  have h2 : n / 2 ^ (gap - 1) = 0 := Nat.div_eq_of_lt (bl_le_iff.1 (by omega))
  unfold rq upR
  rw [h1, h2, Nat.zero_add]
  by_cases hm : m = 2
  · rw [if_pos hm, if_pos hm]; rfl
  · rw [if_neg hm, if_neg hm]

theorem rq_z0 {neg : Bool} {n gap : Nat} (hg : bl n + 2 < gap) : rq neg n gap 0 = if neg = true then 1 else 0 := by
  rw [rq_zero hg, if_neg (show ¬ (0 : Int) = 2 by omega), if_pos rfl]
theorem rq_z1 {neg : Bool} {n gap : Nat} (hg : bl n + 2 < gap) : rq neg n gap 1 = if (!neg) = true then 1 else 0 := by
  rw [rq_zero hg, if_neg (show ¬ (1 : Int) = 2 by omega), if_neg (show ¬ (1 : Int) = 0 by omega)]
theorem rq_z2 {neg : Bool} {n gap : Nat} (hg : bl n + 2 < gap) : rq neg n gap 2 = 0 := by rw [rq_zero hg, if_pos rfl]

set_option maxHeartbeats 1000000 in
theorem dRound_spec {w : World} {neg : Bool} {s : Slc} {n : Nat} {e pos m : Int} (r : RN w s n) (hneg : nD neg n = neg) (hod : od n = n) (h0 : n = 0 → e = 0) (hm : okM m) (hl : (digs B32 n).length + 8 ≤ 2 ^ 45)
    (he : -2305843009213693952 ≤ e ∧ e ≤ 2305843009213693952) (hp : -2305843009213693952 ≤ pos ∧ pos ≤ 2305843009213693952) :
    Calls pr surdref08_Round_id #[.agg (c3 neg s e), .int .i64 pos, .int .i64 m] w fun en w' => Ahead w w' ∧ ∃ s', en = .returned (.agg (c3 (nD neg (rX neg n e pos m)) s' (eD (rX neg n e pos m) (rE n e pos)))) ∧ RN w' s' (od (rX neg n e pos m)) := by
  have hz : zb (sg neg n) = neg := by rw [zb_sg, hneg]
  have hbl := bl_len32 (ok_digs two32 n)
  rw [val_digs two32] at hbl
  have same : (n = 0 ∨ pos ≤ e) → ∀ w3, RN w3 s n → ∃ s', Ending.returned (Value.agg #[Value.bool neg, s.v, Value.int .i64 e]) = .returned (.agg (c3 (nD neg (rX neg n e pos m)) s' (eD (rX neg n e pos m) (rE n e pos)))) ∧ RN w3 s' (od (rX neg n e pos m)) := by
    intro hc w3 r3
    rw [rX, if_pos hc, rE, if_pos hc, hneg, hod]
    have : eD n e = e := by
      by_cases hn : n = 0
      · rw [h0 hn, hn, eD_zero]
      · have h1 := od_odd hn
        rw [hod] at h1
        rw [eD, if_neg hn, tz_odd h1]; omega
    rw [this]
    exact ⟨s, rfl, r3⟩
  refine surdref08_Round_v2 neg s e pos m w _ fun w1 x1 a1 => ?_
  have hsg := zSign_spec (neg := neg) (r.ahead a1)
  rw [hneg] at hsg
  refine Calls.mono hsg ?_
  rintro en w2 ⟨h2, rfl⟩
  have a2 := a1.trans h2
  refine ⟨_, rfl, h2, br_intro (fun hc => ?_) (fun hc => br_intro (fun hge => ?_) (fun hlt => ?_))⟩
  · exact fun w3 x3 a3 => same (.inl (sgn_zero_iff.1 (eq_of_beq hc))) _ (r.ahead a3)
  · exact fun w3 x3 a3 => same (.inr (of_decide_eq_true hge)) _ (r.ahead a3)
  · have hn : n ≠ 0 := fun e0 => by rw [e0] at hc; simp [sgn] at hc
    have hpe := of_decide_eq_false hlt
    have hnc : ¬ (n = 0 ∨ pos ≤ e) := by
      rintro (h | h)
      · exact hn h
      · exact hpe h
    have hodd := od_odd hn
    rw [hod] at hodd
    rw [rX, if_neg hnc, rE, if_neg hnc]
    obtain ⟨gap, hgap⟩ : ∃ gap : Nat, (gap : Int) = pos - e := ⟨(pos - e).toNat, by omega⟩
    have hg0 : 0 < gap := by omega
    rw [← hgap, Int.toNat_natCast, hgap, wrap_i64 (x := pos - e) (by omega) (by omega), ← hgap]
    refine Calls.mono (Len_spec (r.ahead a2) (by omega)) ?_
    rintro en w5 ⟨rfl, rfl⟩
    have e2 : IntKind.i64.wrap ((bl n : Int) + 2) = (bl n : Int) + 2 := wrap_i64 (by omega) (by omega)
    have fz : ∀ {w9 : World}, rq neg n gap m = 0 → ∃ s', Ending.returned (Value.agg #[Value.bool false, Slc.v ⟨none, 0, 0⟩, Value.int .i64 0]) = .returned (.agg (c3 (nD neg (rq neg n gap m)) s' (eD (rq neg n gap m) pos))) ∧ RN w9 s' (od (rq neg n gap m)) := by
      intro w9 hz
      rw [hz, nD_zero, eD_zero, od_zero]
      exact ⟨_, rfl, RN.nil⟩
    refine ⟨_, rfl, Ahead.refl _, ?_⟩
    rw [e2]
    refine br_intro (fun hfar => ?_) (fun hnear => ?_)
    · have hf := of_decide_eq_true hfar
      have hfg : bl n + 2 < gap := by omega
      have one : ∀ v : Int, v.natAbs = 1 → decide (v < 0) = neg → rq neg n gap m = 1 → Calls pr surdref08_Int_id #[.int .i64 v, .int .i64 pos] w5 fun e4 w8 => ∃ b2 : Bool, ∃ s2 : Slc, ∃ x4 : Int, e4 = .returned (Value.agg #[Value.bool b2, s2.v, Value.int .i64 x4]) ∧ Ahead w5 w8 ∧
          (∀ w9, Ext w8 w9 → Ahead w w9 → ∃ s', Ending.returned (Value.agg #[Value.bool b2, s2.v, Value.int .i64 x4]) = .returned (.agg (c3 (nD neg (rq neg n gap m)) s' (eD (rq neg n gap m) pos))) ∧ RN w9 s' (od (rq neg n gap m))) := by
        intro v hv1 hv2 hq
        refine Calls.mono (dInt_spec (v := v) (e := pos) (by omega) (by omega) (by omega)) ?_
        rw [hv1, hv2, hq]
        rintro en w8 ⟨h8, s2, rfl, r2⟩
        exact ⟨_, _, _, rfl, h8, fun w9 x9 a9 => ⟨s2, rfl, r2.ext x9⟩⟩
      unfold okM at hm
      refine br_intro (fun hm0 => ?_) (fun hm0 => ?_)
      · have hm0' : m = 0 := eq_of_beq hm0
        subst hm0'
        have hrq := rq_z0 (neg := neg) hfg
        refine br_intro (fun hn1 => ?_) (fun hn1 => ?_)
        · exact one (-1) rfl (by rw [hn1]; rfl) (by rw [hrq, if_pos hn1])
        · refine br_false rfl fun w9 x9 a9 => fz (by rw [hrq, if_neg (by rw [hn1]; simp)])
      · have hm0' : m ≠ 0 := fun h => by rw [h] at hm0; simp at hm0
        refine br_intro (fun hm1 => ?_) (fun hm1 => ?_)
        · have hm1' : m = 1 := eq_of_beq hm1
          subst hm1'
          have hrq := rq_z1 (neg := neg) hfg
          refine br_intro (fun hn1 => ?_) (fun hn1 => ?_)
          · exact one 1 rfl (by cases neg <;> simp_all) (by rw [hrq, if_pos hn1])
          · exact fun w9 x9 a9 => fz (by rw [hrq, if_neg (by rw [hn1]; simp)])
        · have hm1' : m ≠ 1 := fun h => by rw [h] at hm1; simp at hm1
          have hm2 : m = 2 := by omega
          subst hm2
          exact fun w9 x9 a9 => fz (rq_z2 hfg)
    · have hf := of_decide_eq_false hnear
      have hS : 0 < 2 ^ gap := Nat.pow_pos (by omega)
      have l1 : (digs B32 1).length ≤ 1 := digs_length_le two32 (by rw [Nat.pow_one, B32v]; omega)
      have lS : (digs B32 (2 ^ gap)).length ≤ (digs B32 n).length + 1 := digs_length_le two32 (by
        rw [b32_pow]
        exact Nat.pow_lt_pow_right (by omega) (by omega))
      refine Calls.mono (Int_spec (v := 1) (by omega)) ?_
      rintro en w16 ⟨h16, s4, rfl, r4⟩
      refine ⟨_, rfl, h16, Calls.mono (Shl_spec r4 (by omega) (by omega) (by rw [Int.toNat_natCast]; omega)) ?_⟩
      rw [Int.toNat_natCast, Nat.one_mul]
      rintro en w17 ⟨h17, s5, rfl, r5⟩
      have r17 : ∀ {w18}, Ahead w w18 → RN w18 s (sg neg n).natAbs := fun a => by rw [sg_abs]; exact r.ahead a
      -- the quotient as the answer
      have fin : ∀ (w19 : World) (q : Slc), Ahead w w19 → RN w19 q (rq neg n gap m) → ∀ w20, Ext w19 w20 → Ahead w w20 → Calls pr surdref08_Of_id #[.agg (c2 (zb (sg neg (rq neg n gap m))) q), .int .i64 pos] w20 fun e9 w21 => ∃ b6 : Bool, ∃ s8 : Slc, ∃ x6 : Int,
          e9 = .returned (Value.agg #[Value.bool b6, s8.v, Value.int .i64 x6]) ∧ Ahead w20 w21 ∧ (∀ w22, Ext w21 w22 → Ahead w w22 → ∃ s', Ending.returned (Value.agg #[Value.bool b6, s8.v, Value.int .i64 x6]) = .returned (.agg (c3 (nD neg (rq neg n gap m)) s' (eD (rq neg n gap m) pos))) ∧ RN w22 s' (od (rq neg n gap m))) := by
        intro w19 q a19 rq1 w20 x20 a20
        have hle : rq neg n gap m ≤ n + 1 := by
          have := Nat.div_le_self n (2 ^ gap)
          unfold rq; split <;> omega
        have lq := dl_le two32 hle
        have lq1 := dl_add (x := n) (y := 1) (Nat.le_refl _) (by have := List.length_pos_iff.2 (digs_ne_nil two32 hn); omega)
        rw [zb_sg]
        refine Calls.mono (dOf_spec (rq1.ext x20) (by omega) (by omega)) ?_
        rintro en w21 ⟨h21, s8, rfl, r8⟩
        exact ⟨_, _, _, rfl, h21, fun w22 x22 a22 => ⟨s8, rfl, r8.ext x22⟩⟩
      refine ⟨_, rfl, h17, ?_⟩
      have a17 := (a2.trans h16).trans h17
      unfold okM at hm
      refine br_intro (fun hm0 => ?_) (fun hm0 => br_intro (fun hm1 => ?_) (fun hm1 => ?_))
      · have hm0' : m = 0 := eq_of_beq hm0
        subst hm0'
        intro w18 x18 a18
        have f := zFloor_spec (x := sg neg n) (r17 a18) (r5.ext x18) hS (by rw [sg_abs]; omega) (by omega)
        rw [hz, down_odd hodd hg0, sg_abs] at f
        refine Calls.mono f ?_
        rintro en w19 ⟨h19, s6, s7, rfl, r6, _⟩
        exact ⟨_, _, _, _, rfl, h19, fin w19 s6 (a18.trans h19) r6⟩
      · have hm1' : m = 1 := eq_of_beq hm1
        subst hm1'
        intro w18 x18 a18
        have f := zCeil_spec (x := sg neg n) (r17 a18) (r5.ext x18) hS (by rw [sg_abs]; omega) (by omega)
        rw [hz, up_odd hodd hg0] at f
        refine Calls.mono f ?_
        rintro en w19 ⟨h19, s6, b7, s7, rfl, r6⟩
        rw [sg_abs] at r6
        exact ⟨_, _, _, _, rfl, h19, fin w19 s6 (a18.trans h19) r6⟩
      · have hm0' : m ≠ 0 := fun h => by rw [h] at hm0; simp at hm0
        have hm1' : m ≠ 1 := fun h => by rw [h] at hm1; simp at hm1
        have hm2 : m = 2 := by omega
        subst hm2
        intro w18 x18 a18
        have f := zNear_spec (x := sg neg n) (r17 a18) (r5.ext x18) hS (by rw [sg_abs]; omega) (by omega)
        rw [hz, near_odd hodd hg0] at f
        refine Calls.mono f ?_
        rintro en w19 ⟨h19, s6, b7, s7, rfl, r6⟩
        rw [sg_abs] at r6
        exact ⟨_, _, _, _, rfl, h19, fin w19 s6 (a18.trans h19) r6⟩

end Dy
end Go.Proofs.YthhbjhdnaopcnaaDoor
