/- What the law leans on, part 3. No condition. -/
import Derived.Test.YthhbjhdnaopcnaaDoorZDyadicTwice2
namespace Go.Proofs.YthhbjhdnaopcnaaDoor
open Go Go.RowKit Eng Sp Dg L2
set_option linter.unusedVariables false
set_option linter.unusedSimpArgs false
set_option maxRecDepth 100000
namespace Dy
open _root_.Go.Proofs.YthhbjhdnaopcnaaDoor.Nat (OwnNil Num Num.bl OwnNil.mono OwnNil.ext OwnNil.rd OwnNil.ahead digs_len_bl num_of Yes)
open _root_.Go.Proofs.YthhbjhdnaopcnaaDoor.Ref (RN RN.nil RN.ext RN.ahead Int_spec Lent Lent.ahead Lent.whole len_mono bl_len32)
open Sb

def rX (neg : Bool) (n : Nat) (e pos m : Int) : Nat := if n = 0 ∨ pos ≤ e then n else rq neg n (pos - e).toNat m
def rE (n : Nat) (e pos : Int) : Int := if n = 0 ∨ pos ≤ e then e else pos

theorem rounded_spec {w : World} {neg : Bool} {s : Slc} {n : Nat} {e pos m : Int} (hT : Tab w) (r : Rd .u64 w s (nn (digs B64 n))) (hl : (digs B64 n).length + 1 ≤ 2 ^ 44) (he : -2305843009213693952 ≤ e ∧ e ≤ 2305843009213693952) (hp : -2305843009213693952 ≤ pos ∧ pos ≤ 2305843009213693952) :
    Calls pr dyadic_rounded_id #[.agg (c3 neg s e), .int .i64 pos, .int .i64 m] w (DOut w (tC (rX neg n e pos m) (rE n e pos)) neg (rX neg n e pos m) (rE n e pos)) := by
  have hnum : Num w s n := ⟨_, r, by omega, ok_digs two64 _, val_digs two64 _⟩
  refine Calls.mono (dyadic_rounded_v2 neg s e pos m w (fun en w' => Ahead w w' → DOut w (tC (rX neg n e pos m) (rE n e pos)) neg (rX neg n e pos m) (rE n e pos) en w') ?_) fun en w' ⟨h1, h2⟩ => h2 h1
  intro w1 x1 a1
  refine Calls.mono (part_sign_spec (hnum.ahead a1)) ?_
  rintro en w2 ⟨h2, rfl⟩
  have a2 := a1.trans h2
  have old : (n = 0 ∨ pos ≤ e) → Calls pr dyadic_told_id #[.agg (c2 neg s), .int .i64 e] w2 fun e2 w3 => ∃ b1 : Bool, ∃ s1 : Slc, ∃ x2 : Int, ∃ x3 : Int, e2 = .returned (Value.tuple #[Value.agg #[Value.bool b1, s1.v, Value.int .i64 x2], Value.int .i64 x3]) ∧ Ahead w2 w3 ∧
      (∀ w4, Ext w3 w4 → Ahead w w4 → (Ahead w w4 → DOut w (tC (rX neg n e pos m) (rE n e pos)) neg (rX neg n e pos m) (rE n e pos) (.returned (Value.tuple #[Value.agg #[Value.bool b1, s1.v, Value.int .i64 x2], Value.int .i64 x3])) w4)) := by
    intro hc
    rw [rX, if_pos hc, rE, if_pos hc]
    refine Calls.mono (told_spec (hT.ahead a2) (hnum.ahead a2) (by omega)) ?_
    rintro en w3 ⟨h3, s3, rfl, o3⟩
    exact ⟨_, _, _, _, rfl, h3, fun w4 x4 a4 _ => ⟨a4, s3, rfl, (o3.ext x4).mono a2.size⟩⟩
  refine ⟨_, rfl, h2, br_intro (fun hz => ?_) (fun hz => ?_)⟩
  · exact old (.inl (sgn_zero_iff.1 (eq_of_beq hz)))
  · have hn : n ≠ 0 := fun e0 => by rw [e0] at hz; simp [sgn] at hz
    refine br_intro (fun hge => old (.inr (of_decide_eq_true hge))) (fun hlt => ?_)
    have hc : ¬ (n = 0 ∨ pos ≤ e) := by
      rintro (h | h)
      · exact hn h
      · exact of_decide_eq_false hlt h
    have hst : stq neg n e pos m = rq neg n (pos - e).toNat m := if_neg hc
    rw [rX, if_neg hc, rE, if_neg hc]
    have lq : (digs B64 (n / 2 ^ (pos - e).toNat)).length + 1 ≤ 2 ^ 44 := Nat.le_trans (Nat.add_le_add_right (len_mono two64 (Nat.div_le_self _ _)) 1) hl
    refine Calls.mono (steps_spec (hT.ahead a2) (r.ahead a2) hl he hp (fun h => absurd h hc)) ?_
    rw [hst]
    rintro en w7 ⟨h7, s3, rfl, o3⟩
    have a7 := a2.trans h7
    have lx : (digs B64 (rq neg n (pos - e).toNat m)).length ≤ 2 ^ 44 := by
      have h1 : rq neg n (pos - e).toNat m ≤ n / 2 ^ (pos - e).toNat + 1 := by unfold rq; split <;> omega
      refine Nat.le_trans (len_mono two64 h1) ?_
      have h2 : n / 2 ^ (pos - e).toNat < B64 ^ (digs B64 (n / 2 ^ (pos - e).toNat)).length := by
        have := val_lt (ok_digs two64 (n / 2 ^ (pos - e).toNat))
        rwa [val_digs two64] at this
      refine Nat.le_trans (digs_length_le two64 (m := (digs B64 (n / 2 ^ (pos - e).toNat)).length + 1) ?_) lq
      rw [Nat.pow_succ]
      have h3 := Nat.mul_le_mul_left (B64 ^ (digs B64 (n / 2 ^ (pos - e).toNat)).length) two64
      have h4 : 0 < B64 ^ (digs B64 (n / 2 ^ (pos - e).toNat)).length := Nat.pow_pos (by rw [B64v]; omega)
      exact Nat.lt_of_le_of_lt (Nat.succ_le_of_lt h2) (by omega)
    have hx : Num w7 s3 (rq neg n (pos - e).toNat m) := ⟨_, o3.rd, lx, ok_digs two64 _, val_digs two64 _⟩
    refine ⟨_, _, rfl, h7, Calls.mono (told_spec (hT.ahead a7) hx (by omega)) ?_⟩
    rintro en w8 ⟨h8, s4, rfl, o4⟩
    exact ⟨_, _, _, _, rfl, h8, fun w4 x4 a4 _ => ⟨a4, s4, rfl, (o4.ext x4).mono a7.size⟩⟩

def okM (m : Int) : Prop := 0 ≤ m ∧ m ≤ 2
instance (m : Int) : Decidable (okM m) := inferInstanceAs (Decidable (_ ∧ _))
def rdC (neg : Bool) (x : Nat) (e pos m : Int) : Int := if wi e then if wi pos then if okM m then tC (rX (nD neg x) (od x) (eD x e) pos m) (rE (od x) (eD x e) pos) else 81 else 1 else 80
theorem eD_far {w : World} {s : Slc} {x : Nat} {e : Int} (h : Num w s x) (he : wi e) : -1125999906842624 - 1099511627776 ≤ eD x e ∧ eD x e ≤ 1125999906842624 + 1099511627776 := by
  have h1 := Num.bl h
  have h2 := tz_le x
  unfold wi at he
  unfold eD
  split <;> omega
theorem Round_spec {w : World} {neg : Bool} {s : Slc} {x : Nat} {e pos m : Int} (hT : Tab w) (h : Num w s x) (hl : (digs B64 x).length + 1 ≤ 2 ^ 44) :
    Calls pr dyadic_Round_id #[.agg (c3 neg s e), .int .i64 pos, .int .i64 m] w (DOut w (rdC neg x e pos m) (nD neg x) (rX (nD neg x) (od x) (eD x e) pos m) (rE (od x) (eD x e) pos)) := by
  refine Calls.mono (dyadic_Round_v2 neg s e pos m w (fun en w' => Ahead w w' → DOut w (rdC neg x e pos m) (nD neg x) (rX (nD neg x) (od x) (eD x e) pos m) (rE (od x) (eD x e) pos) en w') ?_) fun en w' ⟨h1, h2⟩ => h2 h1
  intro w1 x1 a1
  refine Calls.mono (read_spec (hT.ahead a1) (h.ahead a1)) ?_
  rintro en w2 ⟨h2, s2, rfl, o2⟩
  have a2 := a1.trans h2
  refine ⟨_, _, _, _, rfl, h2, br_intro (fun hw => ?_) (fun hw => ?_)⟩
  · have hw' : ¬ wi e := fun h => by rw [if_pos h] at hw; simp at hw
    rw [if_neg hw']
    exact fun w3 x3 a3 _ => DOut.refused a3 (if_neg hw') (by omega)
  · have hw' : wi e := by
      by_cases h : wi e
      · exact h
      · rw [if_neg h] at hw; simp at hw
    rw [if_pos hw'] at o2
    rw [if_pos hw', if_pos hw']
    intro w4 x4 a4
    refine Calls.mono within_spec ?_
    rintro en w5 ⟨rfl, rfl⟩
    refine ⟨_, rfl, Ahead.refl _, br_intro (fun hk => ?_) (fun hk => ?_)⟩
    · have hk' : ¬ wi pos := by simpa using hk
      exact fun w3 x3 a3 _ => DOut.refused a3 (by rw [rdC, if_pos hw', if_neg hk']) (by omega)
    · have hk' : wi pos := by simpa using hk
      refine Calls.mono direction_spec ?_
      rintro en w7 ⟨rfl, rfl⟩
      refine ⟨_, rfl, Ahead.refl _, br_intro (fun hm => ?_) (fun hm => ?_)⟩
      · have hm' : ¬ okM m := fun hh => by unfold okM at hh; rw [decide_eq_true hh] at hm; simp at hm
        exact fun w3 x3 a3 _ => DOut.refused a3 (by rw [rdC, if_pos hw', if_pos hk', if_neg hm']) (by omega)
      · have hm' : okM m := by
          by_cases hh : okM m
          · exact hh
          · unfold okM at hh; rw [decide_eq_false hh] at hm; simp at hm
        have hc : rdC neg x e pos m = tC (rX (nD neg x) (od x) (eD x e) pos m) (rE (od x) (eD x e) pos) := by rw [rdC, if_pos hw', if_pos hk', if_pos hm']
        rw [hc]
        have lo : (digs B64 (od x)).length + 1 ≤ 2 ^ 44 := Nat.le_trans (Nat.add_le_add_right (len_mono two64 (od_le x)) 1) hl
        refine Calls.mono (rounded_spec (hT.ahead a4) (o2.ext x4).rd lo (by have := eD_far h hw'; omega) (by unfold wi at hk'; omega)) ?_
        rintro en w9 ⟨h9, s9, rfl, o9⟩
        exact ⟨_, _, _, _, rfl, h9, fun w3 x3 a3 _ => ⟨a3, s9, rfl, (o9.ext x3).mono a4.size⟩⟩

theorem odd_mod {n gap : Nat} (hn : n % 2 = 1) (hg : 0 < gap) : n % 2 ^ gap ≠ 0 := by
  obtain ⟨g, rfl⟩ : ∃ g, gap = g + 1 := ⟨gap - 1, by omega⟩
  intro h
  have := Nat.mod_add_div n (2 ^ (g + 1))
  rw [h, Nat.pow_succ, Nat.mul_comm (2 ^ g) 2, Nat.mul_assoc] at this
  omega
theorem floor_odd {neg : Bool} {n gap : Nat} (hn : n % 2 = 1) (hg : 0 < gap) : sg neg n / ((2 ^ gap : Nat) : Int) = sg neg (n / 2 ^ gap + if neg then 1 else 0) := by
  rw [floor_sg (Nat.pow_pos (by omega))]
  have h := odd_mod hn hg
  generalize n / 2 ^ gap = q
  cases neg
  · simp [sg]
  · rw [if_pos ⟨h, rfl⟩]
    simp [sg]; omega
theorem mod_odd {neg : Bool} {n gap : Nat} (hn : n % 2 = 1) (hg : 0 < gap) : sg neg n % ((2 ^ gap : Nat) : Int) = if neg then ((2 ^ gap : Nat) : Int) - ((n % 2 ^ gap : Nat) : Int) else ((n % 2 ^ gap : Nat) : Int) := by
  rw [mod_sub, floor_odd hn hg]
  have hd := Nat.mod_add_div n (2 ^ gap)
  have e : (n : Int) = ((n % 2 ^ gap : Nat) : Int) + ((2 ^ gap : Nat) : Int) * ((n / 2 ^ gap : Nat) : Int) := by
    conv => lhs; rw [← hd]
    push_cast; rfl
  generalize n / 2 ^ gap = q at *
  generalize n % 2 ^ gap = r at *
  generalize 2 ^ gap = S at *
  cases neg
  · simp [sg]; rw [Int.mul_comm] at e; omega
  · simp [sg]
    rw [Int.neg_mul, Int.add_mul, Int.one_mul, Int.mul_comm (q : Int)]; omega
theorem down_odd {neg : Bool} {n gap : Nat} (hn : n % 2 = 1) (hg : 0 < gap) : sg neg n / ((2 ^ gap : Nat) : Int) = sg neg (rq neg n gap 0) := by
  rw [floor_odd hn hg]; unfold rq upR; simp
theorem up_odd {neg : Bool} {n gap : Nat} (hn : n % 2 = 1) (hg : 0 < gap) : (sg neg n / ((2 ^ gap : Nat) : Int) + if sg neg n % ((2 ^ gap : Nat) : Int) ≠ 0 then 1 else 0) = sg neg (rq neg n gap 1) := by
  have h := odd_mod hn hg
  have hlt := Nat.mod_lt n (show 2 ^ gap > 0 from Nat.pow_pos (by omega))
  rw [floor_odd hn hg, mod_odd hn hg]
  unfold rq upR
  generalize n / 2 ^ gap = q
  generalize n % 2 ^ gap = r at *
  generalize 2 ^ gap = S at *
  cases neg
  · simp [sg, h]
  · have : ¬ (S : Int) - (r : Int) = 0 := by omega
    simp [sg, this]; omega
theorem near_odd {neg : Bool} {n gap : Nat} (hn : n % 2 = 1) (hg : 0 < gap) : (sg neg n / ((2 ^ gap : Nat) : Int) + if nearUp (sg neg n) (2 ^ gap) = true then 1 else 0) = sg neg (rq neg n gap 2) := by
  have h0 := odd_mod hn hg
  have hS : 0 < 2 ^ gap := Nat.pow_pos (by omega)
  have hlt := Nat.mod_lt n hS
  have hd := Nat.mod_add_div n (2 ^ gap)
  obtain ⟨g, rfl⟩ : ∃ g, gap = g + 1 := ⟨gap - 1, by omega⟩
  have htz := tz_odd hn
  unfold nearUp
  rw [floor_odd hn hg, mod_odd hn hg, sg_abs]
  unfold rq upR
  rw [if_pos rfl, Nat.add_sub_cancel, htz]
  have hS2 : 2 ^ (g + 1) = 2 * 2 ^ g := by rw [Nat.pow_succ]; omega
  have hH : 0 < 2 ^ g := Nat.pow_pos (by omega)
  have hbit : n / 2 ^ g % 2 = n % 2 ^ (g + 1) / 2 ^ g := by
    rw [hS2, Nat.mul_comm 2, Nat.mod_mul, Nat.add_comm, Nat.mul_comm (2 ^ g), Nat.add_comm, Nat.add_mul_div_right _ _ hH, Nat.div_eq_of_lt (Nat.mod_lt _ hH), Nat.zero_add]
  rw [hbit]
  have hrodd : n % 2 ^ (g + 1) % 2 = 1 := by
    rw [hS2, Nat.mul_assoc] at hd
    rw [hS2]; omega
  have hb1 : n % 2 ^ (g + 1) / 2 ^ g = 1 ↔ 2 ^ g ≤ n % 2 ^ (g + 1) := by
    constructor
    · intro h
      rcases Nat.lt_or_ge (n % 2 ^ (g + 1)) (2 ^ g) with h1 | h1
      · rw [Nat.div_eq_of_lt h1] at h; omega
      · exact h1
    · intro h
      refine Nat.div_eq_of_lt_le (by omega) (by omega)
  have hpar : g = 0 ∨ 2 ^ g % 2 = 0 := by
    rcases Nat.eq_zero_or_pos g with h | h
    · exact .inl h
    · right
      obtain ⟨k, rfl⟩ : ∃ k, g = k + 1 := ⟨g - 1, by omega⟩
      rw [Nat.pow_succ]; omega
  have h1 : g = 0 → 2 ^ g = 1 := fun h => by rw [h, Nat.pow_zero]
  clear hd
  generalize n % 2 ^ (g + 1) = r at *
  generalize n / 2 ^ (g + 1) = q at *
  generalize 2 ^ (g + 1) = S at *
  have hd1 : decide (r / 2 ^ g = 1) = decide (2 ^ g ≤ r) := by rw [Bool.eq_iff_iff]; simp [hb1]
  rw [hd1]
  clear hd1 hb1 hbit
  generalize 2 ^ g = H at *
  subst hS2
  cases neg
  · simp only [Bool.false_eq_true, if_false, Int.natAbs_natCast, Nat.add_zero]
    have : (decide (2 * H < 2 * r ∨ 2 * r = 2 * H ∧ q % 2 = 1)) = (decide (H ≤ r) && (decide (0 < g) || decide (q % 2 = 1))) := by
      rw [Bool.eq_iff_iff]
      simp only [decide_eq_true_eq, Bool.and_eq_true, Bool.or_eq_true]
      omega
    rw [this]
    simp only [sg, Bool.false_eq_true, if_false]
    split <;> omega
  · simp only [if_true]
    have ea : ((2 * H : Nat) : Int).natAbs = 2 * H := by omega
    have : (decide (2 * H < 2 * (((2 * H : Nat) : Int) - (r : Int)).natAbs ∨ 2 * (((2 * H : Nat) : Int) - (r : Int)).natAbs = 2 * H ∧ (q + 1) % 2 = 1)) = !(decide (H ≤ r) && (decide (0 < g) || decide (q % 2 = 1))) := by
      rw [Bool.eq_iff_iff]
      simp only [decide_eq_true_eq, Bool.not_eq_true', Bool.and_eq_false_iff, Bool.or_eq_false_iff, decide_eq_false_iff_not]
      omega
    rw [this]
    simp only [sg, if_true]
    cases (decide (H ≤ r) && (decide (0 < g) || decide (q % 2 = 1))) <;> simp <;> omega

end Dy
end Go.Proofs.YthhbjhdnaopcnaaDoor
namespace Go.Proofs.YthhbjhdnaopcnaaDoor
open Go Go.RowKit Eng Sp Dg L2
set_option linter.unusedVariables false
set_option linter.unusedSimpArgs false
set_option maxRecDepth 100000
namespace Dy
open _root_.Go.Proofs.YthhbjhdnaopcnaaDoor.Nat (OwnNil Num Num.bl OwnNil.mono OwnNil.ext OwnNil.rd OwnNil.ahead digs_len_bl num_of Yes)
open _root_.Go.Proofs.YthhbjhdnaopcnaaDoor.Ref (RN RN.nil RN.ext RN.ahead Lent Lent.ahead Lent.ext Lent.whole len_mono Bk)
open Sb

/-- A program's answer (c, b4 s4 x3) beside the document's (f, b s5 x5): what 'alike' asks. -/
structure Beside (bs : Nat) (w' : World) (c f : Int) (b4 : Bool) (s4 : Slc) (x3 : Int) (b : Bool) (s5 : Slc) (x5 : Int) (N : Nat) (E : Int) (neg : Bool) : Prop where
  r : RN w' s5 N
  len : (digs B32 N).length ≤ 2 ^ 46
  code : c = if f = 0 then tK N E else f
  wn : f = 0 → b = neg
  we : f = 0 → x5 = E
  pn : b4 = if c = 0 then neg else false
  pe : x3 = if c = 0 then E else 0
  o : OwnNil bs w' s4 (if c = 0 then digs B64 N else [])
  len64 : bl N ≤ 67108864 → (digs B64 N).length ≤ 2 ^ 44
theorem Beside.ext {bs : Nat} {w w' : World} {c f : Int} {b4 : Bool} {s4 : Slc} {x3 : Int} {b : Bool} {s5 : Slc} {x5 : Int} {N : Nat} {E : Int} {neg : Bool} (h : Beside bs w c f b4 s4 x3 b s5 x5 N E neg) (x : Ext w w') : Beside bs w' c f b4 s4 x3 b s5 x5 N E neg :=
  ⟨h.r.ext x, h.len, h.code, h.wn, h.we, h.pn, h.pe, h.o.ext x, h.len64⟩

end Dy
end Go.Proofs.YthhbjhdnaopcnaaDoor
namespace Go.Proofs.YthhbjhdnaopcnaaDoor
open Go Go.RowKit Eng Sp Dg L2
set_option linter.unusedVariables false
set_option linter.unusedSimpArgs false
set_option maxRecDepth 100000
namespace Dy
open _root_.Go.Proofs.YthhbjhdnaopcnaaDoor.Nat (OwnNil Num Num.bl OwnNil.mono OwnNil.ext OwnNil.rd OwnNil.ahead OwnNil.nil digs_len_bl num_of Yes Norm_spec len_num)
open _root_.Go.Proofs.YthhbjhdnaopcnaaDoor.Ref (RN RN.nil RN.ext RN.ahead Int_spec Lent Lent.ahead Lent.ext Lent.whole len_mono bl_len32 Bk)
open Sb

theorem bl_shl {x n : Nat} (h : x ≠ 0) : bl (x * 2 ^ n) = n + bl x := by
  have := bl_add_pow (t := 0) (k := n) h (Nat.pow_pos (by omega))
  rw [Nat.zero_add, Nat.mul_comm] at this
  exact this

end Dy
end Go.Proofs.YthhbjhdnaopcnaaDoor
namespace Go.Proofs.YthhbjhdnaopcnaaDoor
open Go Go.RowKit Eng L2
set_option linter.unusedVariables false
set_option maxHeartbeats 2000000
set_option maxRecDepth 100000

/-- surd/dyadic.compare: function 87, its local variables as values. -/
theorem dyadic_compare_v2 (a0_0 : Bool) (a0_1 : Slc) (a0_2 : Int) (a1_0 : Bool) (a1_1 : Slc) (a1_2 : Int) (w : World) (R : Ending → World → Prop)
    
    (h : ∀ w1, Ext w w1 → Ahead w w1 →
    (Calls Tryd.prog 71 #[Value.agg #[Value.bool a0_0, a0_1.v]] w1 fun e1 w2 =>
     ∃ x1 : Int, e1 = .returned (Value.int .i64 x1) ∧ Ahead w1 w2 ∧
     (Calls Tryd.prog 71 #[Value.agg #[Value.bool a1_0, a1_1.v]] w2 fun e2 w3 =>
      ∃ x2 : Int, e2 = .returned (Value.int .i64 x2) ∧ Ahead w2 w3 ∧
      (br (decide (x1 < x2))
       (R (.returned (Value.int .i64 (-1))) w3)
       (br (decide (x1 > x2))
        (R (.returned (Value.int .i64 1)) w3)
        (br (x1 == 0)
         (R (.returned (Value.int .i64 0)) w3)
         (∀ w4, Ext w3 w4 → Ahead w w4 →
          (Calls Tryd.prog 72 #[Value.agg #[Value.bool a0_0, a0_1.v, Value.int .i64 a0_2]] w4 fun e3 w5 =>
           ∃ x3 : Int, e3 = .returned (Value.int .i64 x3) ∧ Ahead w4 w5 ∧
           (Calls Tryd.prog 72 #[Value.agg #[Value.bool a1_0, a1_1.v, Value.int .i64 a1_2]] w5 fun e4 w6 =>
            ∃ x4 : Int, e4 = .returned (Value.int .i64 x4) ∧ Ahead w5 w6 ∧
            (br (x3 != x4)
             (∀ w7, Ext w6 w7 → Ahead w w7 →
              (Calls Tryd.prog 72 #[Value.agg #[Value.bool a0_0, a0_1.v, Value.int .i64 a0_2]] w7 fun e5 w8 =>
               ∃ x5 : Int, e5 = .returned (Value.int .i64 x5) ∧ Ahead w7 w8 ∧
               (Calls Tryd.prog 72 #[Value.agg #[Value.bool a1_0, a1_1.v, Value.int .i64 a1_2]] w8 fun e6 w9 =>
                ∃ x6 : Int, e6 = .returned (Value.int .i64 x6) ∧ Ahead w8 w9 ∧
                (br (decide (x5 < x6))
                 (R (.returned (Value.int .i64 (IntKind.i64.wrap (0 - x1)))) w9)
                 (R (.returned (Value.int .i64 x1)) w9)))))
             (br (decide (a0_2 > a1_2))
              (∀ w11, Ext w6 w11 → Ahead w w11 →
               (Calls Tryd.prog 107 #[a0_1.v, Value.int .i64 (IntKind.i64.wrap (a0_2 - a1_2))] w11 fun e7 w12 =>
                ∃ s1 : Slc, e7 = .returned s1.v ∧ Ahead w11 w12 ∧
                (Calls Tryd.prog 113 #[s1.v, a1_1.v] w12 fun e8 w13 =>
                 ∃ x7 : Int, e8 = .returned (Value.int .i64 x7) ∧ Ahead w12 w13 ∧
                 (R (.returned (Value.int .i64 (IntKind.i64.wrap (x1 * x7)))) w13))))
              (∀ w14, Ext w6 w14 → Ahead w w14 →
               (Calls Tryd.prog 107 #[a1_1.v, Value.int .i64 (IntKind.i64.wrap (a1_2 - a0_2))] w14 fun e9 w15 =>
                ∃ s2 : Slc, e9 = .returned s2.v ∧ Ahead w14 w15 ∧
                (Calls Tryd.prog 113 #[a0_1.v, s2.v] w15 fun e10 w16 =>
                 ∃ x8 : Int, e10 = .returned (Value.int .i64 x8) ∧ Ahead w15 w16 ∧
                 (R (.returned (Value.int .i64 (IntKind.i64.wrap (x1 * x8)))) w16)))))))))))))))
     :
    Calls Tryd.prog 87 #[Value.agg #[Value.bool a0_0, a0_1.v, Value.int .i64 a0_2], Value.agg #[Value.bool a1_0, a1_1.v, Value.int .i64 a1_2]] w (fun e_ w_ => Ahead w w_ ∧ R e_ w_) := by
  refine dyadic_compare_vc a0_0 a0_1 a0_2 a1_0 a1_1 a1_2 w _  ?_
  · have A : Ahead w w := Ahead.refl w
    have X : Ext w w := Ext.refl w
    refine newC_t fun bk1 u1 hb1 ha_u1 hs B1 => ?_
    have g1 : w.heap.size ≤ bk1 := by have := A.size; omega
    replace A := A.trans ha_u1
    replace X := X.trans (Ext.of_ahead ha_u1)
    clear hs hb1
    refine newC_t fun bk2 u2 hb2 ha_u2 hs B2 => ?_
    have g2 : w.heap.size ≤ bk2 := by have := A.size; omega
    have l1_2 : bk1 < bk2 := by have := B1.lt; omega
    replace B1 := B1.ahead ha_u2
    replace A := A.trans ha_u2
    replace X := X.trans (Ext.of_ahead ha_u2)
    clear hs hb2
    have hd_ := Sp.Ahead.drew u2
    replace B1 := B1.ahead hd_
    replace B2 := B2.ahead hd_
    replace A := A.trans hd_
    replace X := X.trans (Ext.of_ahead hd_)
    clear hd_
    refine ldB_t 0 B1 rfl ?_
    refine ldS_t 1 B1 rfl ?_
    refine ldB_t 0 B2 rfl ?_
    refine ldS_t 1 B2 rfl ?_
    replace h := h _ X A
    refine Calls.mono h ?_
    clear h
    rintro e1 w2 ⟨x1, he_, ha_w2, h⟩
    refine ⟨x1, he_, ?_⟩
    clear he_
    replace B1 := B1.ahead ha_w2
    replace B2 := B2.ahead ha_w2
    replace A := A.trans ha_w2
    replace X := X.trans (Ext.of_ahead ha_w2)
    replace X : Ext w2 w2 := Ext.refl _
    refine ⟨ha_w2, ?_⟩
    refine Calls.mono h ?_
    clear h
    rintro e2 w3 ⟨x2, he_, ha_w3, h⟩
    refine ⟨x2, he_, ?_⟩
    clear he_
    replace B1 := B1.ahead ha_w3
    replace B2 := B2.ahead ha_w3
    replace A := A.trans ha_w3
    replace X := X.trans (Ext.of_ahead ha_w3)
    replace X : Ext w3 w3 := Ext.refl _
    refine ⟨ha_w3, ?_⟩
    refine br_map h (fun h_ => ?_) (fun h_ => ?_)
    · skip
      clear h
      have h := h_
      clear h_
      exact ⟨A, h⟩
    · skip
      clear h
      have h := h_
      clear h_
      refine br_map h (fun h_ => ?_) (fun h_ => ?_)
      · skip
        clear h
        have h := h_
        clear h_
        exact ⟨A, h⟩
      · skip
        clear h
        have h := h_
        clear h_
        refine br_map h (fun h_ => ?_) (fun h_ => ?_)
        · skip
          clear h
          have h := h_
          clear h_
          exact ⟨A, h⟩
        · skip
          clear h
          have h := h_
          clear h_
          have hd_ := Sp.Ahead.drew w3
          replace B1 := B1.ahead hd_
          replace B2 := B2.ahead hd_
          replace A := A.trans hd_
          replace X := X.trans (Ext.of_ahead hd_)
          clear hd_
          refine ldB_t 0 B1 rfl ?_
          refine ldS_t 1 B1 rfl ?_
          refine ldI_t 2 B1 rfl ?_
          refine ldB_t 0 B2 rfl ?_
          refine ldS_t 1 B2 rfl ?_
          refine ldI_t 2 B2 rfl ?_
          replace h := h _ X A
          refine Calls.mono h ?_
          clear h
          rintro e3 w5 ⟨x3, he_, ha_w5, h⟩
          refine ⟨x3, he_, ?_⟩
          clear he_
          replace B1 := B1.ahead ha_w5
          replace B2 := B2.ahead ha_w5
          replace A := A.trans ha_w5
          replace X := X.trans (Ext.of_ahead ha_w5)
          replace X : Ext w5 w5 := Ext.refl _
          refine ⟨ha_w5, ?_⟩
          refine Calls.mono h ?_
          clear h
          rintro e4 w6 ⟨x4, he_, ha_w6, h⟩
          refine ⟨x4, he_, ?_⟩
          clear he_
          replace B1 := B1.ahead ha_w6
          replace B2 := B2.ahead ha_w6
          replace A := A.trans ha_w6
          replace X := X.trans (Ext.of_ahead ha_w6)
          replace X : Ext w6 w6 := Ext.refl _
          refine ⟨ha_w6, ?_⟩
          refine br_map h (fun h_ => ?_) (fun h_ => ?_)
          · skip
            clear h
            have h := h_
            clear h_
            have hd_ := Sp.Ahead.drew w6
            replace B1 := B1.ahead hd_
            replace B2 := B2.ahead hd_
            replace A := A.trans hd_
            replace X := X.trans (Ext.of_ahead hd_)
            clear hd_
            refine ldB_t 0 B1 rfl ?_
            refine ldS_t 1 B1 rfl ?_
            refine ldI_t 2 B1 rfl ?_
            refine ldB_t 0 B2 rfl ?_
            refine ldS_t 1 B2 rfl ?_
            refine ldI_t 2 B2 rfl ?_
            replace h := h _ X A
            refine Calls.mono h ?_
            clear h
            rintro e5 w8 ⟨x5, he_, ha_w8, h⟩
            refine ⟨x5, he_, ?_⟩
            clear he_
            replace B1 := B1.ahead ha_w8
            replace B2 := B2.ahead ha_w8
            replace A := A.trans ha_w8
            replace X := X.trans (Ext.of_ahead ha_w8)
            replace X : Ext w8 w8 := Ext.refl _
            refine ⟨ha_w8, ?_⟩
            refine Calls.mono h ?_
            clear h
            rintro e6 w9 ⟨x6, he_, ha_w9, h⟩
            refine ⟨x6, he_, ?_⟩
            clear he_
            replace B1 := B1.ahead ha_w9
            replace B2 := B2.ahead ha_w9
            replace A := A.trans ha_w9
            replace X := X.trans (Ext.of_ahead ha_w9)
            replace X : Ext w9 w9 := Ext.refl _
            refine ⟨ha_w9, ?_⟩
            refine br_map h (fun h_ => ?_) (fun h_ => ?_)
            · skip
              clear h
              have h := h_
              clear h_
              exact ⟨A, h⟩
            · skip
              clear h
              have h := h_
              clear h_
              exact ⟨A, h⟩
          · skip
            clear h
            have h := h_
            clear h_
            refine ldS_t 1 B1 rfl ?_
            refine ldS_t 1 B2 rfl ?_
            intro w10 ha_w10
            replace B1 := B1.ahead ha_w10
            replace B2 := B2.ahead ha_w10
            replace A := A.trans ha_w10
            replace X := X.trans (Ext.of_ahead ha_w10)
            clear ha_w10
            refine ldI_t 2 B1 rfl ?_
            refine ldI_t 2 B2 rfl ?_
            refine br_map h (fun h_ => ?_) (fun h_ => ?_)
            · skip
              clear h
              have h := h_
              clear h_
              refine ldI_t 2 B1 rfl ?_
              refine ldI_t 2 B2 rfl ?_
              replace h := h _ X A
              refine Calls.mono h ?_
              clear h
              rintro e7 w12 ⟨s1, he_, ha_w12, h⟩
              refine ⟨s1, he_, ?_⟩
              clear he_
              replace B1 := B1.ahead ha_w12
              replace B2 := B2.ahead ha_w12
              replace A := A.trans ha_w12
              replace X := X.trans (Ext.of_ahead ha_w12)
              replace X : Ext w12 w12 := Ext.refl _
              refine Calls.mono h ?_
              clear h
              rintro e8 w13 ⟨x7, he_, ha_w13, h⟩
              refine ⟨x7, he_, ?_⟩
              clear he_
              replace B1 := B1.ahead ha_w13
              replace B2 := B2.ahead ha_w13
              replace A := A.trans ha_w13
              replace X := X.trans (Ext.of_ahead ha_w13)
              replace X : Ext w13 w13 := Ext.refl _
              exact ⟨A, h⟩
            · skip
              clear h
              have h := h_
              clear h_
              refine ldI_t 2 B2 rfl ?_
              refine ldI_t 2 B1 rfl ?_
              replace h := h _ X A
              refine Calls.mono h ?_
              clear h
              rintro e9 w15 ⟨s2, he_, ha_w15, h⟩
              refine ⟨s2, he_, ?_⟩
              clear he_
              replace B1 := B1.ahead ha_w15
              replace B2 := B2.ahead ha_w15
              replace A := A.trans ha_w15
              replace X := X.trans (Ext.of_ahead ha_w15)
              replace X : Ext w15 w15 := Ext.refl _
              refine Calls.mono h ?_
              clear h
              rintro e10 w16 ⟨x8, he_, ha_w16, h⟩
              refine ⟨x8, he_, ?_⟩
              clear he_
              replace B1 := B1.ahead ha_w16
              replace B2 := B2.ahead ha_w16
              replace A := A.trans ha_w16
              replace X := X.trans (Ext.of_ahead ha_w16)
              replace X : Ext w16 w16 := Ext.refl _
              exact ⟨A, h⟩

/-- surd/dyadic.Compare: function 44, its local variables as values. -/
theorem dyadic_Compare_v2 (a0_a_0 : Bool) (a0_a_1 : Slc) (a0_a_2 : Int) (a1_b_0 : Bool) (a1_b_1 : Slc) (a1_b_2 : Int) (w : World) (R : Ending → World → Prop)
    
    (h : ∀ w1, Ext w w1 → Ahead w w1 →
    (Calls Tryd.prog 86 #[Value.agg #[Value.bool a0_a_0, a0_a_1.v, Value.int .i64 a0_a_2], Value.agg #[Value.bool a1_b_0, a1_b_1.v, Value.int .i64 a1_b_2]] w1 fun e1 w2 =>
     ∃ b1 : Bool, ∃ s1 : Slc, ∃ x1 : Int, ∃ b2 : Bool, ∃ s2 : Slc, ∃ x2 : Int, ∃ x3 : Int, e1 = .returned (Value.tuple #[Value.agg #[Value.bool b1, s1.v, Value.int .i64 x1], Value.agg #[Value.bool b2, s2.v, Value.int .i64 x2], Value.int .i64 x3]) ∧ Ahead w1 w2 ∧
     (br (x3 != 0)
      (∀ w3, Ext w2 w3 → Ahead w w3 →
       (R (.returned (Value.tuple #[Value.int .i64 0, Value.int .i64 x3])) w3))
      (∀ w4, Ext w2 w4 → Ahead w w4 →
       (Calls Tryd.prog 87 #[Value.agg #[Value.bool b1, s1.v, Value.int .i64 x1], Value.agg #[Value.bool b2, s2.v, Value.int .i64 x2]] w4 fun e2 w5 =>
        ∃ x4 : Int, e2 = .returned (Value.int .i64 x4) ∧ Ahead w4 w5 ∧
        (R (.returned (Value.tuple #[Value.int .i64 x4, Value.int .i64 0])) w5))))))
     :
    Calls Tryd.prog 44 #[Value.agg #[Value.bool a0_a_0, a0_a_1.v, Value.int .i64 a0_a_2], Value.agg #[Value.bool a1_b_0, a1_b_1.v, Value.int .i64 a1_b_2]] w (fun e_ w_ => Ahead w w_ ∧ R e_ w_) := by
  refine dyadic_Compare_vc a0_a_0 a0_a_1 a0_a_2 a1_b_0 a1_b_1 a1_b_2 w _  ?_
  · have A : Ahead w w := Ahead.refl w
    have X : Ext w w := Ext.refl w
    refine newC_t fun bk1 u1 hb1 ha_u1 hs B1 => ?_
    have g1 : w.heap.size ≤ bk1 := by have := A.size; omega
    replace A := A.trans ha_u1
    replace X := X.trans (Ext.of_ahead ha_u1)
    clear hs hb1
    refine newC_t fun bk2 u2 hb2 ha_u2 hs B2 => ?_
    have g2 : w.heap.size ≤ bk2 := by have := A.size; omega
    have l1_2 : bk1 < bk2 := by have := B1.lt; omega
    replace B1 := B1.ahead ha_u2
    replace A := A.trans ha_u2
    replace X := X.trans (Ext.of_ahead ha_u2)
    clear hs hb2
    refine ldB_t 0 B1 rfl ?_
    refine ldS_t 1 B1 rfl ?_
    refine ldI_t 2 B1 rfl ?_
    refine ldB_t 0 B2 rfl ?_
    refine ldS_t 1 B2 rfl ?_
    refine ldI_t 2 B2 rfl ?_
    replace h := h _ X A
    refine Calls.mono h ?_
    clear h
    rintro e1 w2 ⟨b1, s1, x1, b2, s2, x2, x3, he_, ha_w2, h⟩
    refine ⟨b1, s1, x1, b2, s2, x2, x3, he_, ?_⟩
    clear he_
    replace B1 := B1.ahead ha_w2
    replace B2 := B2.ahead ha_w2
    replace A := A.trans ha_w2
    replace X := X.trans (Ext.of_ahead ha_w2)
    replace X : Ext w2 w2 := Ext.refl _
    refine newC_t fun bk3 u3 hb3 ha_u3 hs B3 => ?_
    have g3 : w.heap.size ≤ bk3 := by have := A.size; omega
    have l1_3 : bk1 < bk3 := by have := B1.lt; omega
    have l2_3 : bk2 < bk3 := by have := B2.lt; omega
    replace B1 := B1.ahead ha_u3
    replace B2 := B2.ahead ha_u3
    replace A := A.trans ha_u3
    replace X := X.trans (Ext.of_ahead ha_u3)
    clear hs hb3
    refine newC_t fun bk4 u4 hb4 ha_u4 hs B4 => ?_
    have g4 : w.heap.size ≤ bk4 := by have := A.size; omega
    have l1_4 : bk1 < bk4 := by have := B1.lt; omega
    have l2_4 : bk2 < bk4 := by have := B2.lt; omega
    have l3_4 : bk3 < bk4 := by have := B3.lt; omega
    replace B1 := B1.ahead ha_u4
    replace B2 := B2.ahead ha_u4
    replace B3 := B3.ahead ha_u4
    replace A := A.trans ha_u4
    replace X := X.trans (Ext.of_ahead ha_u4)
    clear hs hb4
    refine stC_t 0 B3 rfl rfl rfl fun u5 k_u5 B3_ => ?_
    replace B3 : Blt u5 bk3 98 #[Value.bool b1, (⟨none, 0, 0⟩ : Slc).v, Value.int .i64 0] := B3_
    clear B3_
    refine stC_t 1 B3 rfl rfl rfl fun u6 k_u6 B3_ => ?_
    replace B3 : Blt u6 bk3 98 #[Value.bool b1, s1.v, Value.int .i64 0] := B3_
    clear B3_
    refine stC_t 2 B3 rfl rfl rfl fun u7 k_u7 B3_ => ?_
    replace B3 : Blt u7 bk3 98 #[Value.bool b1, s1.v, Value.int .i64 x1] := B3_
    clear B3_
    have kk_u5 := ((k_u5.trans k_u6).trans k_u7)
    replace B1 := kk_u5.blt B1 (by omega)
    replace B2 := kk_u5.blt B2 (by omega)
    replace B4 := kk_u5.blt B4 (by omega)
    replace A := kk_u5.ahead A g3
    replace X := X.trans kk_u5.ext
    clear k_u7 k_u6 k_u5
    refine stC_t 0 B4 rfl rfl rfl fun u8 k_u8 B4_ => ?_
    replace B4 : Blt u8 bk4 98 #[Value.bool b2, (⟨none, 0, 0⟩ : Slc).v, Value.int .i64 0] := B4_
    clear B4_
    refine stC_t 1 B4 rfl rfl rfl fun u9 k_u9 B4_ => ?_
    replace B4 : Blt u9 bk4 98 #[Value.bool b2, s2.v, Value.int .i64 0] := B4_
    clear B4_
    refine stC_t 2 B4 rfl rfl rfl fun u10 k_u10 B4_ => ?_
    replace B4 : Blt u10 bk4 98 #[Value.bool b2, s2.v, Value.int .i64 x2] := B4_
    clear B4_
    have kk_u8 := ((k_u8.trans k_u9).trans k_u10)
    replace B1 := kk_u8.blt B1 (by omega)
    replace B2 := kk_u8.blt B2 (by omega)
    replace B3 := kk_u8.blt B3 (by omega)
    replace A := kk_u8.ahead A g4
    replace X := X.trans kk_u8.ext
    clear k_u10 k_u9 k_u8
    refine br_map h (fun h_ => ?_) (fun h_ => ?_)
    · skip
      clear h
      have h := h_
      clear h_
      replace h := h _ X A
      exact ⟨A, h⟩
    · skip
      clear h
      have h := h_
      clear h_
      refine ldB_t 0 B3 rfl ?_
      refine ldS_t 1 B3 rfl ?_
      refine ldI_t 2 B3 rfl ?_
      refine ldB_t 0 B4 rfl ?_
      refine ldS_t 1 B4 rfl ?_
      refine ldI_t 2 B4 rfl ?_
      replace h := h _ X A
      refine Calls.mono h ?_
      clear h
      rintro e2 w5 ⟨x4, he_, ha_w5, h⟩
      refine ⟨x4, he_, ?_⟩
      clear he_
      replace B1 := B1.ahead ha_w5
      replace B2 := B2.ahead ha_w5
      replace B3 := B3.ahead ha_w5
      replace B4 := B4.ahead ha_w5
      replace A := A.trans ha_w5
      replace X := X.trans (Ext.of_ahead ha_w5)
      replace X : Ext w5 w5 := Ext.refl _
      exact ⟨A, h⟩

end Go.Proofs.YthhbjhdnaopcnaaDoor
namespace Go.Proofs.YthhbjhdnaopcnaaDoor
open Go Go.RowKit Eng Sp Dg L2
set_option linter.unusedVariables false
set_option linter.unusedSimpArgs false
set_option maxRecDepth 100000
namespace Dy
open _root_.Go.Proofs.YthhbjhdnaopcnaaDoor.Nat (OwnNil Num Num.bl OwnNil.mono OwnNil.ext OwnNil.rd OwnNil.ahead OwnNil.nil digs_len_bl num_of Yes cmp_num)
open _root_.Go.Proofs.YthhbjhdnaopcnaaDoor.Ref (RN RN.nil RN.ext RN.ahead Int_spec len_mono bl_len32)
open Sb

def cmpZ (a b : Int) : Int := if a < b then -1 else if a = b then 0 else 1
/-- A dyadic's steps of 2^b. -/
def dv (z e b : Int) : Int := z * ((2 ^ (e - b).toNat : Nat) : Int)
def dcmp (z e z' e' : Int) : Int := cmpZ (dv z e (min e e')) (dv z' e' (min e e'))
theorem sg_mul (neg : Bool) (n m : Nat) : sg neg n * (m : Int) = sg neg (n * m) := by
  unfold sg; cases neg <;> simp [Int.neg_mul]
theorem dv_sg (neg : Bool) (n : Nat) (e b : Int) : dv (sg neg n) e b = sg neg (n * 2 ^ (e - b).toNat) := sg_mul neg n _
theorem two_pos (k : Nat) : 0 < 2 ^ k := Nat.pow_pos (by omega)
theorem mul2_zero {n k : Nat} : n * 2 ^ k = 0 ↔ n = 0 := by
  have := two_pos k
  constructor
  · intro h
    rcases Nat.mul_eq_zero.1 h with h | h
    · exact h
    · omega
  · intro h; rw [h, Nat.zero_mul]
theorem sgn_mul2 (neg : Bool) (n k : Nat) : sgn neg (n * 2 ^ k) = sgn neg n := by
  unfold sgn
  by_cases h : n = 0
  · rw [if_pos h, if_pos (mul2_zero.2 h)]
  · rw [if_neg h, if_neg (fun h' => h (mul2_zero.1 h'))]
theorem cmpZ_sg (neg neg' : Bool) (A B : Nat) : cmpZ (sg neg A) (sg neg' B) = if sgn neg A < sgn neg' B then -1 else if sgn neg' B < sgn neg A then 1 else if sgn neg A = 0 then 0 else sgn neg A * cmpI A B := by
  unfold cmpZ sg sgn cmpI
  by_cases hA : A = 0 <;> by_cases hB : B = 0 <;> cases neg <;> cases neg' <;> simp [hA, hB] <;> (repeat' split) <;> omega
theorem lt_of_bl {A B : Nat} (h : bl A < bl B) : A < B := by
  rcases Nat.lt_or_ge A B with h1 | h1
  · exact h1
  · have := bl_mono h1; omega
def calg (s : Int) (n : Nat) (e s' : Int) (n' : Nat) (e' : Int) : Int :=
  if s < s' then -1 else if s' < s then 1 else if s = 0 then 0 else if e + bl n ≠ e' + bl n' then (if e + bl n < e' + bl n' then -s else s) else
    if e' < e then s * cmpI (n * 2 ^ (e - e').toNat) n' else s * cmpI n (n' * 2 ^ (e' - e).toNat)
theorem cmpI_lt {a b : Nat} (h : a < b) : cmpI a b = -1 := if_pos h
theorem cmpI_gt {a b : Nat} (h : b < a) : cmpI a b = 1 := by rw [cmpI, if_neg (by omega), if_pos h]
theorem calg_eq (neg : Bool) (n : Nat) (e : Int) (neg' : Bool) (n' : Nat) (e' : Int) : calg (sgn neg n) n e (sgn neg' n') n' e' = dcmp (sg neg n) e (sg neg' n') e' := by
  rw [dcmp, dv_sg, dv_sg, cmpZ_sg, sgn_mul2, sgn_mul2, calg]
  by_cases h1 : sgn neg n < sgn neg' n'
  · rw [if_pos h1, if_pos h1]
  rw [if_neg h1, if_neg h1]
  by_cases h2 : sgn neg' n' < sgn neg n
  · rw [if_pos h2, if_pos h2]
  rw [if_neg h2, if_neg h2]
  by_cases h3 : sgn neg n = 0
  · rw [if_pos h3, if_pos h3]
  rw [if_neg h3, if_neg h3]
  have hn : n ≠ 0 := fun h => h3 (sgn_zero_iff.2 h)
  have hn' : n' ≠ 0 := fun h => h3 (by have := sgn_zero_iff (neg := neg').2 h; omega)
  have b1 := bl_shl (n := (e - min e e').toNat) hn
  have b2 := bl_shl (n := (e' - min e e').toNat) hn'
  by_cases h4 : e + bl n ≠ e' + bl n'
  · rw [if_pos h4]
    by_cases h5 : e + bl n < e' + bl n'
    · rw [if_pos h5, cmpI_lt (lt_of_bl (by omega))]; omega
    · rw [if_neg h5, cmpI_gt (lt_of_bl (by omega))]; omega
  · rw [if_neg h4]
    by_cases h5 : e' < e
    · rw [if_pos h5, show min e e' = e' by omega, Int.sub_self]; simp
    · rw [if_neg h5, show min e e' = e by omega, Int.sub_self]; simp
theorem sgn_range (neg : Bool) (n : Nat) : -1 ≤ sgn neg n ∧ sgn neg n ≤ 1 := by unfold sgn; split <;> (try split) <;> omega
theorem cmpI_range (a b : Nat) : -1 ≤ cmpI a b ∧ cmpI a b ≤ 1 := by unfold cmpI; split <;> (try split) <;> omega
theorem smul_range {s c : Int} (hs : -1 ≤ s ∧ s ≤ 1) (hc : -1 ≤ c ∧ c ≤ 1) : -1 ≤ s * c ∧ s * c ≤ 1 := by
  have : s = -1 ∨ s = 0 ∨ s = 1 := by omega
  rcases this with rfl | rfl | rfl <;> omega
/-- The room that a shift to the other's exponent takes. -/
theorem shift_room {n n' k m : Nat} (h : bl n + k = bl n') (hm : (digs B64 n').length + 2 ≤ m) : (digs B64 n).length + k / 64 + 1 ≤ m := by
  have h1 := bl_len (ok_digs two64 n')
  rw [val_digs two64] at h1
  have h2 := digs_len_bl (N := n) (m := bl n / 64 + 1) (by omega)
  omega
def far (e : Int) : Prop := -2305843009213693952 ≤ e ∧ e ≤ 2305843009213693952
theorem num_digs {w : World} {s : Slc} {n : Nat} (r : Rd .u64 w s (nn (digs B64 n))) (h : (digs B64 n).length ≤ 2 ^ 44) : Num w s n := ⟨_, r, h, ok_digs two64 _, val_digs two64 _⟩

theorem compare_spec {w : World} {neg neg' : Bool} {s s' : Slc} {n n' : Nat} {e e' : Int} (r : Rd .u64 w s (nn (digs B64 n))) (r' : Rd .u64 w s' (nn (digs B64 n'))) (hl : (digs B64 n).length + 2 ≤ 2 ^ 44) (hl' : (digs B64 n').length + 2 ≤ 2 ^ 44) (he : far e) (he' : far e') :
    Calls pr dyadic_compare_id #[.agg (c3 neg s e), .agg (c3 neg' s' e')] w fun en w' => Ahead w w' ∧ en = .returned (.int .i64 (dcmp (sg neg n) e (sg neg' n') e')) := by
  unfold far at he he'
  rw [← calg_eq]
  have N1 := num_digs r (by omega)
  have N2 := num_digs r' (by omega)
  have hb1 := Num.bl N1
  have hb2 := Num.bl N2
  refine dyadic_compare_v2 neg s e neg' s' e' w _ fun w1 x1 a1 => Calls.mono (part_sign_spec (N1.ahead a1)) ?_
  rintro en w2 ⟨h2, rfl⟩
  refine ⟨_, rfl, h2, Calls.mono (part_sign_spec (N2.ahead (a1.trans h2))) ?_⟩
  rintro en w3 ⟨h3, rfl⟩
  have hs1 := sgn_range neg n
  unfold calg
  refine ⟨_, rfl, h3, br_intro (fun h => ?_) (fun h => br_intro (fun h4 => ?_) (fun h4 => br_intro (fun h5 => ?_) (fun h5 => ?_)))⟩
  · rw [if_pos (of_decide_eq_true h)]
  · rw [if_neg (of_decide_eq_false h), if_pos (of_decide_eq_true h4)]
  · rw [if_neg (of_decide_eq_false h), if_neg (of_decide_eq_false h4), if_pos (eq_of_beq h5)]
  · rw [if_neg (of_decide_eq_false h), if_neg (of_decide_eq_false h4), if_neg (fun h6 => by rw [h6] at h5; simp at h5)]
    intro w4 x4 a4
    refine Calls.mono (number_top_spec (N1.ahead a4) (by omega)) ?_
    rintro en w5 ⟨h5', rfl⟩
    have a5 := a4.trans h5'
    refine ⟨_, rfl, h5', Calls.mono (number_top_spec (N2.ahead a5) (by omega)) ?_⟩
    rintro en w6 ⟨h6, rfl⟩
    refine ⟨_, rfl, h6, br_intro (fun ht => ?_) (fun ht => br_intro (fun hg => ?_) (fun hg => ?_))⟩
    · have ht' : e + bl n ≠ e' + bl n' := fun h => by rw [h] at ht; simp at ht
      rw [if_pos ht']
      intro w7 x7 a7
      refine Calls.mono (number_top_spec (N1.ahead a7) (by omega)) ?_
      rintro en w8 ⟨h8, rfl⟩
      refine ⟨_, rfl, h8, Calls.mono (number_top_spec (N2.ahead (a7.trans h8)) (by omega)) ?_⟩
      rintro en w9 ⟨h9, rfl⟩
      refine ⟨_, rfl, h9, br_intro (fun hl => ?_) (fun hl => ?_)⟩
      · have := of_decide_eq_true hl
        rw [if_pos (by omega), wrap_i64 (by omega) (by omega), Int.zero_sub]
      · have := of_decide_eq_false hl
        rw [if_neg (by omega)]
    · have ht' : e + bl n = e' + bl n' := by have : e + bl n - 1 = e' + bl n' - 1 := by simpa using ht
                                             omega
      have hg' := of_decide_eq_true hg
      rw [if_neg (fun h => h ht'), if_pos (by omega)]
      intro w11 x11 a11
      have hk := shift_room (n := n) (n' := n') (k := (e - e').toNat) (by omega) hl'
      rw [wrap_i64 (by omega) (by omega), show e - e' = (((e - e').toNat : Nat) : Int) by omega]
      refine Calls.mono (dleft_spec (r.ahead a11) hk) ?_
      rintro en w12 ⟨h12, s1, rfl, o1⟩
      have o12 := o1.rd
      have lsh : (digs B64 (n * 2 ^ (e - e').toNat)).length ≤ 2 ^ 44 := by
        by_cases h0 : n = 0
        · rw [h0, Nat.zero_mul, digs_zero]; simp
        · have hb := bl_shl (n := (e - e').toNat) h0
          have h1 := bl_len (ok_digs two64 n')
          rw [val_digs two64] at h1
          have := digs_len_bl (N := n * 2 ^ (e - e').toNat) (m := (digs B64 n').length) (by omega)
          omega
      refine ⟨_, rfl, h12, Calls.mono (cmp_num (num_digs o12 lsh) (N2.ahead (a11.trans h12))) ?_⟩
      rintro en w13 ⟨h13, rfl⟩
      refine ⟨_, rfl, h13, ?_⟩
      have hr := smul_range hs1 (cmpI_range (n * 2 ^ (e - e').toNat) n')
      rw [wrap_i64 (by omega) (by omega)]
      rfl
    · have ht' : e + bl n = e' + bl n' := by have : e + bl n - 1 = e' + bl n' - 1 := by simpa using ht
                                             omega
      have hg' := of_decide_eq_false hg
      rw [if_neg (fun h => h ht'), if_neg (by omega)]
      intro w11 x11 a11
      have hk := shift_room (n := n') (n' := n) (k := (e' - e).toNat) (by omega) hl
      rw [wrap_i64 (by omega) (by omega), show e' - e = (((e' - e).toNat : Nat) : Int) by omega]
      refine Calls.mono (dleft_spec (r'.ahead a11) hk) ?_
      rintro en w12 ⟨h12, s1, rfl, o1⟩
      have o12 := o1.rd
      have lsh : (digs B64 (n' * 2 ^ (e' - e).toNat)).length ≤ 2 ^ 44 := by
        by_cases h0 : n' = 0
        · rw [h0, Nat.zero_mul, digs_zero]; simp
        · have hb := bl_shl (n := (e' - e).toNat) h0
          have h1 := bl_len (ok_digs two64 n)
          rw [val_digs two64] at h1
          have := digs_len_bl (N := n' * 2 ^ (e' - e).toNat) (m := (digs B64 n).length) (by omega)
          omega
      refine ⟨_, rfl, h12, Calls.mono (cmp_num (N1.ahead (a11.trans h12)) (num_digs o12 lsh)) ?_⟩
      rintro en w13 ⟨h13, rfl⟩
      refine ⟨_, rfl, h13, ?_⟩
      have hr := smul_range hs1 (cmpI_range n (n' * 2 ^ (e' - e).toNat))
      rw [wrap_i64 (by omega) (by omega)]
      rfl

end Dy
end Go.Proofs.YthhbjhdnaopcnaaDoor
namespace Go.Proofs.YthhbjhdnaopcnaaDoor
open Go Go.RowKit Eng Sp Dg
set_option linter.unusedVariables false
set_option linter.unusedSimpArgs false
namespace Dy

/-- A number of steps, rounded to one of S steps each. -/
def rdm (m v : Int) (S : Nat) : Int := v / (S : Int) + if m = 0 then 0 else if m = 2 then (if nearUp v S = true then 1 else 0) else if v % (S : Int) ≠ 0 then 1 else 0
theorem rq_rdm {neg : Bool} {n gap : Nat} {m : Int} (hn : n % 2 = 1) (hg : 0 < gap) (hm : okM m) : sg neg (rq neg n gap m) = rdm m (sg neg n) (2 ^ gap) := by
  unfold okM at hm
  unfold rdm
  have : m = 0 ∨ m = 1 ∨ m = 2 := by omega
  rcases this with rfl | rfl | rfl
  · rw [if_pos rfl, Int.add_zero, down_odd hn hg]
  · rw [if_neg (by omega), if_neg (by omega), ← up_odd hn hg]
  · rw [if_neg (by omega), if_pos rfl, ← near_odd hn hg]
theorem rdm_scale {m v : Int} {S k : Nat} (hk : 0 < k) : rdm m (v * (k : Int)) (S * k) = rdm m v S := by
  have hk' : (0 : Int) < k := by omega
  have e1 : v * (k : Int) / ((S * k : Nat) : Int) = v / (S : Int) := by push_cast; exact Int.mul_ediv_mul_of_pos_left _ _ hk'
  have e2 : v * (k : Int) % ((S * k : Nat) : Int) = v % (S : Int) * k := by push_cast; rw [Int.mul_comm v, Int.mul_comm (S : Int), Int.mul_emod_mul_of_pos _ _ hk', Int.mul_comm]
  have e3 : (v % (S : Int) * k ≠ 0) ↔ (v % (S : Int) ≠ 0) := by
    constructor
    · intro h h1; rw [h1, Int.zero_mul] at h; exact h rfl
    · intro h h1
      rcases Int.mul_eq_zero.1 h1 with h2 | h2
      · exact h h2
      · omega
  have e4 : nearUp (v * (k : Int)) (S * k) = nearUp v S := by
    unfold nearUp
    rw [e1, e2, Int.natAbs_mul, Int.natAbs_natCast]
    have h1 : S * k < 2 * ((v % (S : Int)).natAbs * k) ↔ S < 2 * (v % (S : Int)).natAbs := by
      rw [← Nat.mul_assoc]; exact Nat.mul_lt_mul_right hk
    have h2 : 2 * ((v % (S : Int)).natAbs * k) = S * k ↔ 2 * (v % (S : Int)).natAbs = S := by
      rw [← Nat.mul_assoc]; exact Nat.mul_right_cancel_iff hk
    rw [Bool.eq_iff_iff]
    simp only [decide_eq_true_eq, h1, h2]
  unfold rdm
  rw [e1, e4]
  by_cases h0 : v % (S : Int) = 0
  · rw [e2, h0, Int.zero_mul]
  · rw [e2, if_pos (e3.2 h0), if_pos h0]
theorem rdm_exact {m y : Int} {S : Nat} (hS : 0 < S) : rdm m (y * (S : Int)) S = y := by
  have hS' : (S : Int) ≠ 0 := by omega
  have e1 : y * (S : Int) / (S : Int) = y := Int.mul_ediv_cancel _ hS'
  have e2 : y * (S : Int) % (S : Int) = 0 := Int.mul_emod_left _ _
  have e4 : nearUp (y * (S : Int)) S = false := by
    unfold nearUp; rw [e1, e2]; simp; omega
  unfold rdm
  rw [e1, e2, e4]; simp
/-- Where what is rounded lies. -/
theorem rdm_down {v : Int} {S : Nat} (hS : 0 < S) : rdm 0 v S * (S : Int) ≤ v ∧ v < rdm 0 v S * (S : Int) + S := by
  have h1 := Int.emod_add_mul_ediv v S
  have h2 := Int.emod_nonneg v (show (S : Int) ≠ 0 by omega)
  have h3 := Int.emod_lt_of_pos v (show (0 : Int) < S by omega)
  unfold rdm
  rw [if_pos rfl, Int.add_zero, Int.mul_comm]
  generalize (S : Int) * (v / (S : Int)) = q at *
  omega
theorem rdm_up {v : Int} {S : Nat} (hS : 0 < S) : v ≤ rdm 1 v S * (S : Int) ∧ rdm 1 v S * (S : Int) < v + S := by
  have h1 := Int.emod_add_mul_ediv v S
  have h2 := Int.emod_nonneg v (show (S : Int) ≠ 0 by omega)
  have h3 := Int.emod_lt_of_pos v (show (0 : Int) < S by omega)
  unfold rdm
  rw [if_neg (by omega), if_neg (by omega), Int.mul_comm, Int.mul_add]
  generalize (S : Int) * (v / (S : Int)) = q at *
  split
  · rw [Int.mul_one]; omega
  · rw [Int.mul_zero]; omega
theorem rdm_near {v : Int} {S : Nat} (hS : 0 < S) : 2 * (rdm 2 v S * (S : Int) - v) ≤ S ∧ 2 * (v - rdm 2 v S * (S : Int)) ≤ S ∧ (2 * (rdm 2 v S * (S : Int) - v) = S ∨ 2 * (v - rdm 2 v S * (S : Int)) = S → rdm 2 v S % 2 = 0) := by
  have h1 := Int.emod_add_mul_ediv v S
  have h2 := Int.emod_nonneg v (show (S : Int) ≠ 0 by omega)
  have h3 := Int.emod_lt_of_pos v (show (0 : Int) < S by omega)
  unfold rdm
  rw [if_neg (by omega), if_pos rfl, Int.add_mul]
  rw [Int.mul_comm] at h1
  have hu : nearUp v S = true ↔ ((S : Int) < 2 * (v % (S : Int)) ∨ 2 * (v % (S : Int)) = S ∧ (v / (S : Int)) % 2 = 1) := by
    unfold nearUp
    rw [decide_eq_true_eq]
    omega
  generalize v / (S : Int) = d at *
  generalize d * (S : Int) = q at *
  split
  · rename_i h
    rw [Int.one_mul]
    rcases hu.1 h with h4 | ⟨h4, h5⟩
    · refine ⟨by omega, by omega, fun h => by omega⟩
    · refine ⟨by omega, by omega, fun h => by omega⟩
  · rename_i h
    rw [Int.zero_mul]
    have h6 := fun h' => h (hu.2 h')
    have h7 : ¬ (S : Int) < 2 * (v % (S : Int)) := fun h' => h6 (.inl h')
    refine ⟨by omega, by omega, fun h => ?_⟩
    have h8 : 2 * (v % (S : Int)) = S := by omega
    have h9 : ¬ d % 2 = 1 := fun h' => h6 (.inr ⟨h8, h'⟩)
    omega
theorem rdm_mono {m v v' : Int} {S : Nat} (hS : 0 < S) (hm : okM m) (h : v ≤ v') : rdm m v S ≤ rdm m v' S := by
  rcases Int.lt_or_le (rdm m v' S) (rdm m v S) with hlt | hle
  · exfalso
    have hk : (rdm m v' S + 1) * (S : Int) ≤ rdm m v S * (S : Int) := Int.mul_le_mul_of_nonneg_right (by omega) (by omega)
    rw [Int.add_mul, Int.one_mul] at hk
    unfold okM at hm
    have : m = 0 ∨ m = 1 ∨ m = 2 := by omega
    rcases this with rfl | rfl | rfl
    · have h1 := rdm_down (v := v) hS
      have h2 := rdm_down (v := v') hS
      omega
    · have h1 := rdm_up (v := v) hS
      have h2 := rdm_up (v := v') hS
      omega
    · have h1 := rdm_near (v := v) hS
      have h2 := rdm_near (v := v') hS
      have : v = v' := by omega
      subst this
      omega
  · exact hle
theorem lt_mul_cancel {a b : Int} {S : Nat} (h : a * (S : Int) < b * S) : a < b := Int.lt_of_mul_lt_mul_right h (by omega)
theorem rdm_twice {m v : Int} {S T : Nat} (hS : 0 < S) (hT : 0 < T) (hm : m = 0 ∨ m = 1) : rdm m (rdm m v S) T = rdm m v (S * T) := by
  have hST : 0 < S * T := Nat.mul_pos hS hT
  rcases hm with rfl | rfl
  · unfold rdm
    simp only [if_pos]
    rw [Int.add_zero, Int.add_zero, Int.add_zero, Int.ediv_ediv, if_neg (fun h => by have := h.1; omega), Int.sub_zero]
    push_cast; rfl
  · have e : ∀ (u : Int) (R : Nat), 0 < R → rdm 1 u R = -((-u) / (R : Int)) := by
      intro u R hR
      have h1 := rdm_up (v := u) hR
      have h2 := Int.emod_add_mul_ediv (-u) R
      have h3 := Int.emod_nonneg (-u) (show (R : Int) ≠ 0 by omega)
      have h4 := Int.emod_lt_of_pos (-u) (show (0 : Int) < R by omega)
      rw [Int.mul_comm] at h2
      have h5 : rdm 1 u R < -((-u) / (R : Int)) + 1 := lt_mul_cancel (S := R) (by rw [Int.add_mul, Int.one_mul, Int.neg_mul]; omega)
      have h6 : -((-u) / (R : Int)) < rdm 1 u R + 1 := lt_mul_cancel (S := R) (by rw [Int.add_mul, Int.one_mul, Int.neg_mul]; omega)
      omega
    rw [e _ _ hT, e _ _ hS, e _ _ hST, Int.neg_neg, Int.ediv_ediv, if_neg (fun h => by have := h.1; omega), Int.sub_zero]
    push_cast; rfl

theorem dv_scale {z e b b' : Int} (h1 : b ≤ b') (h2 : b' ≤ e) : dv z e b = dv z e b' * ((2 ^ (b' - b).toNat : Nat) : Int) := by
  unfold dv
  rw [Int.mul_assoc]
  congr 1
  rw [← Int.natCast_mul, ← Nat.pow_add]
  congr 2
  omega
theorem cmpZ_mul {a c : Int} {k : Nat} (hk : 0 < k) : cmpZ (a * (k : Int)) (c * (k : Int)) = cmpZ a c := by
  have h1 : a * (k : Int) < c * k ↔ a < c := ⟨lt_mul_cancel, fun h => Int.mul_lt_mul_of_pos_right h (by omega)⟩
  have h2 : a * (k : Int) = c * k ↔ a = c := ⟨fun h => Int.eq_of_mul_eq_mul_right (by omega) h, fun h => by rw [h]⟩
  unfold cmpZ
  simp only [h1, h2]
theorem dcmp_dv {z e z' e' b : Int} (h : b ≤ e) (h' : b ≤ e') : dcmp z e z' e' = cmpZ (dv z e b) (dv z' e' b) := by
  rw [dcmp, dv_scale (b := b) (b' := min e e') (by omega) (by omega), dv_scale (z := z') (b := b) (b' := min e e') (by omega) (by omega), cmpZ_mul (two_pos _)]
theorem dv_zero (e b : Int) : dv 0 e b = 0 := Int.zero_mul _
theorem sg_zero (neg : Bool) : sg neg 0 = 0 := by cases neg <;> rfl
theorem sg_nD (neg : Bool) (x : Nat) : sg (nD neg x) (od x) = sg neg (od x) := by
  by_cases h : x = 0
  · subst h; rw [od_zero, sg_zero, sg_zero]
  · rw [nD_ne h]
/-- Lowest terms are the same number. -/
theorem dv_od {neg : Bool} {X : Nat} {E b : Int} (h : b ≤ E) : dv (sg (nD neg X) (od X)) (eD X E) b = dv (sg neg X) E b := by
  rw [sg_nD]
  by_cases h0 : X = 0
  · subst h0; rw [od_zero, sg_zero, dv_zero, dv_zero]
  · rw [dv_sg, dv_sg, eD, if_neg h0]
    congr 1
    rw [show (E + (tz X : Int) - b).toNat = tz X + (E - b).toNat by omega, Nat.pow_add, ← Nat.mul_assoc, Nat.mul_comm (od X), od_mul]
/-- A number in lowest terms. -/
structure NF (neg : Bool) (n : Nat) (e : Int) : Prop where
  s : nD neg n = neg
  o : od n = n
  z : n = 0 → e = 0
theorem NF.of (neg : Bool) (x : Nat) (e : Int) : NF (nD neg x) (od x) (eD x e) :=
  ⟨nD_od neg x, od_od x, fun h => by rw [od_zero_iff] at h; rw [h, eD_zero]⟩
theorem NF.odd {neg : Bool} {n : Nat} {e : Int} (h : NF neg n e) (hn : n ≠ 0) : n % 2 = 1 := by
  have := od_odd hn
  rwa [h.o] at this
theorem NF.eq {neg neg' : Bool} {n n' : Nat} {e e' b : Int} (h : NF neg n e) (h' : NF neg' n' e') (hb : b ≤ e) (hb' : b ≤ e') (he : dv (sg neg n) e b = dv (sg neg' n') e' b) : neg = neg' ∧ n = n' ∧ e = e' := by
  rw [dv_sg, dv_sg] at he
  have ha : n * 2 ^ (e - b).toNat = n' * 2 ^ (e' - b).toNat := by
    have := congrArg Int.natAbs he
    rwa [sg_abs, sg_abs] at this
  have hs : nD neg (n * 2 ^ (e - b).toNat) = nD neg' (n' * 2 ^ (e' - b).toNat) := by
    have := congrArg zb he
    rwa [zb_sg, zb_sg] at this
  by_cases hn : n = 0
  · have hn' : n' = 0 := by
      rw [hn, Nat.zero_mul] at ha
      exact mul2_zero.1 ha.symm
    refine ⟨?_, by rw [hn, hn'], by rw [h.z hn, h'.z hn']⟩
    rw [← h.s, ← h'.s, hn, hn', nD_zero, nD_zero]
  · have hn' : n' ≠ 0 := fun h0 => by
      rw [h0, Nat.zero_mul] at ha
      exact hn (mul2_zero.1 ha)
    have h1 := congrArg od ha
    rw [od_shl, od_shl, h.o, h'.o] at h1
    have h2 := congrArg tz ha
    rw [tz_shl hn, tz_shl hn', tz_odd (h.odd hn), tz_odd (h'.odd hn')] at h2
    rw [nD_ne (fun h0 => hn (mul2_zero.1 h0)), nD_ne (fun h0 => hn' (mul2_zero.1 h0))] at hs
    exact ⟨hs, h1, by omega⟩
/-- What is rounded, in steps. -/
theorem rX_dv {neg : Bool} {n : Nat} {e pos m b : Int} (h : NF neg n e) (hm : okM m) (h1 : b ≤ e) (h2 : b ≤ pos) :
    dv (sg neg (rX neg n e pos m)) (rE n e pos) b = rdm m (dv (sg neg n) e b) (2 ^ (pos - b).toNat) * ((2 ^ (pos - b).toNat : Nat) : Int) := by
  by_cases hc : n = 0 ∨ pos ≤ e
  · rw [rX, if_pos hc, rE, if_pos hc]
    by_cases hn : n = 0
    · subst hn
      rw [sg_zero, dv_zero]
      have := rdm_exact (m := m) (y := 0) (two_pos (pos - b).toNat)
      rw [Int.zero_mul] at this
      rw [this, Int.zero_mul]
    · have hp : pos ≤ e := by
        rcases hc with hc | hc
        · exact absurd hc hn
        · exact hc
      rw [dv_scale h2 hp, rdm_exact (two_pos _)]
  · have hn : n ≠ 0 := fun h => hc (.inl h)
    have hp : e < pos := by
      rcases Int.lt_or_le e pos with h | h
      · exact h
      · exact absurd (.inr h) hc
    rw [rX, if_neg hc, rE, if_neg hc, rq_rdm (h.odd hn) (by omega) hm]
    have e1 : (pos - b).toNat = (pos - e).toNat + (e - b).toNat := by omega
    have : rdm m (dv (sg neg n) e b) (2 ^ (pos - b).toNat) = rdm m (sg neg n) (2 ^ (pos - e).toNat) := by
      rw [e1, Nat.pow_add, dv, rdm_scale (two_pos _)]
    rw [this, dv]
theorem rE_ge {n : Nat} {e pos b : Int} (h1 : b ≤ e) (h2 : b ≤ pos) : b ≤ rE n e pos := by unfold rE; split <;> omega

end Dy
end Go.Proofs.YthhbjhdnaopcnaaDoor
namespace Go.Proofs.YthhbjhdnaopcnaaDoor
open Go Go.RowKit Eng
set_option linter.unusedVariables false

def surdlaw08_DyadicTwice_cut (J0 : Addr → Addr → Int → Int → Slc → Int → Int → World → Prop) (m0 : Addr → Addr → Int → Int → Slc → Int → Int → World → Nat) (J2 : Addr → Addr → Int → Slc → Int → Int → World → Prop) (m2 : Addr → Addr → Int → Slc → Int → Int → World → Nat) : Nat → Option ((Act → World → Prop) × (Act → World → Nat))
  | 0 => some (fun a_ w_ => atSz a_ 173 (atA a_ 3 fun t3 => atA a_ 4 fun t4 => atI .i64 a_ 7 fun t7 => atI .i64 a_ 8 fun t8 => atS a_ 50 fun t50 => atI .i64 a_ 51 fun t51 => atI .i64 a_ 52 fun t52 => J0 t3 t4 t7 t8 t50 t51 t52 w_), fun a_ w_ => mA a_ 3 fun t3 => mA a_ 4 fun t4 => mI a_ 7 fun t7 => mI a_ 8 fun t8 => mS a_ 50 fun t50 => mI a_ 51 fun t51 => mI a_ 52 fun t52 => m0 t3 t4 t7 t8 t50 t51 t52 w_)
  | 2 => some (fun a_ w_ => atSz a_ 173 (atA a_ 3 fun t3 => atA a_ 4 fun t4 => atI .i64 a_ 7 fun t7 => atS a_ 100 fun t100 => atI .i64 a_ 101 fun t101 => atI .i64 a_ 102 fun t102 => J2 t3 t4 t7 t100 t101 t102 w_), fun a_ w_ => mA a_ 3 fun t3 => mA a_ 4 fun t4 => mI a_ 7 fun t7 => mS a_ 100 fun t100 => mI a_ 101 fun t101 => mI a_ 102 fun t102 => m2 t3 t4 t7 t100 t101 t102 w_)
  | _ => none

set_option maxRecDepth 100000 in
/-- surd/surdlaw08.DyadicTwice: function 12. -/
theorem surdlaw08_DyadicTwice_vc (a0_0 : Bool) (a0_1 : Slc) (a0_2 : Int) (a1_0 : Bool) (a1_1 : Slc) (a1_2 : Int) (a2_0 : Int) (a2_1 : Int) (w : World) (R : Ending → World → Prop)
    (J0 : Addr → Addr → Int → Int → Slc → Int → Int → World → Prop) (m0 : Addr → Addr → Int → Int → Slc → Int → Int → World → Nat) (J2 : Addr → Addr → Int → Slc → Int → Int → World → Prop) (m2 : Addr → Addr → Int → Slc → Int → Int → World → Nat)
    (h : newC w #[Value.bool a0_0, a0_1.v, Value.int .i64 a0_2] 27 fun ad1 w1 =>
    newC w1 #[Value.bool a1_0, a1_1.v, Value.int .i64 a1_2] 27 fun ad2 w2 =>
    newC w2 #[Value.int .i64 a2_0, Value.int .i64 a2_1] 91 fun ad3 w3 =>
    ldI .i64 ad3 w3 fun x1 =>
    ldI .i64 (ad3.add 1) w3 fun x2 =>
    ∀ w4, Ahead w3 w4 →
    (br (decide (x2 < 0))
     (Calls Tryd.prog 14 #[] w4 fun e1 w5 =>
      ∃ b1 : Bool, e1 = .returned (Value.bool b1) ∧
      (R (.returned (Value.bool b1)) w5))
     (br (decide (x2 > 1048576))
      (Calls Tryd.prog 14 #[] w4 fun e2 w6 =>
       ∃ b2 : Bool, e2 = .returned (Value.bool b2) ∧
       (R (.returned (Value.bool b2)) w6))
      (Calls Tryd.prog 15 #[Value.int .i64 x1] w4 fun e3 w7 =>
       ∃ b3 : Bool, e3 = .returned (Value.bool b3) ∧
       (br (!b3)
        (Calls Tryd.prog 14 #[] w7 fun e4 w8 =>
         ∃ b4 : Bool, e4 = .returned (Value.bool b4) ∧
         (R (.returned (Value.bool b4)) w8))
        (Calls Tryd.prog 15 #[Value.int .i64 (IntKind.i64.wrap (x1 + x2))] w7 fun e5 w9 =>
         ∃ b5 : Bool, e5 = .returned (Value.bool b5) ∧
         (br (!b5)
          (Calls Tryd.prog 14 #[] w9 fun e6 w10 =>
           ∃ b6 : Bool, e6 = .returned (Value.bool b6) ∧
           (R (.returned (Value.bool b6)) w10))
          (newC w9 #[Value.int .i64 0, Value.int .i64 1] 63 fun ad4 w11 =>
           J0 ad1 ad2 x1 x2 (⟨some ad4, 2, 2⟩ : Slc) ((⟨some ad4, 2, 2⟩ : Slc).n : Int) 0 w11))))))))
    (h0 : ∀ (t3 : Addr) (t4 : Addr) (t7 : Int) (t8 : Int) (t50 : Slc) (t51 : Int) (t52 : Int) (w_ : World), J0 t3 t4 t7 t8 t50 t51 t52 w_ → 
    br (decide (t52 < t51))
    (semA Tryd.prog (Instr.indexAt 92 t50.v (Value.int .i64 t52)) w_ fun ad5 w12 =>
     ldI .i64 ad5 w12 fun x3 =>
     ldB t3 w12 fun b7 =>
     ldS (t3.add 1) w12 fun s1 =>
     ldI .i64 (t3.add 2) w12 fun x4 =>
     Calls Tryd.prog 17 #[Value.agg #[Value.bool b7, s1.v, Value.int .i64 x4]] w12 fun e7 w13 =>
     ∃ b8 : Bool, ∃ s2 : Slc, ∃ x5 : Int, e7 = .returned (Value.agg #[Value.bool b8, s2.v, Value.int .i64 x5]) ∧
     (Calls Tryd.prog 36 #[Value.agg #[Value.bool b8, s2.v, Value.int .i64 x5], Value.int .i64 t7, Value.int .i64 x3] w13 fun e8 w14 =>
      ∃ b9 : Bool, ∃ s3 : Slc, ∃ x6 : Int, ∃ x7 : Int, e8 = .returned (Value.tuple #[Value.agg #[Value.bool b9, s3.v, Value.int .i64 x6], Value.int .i64 x7]) ∧
      (newC w14 #[Value.bool false, (⟨none, 0, 0⟩ : Slc).v, Value.int .i64 0] 33 fun ad6 w15 =>
       stC ad6 (Value.bool b9) w15 fun w16 =>
       stC (ad6.add 1) s3.v w16 fun w17 =>
       stC (ad6.add 2) (Value.int .i64 x6) w17 fun w18 =>
       ldB t3 w18 fun b10 =>
       ldS (t3.add 1) w18 fun s4 =>
       ldI .i64 (t3.add 2) w18 fun x8 =>
       Calls Tryd.prog 17 #[Value.agg #[Value.bool b10, s4.v, Value.int .i64 x8]] w18 fun e9 w19 =>
       ∃ b11 : Bool, ∃ s5 : Slc, ∃ x9 : Int, e9 = .returned (Value.agg #[Value.bool b11, s5.v, Value.int .i64 x9]) ∧
       (Calls Tryd.prog 36 #[Value.agg #[Value.bool b11, s5.v, Value.int .i64 x9], Value.int .i64 (IntKind.i64.wrap (t7 + t8)), Value.int .i64 x3] w19 fun e10 w20 =>
        ∃ b12 : Bool, ∃ s6 : Slc, ∃ x10 : Int, ∃ x11 : Int, e10 = .returned (Value.tuple #[Value.agg #[Value.bool b12, s6.v, Value.int .i64 x10], Value.int .i64 x11]) ∧
        (newC w20 #[Value.bool false, (⟨none, 0, 0⟩ : Slc).v, Value.int .i64 0] 33 fun ad7 w21 =>
         stC ad7 (Value.bool b12) w21 fun w22 =>
         stC (ad7.add 1) s6.v w22 fun w23 =>
         stC (ad7.add 2) (Value.int .i64 x10) w23 fun w24 =>
         newC w24 #[Value.int .i64 x7, Value.int .i64 x11] 23 fun ad8 w25 =>
         Calls Tryd.prog 57 #[(⟨some ad8, 2, 2⟩ : Slc).v] w25 fun e11 w26 =>
         ∃ b13 : Bool, e11 = .returned (Value.bool b13) ∧
         (br (!b13)
          (Calls Tryd.prog 14 #[] w26 fun e12 w27 =>
           ∃ b14 : Bool, e12 = .returned (Value.bool b14) ∧
           (R (.returned (Value.bool b14)) w27))
          (ldB ad6 w26 fun b15 =>
           ldS (ad6.add 1) w26 fun s7 =>
           ldI .i64 (ad6.add 2) w26 fun x12 =>
           Calls Tryd.prog 36 #[Value.agg #[Value.bool b15, s7.v, Value.int .i64 x12], Value.int .i64 (IntKind.i64.wrap (t7 + t8)), Value.int .i64 x3] w26 fun e13 w28 =>
           ∃ b16 : Bool, ∃ s8 : Slc, ∃ x13 : Int, ∃ x14 : Int, e13 = .returned (Value.tuple #[Value.agg #[Value.bool b16, s8.v, Value.int .i64 x13], Value.int .i64 x14]) ∧
           (newC w28 #[Value.bool false, (⟨none, 0, 0⟩ : Slc).v, Value.int .i64 0] 33 fun ad9 w29 =>
            stC ad9 (Value.bool b16) w29 fun w30 =>
            stC (ad9.add 1) s8.v w30 fun w31 =>
            stC (ad9.add 2) (Value.int .i64 x13) w31 fun w32 =>
            newC w32 #[Value.int .i64 x14] 23 fun ad10 w33 =>
            Calls Tryd.prog 57 #[(⟨some ad10, 1, 1⟩ : Slc).v] w33 fun e14 w34 =>
            ∃ b17 : Bool, e14 = .returned (Value.bool b17) ∧
            (br (!b17)
             (R (.returned (Value.bool false)) w34)
             (ldB ad7 w34 fun b18 =>
              ldS (ad7.add 1) w34 fun s9 =>
              ldI .i64 (ad7.add 2) w34 fun x15 =>
              ldB ad9 w34 fun b19 =>
              ldS (ad9.add 1) w34 fun s10 =>
              ldI .i64 (ad9.add 2) w34 fun x16 =>
              Calls Tryd.prog 18 #[Value.agg #[Value.bool b18, s9.v, Value.int .i64 x15], Value.agg #[Value.bool b19, s10.v, Value.int .i64 x16]] w34 fun e15 w35 =>
              ∃ b20 : Bool, e15 = .returned (Value.bool b20) ∧
              (br (!b20)
               (R (.returned (Value.bool false)) w35)
               (J0 t3 t4 t7 t8 t50 t51 (IntKind.i64.wrap (t52 + 1)) w35 ∧
                m0 t3 t4 t7 t8 t50 t51 (IntKind.i64.wrap (t52 + 1)) w35 < m0 t3 t4 t7 t8 t50 t51 t52 w_))))))))))))
    (newC w_ #[Value.int .i64 0, Value.int .i64 1, Value.int .i64 2] 63 fun ad11 w36 =>
     J2 t3 t4 t7 (⟨some ad11, 3, 3⟩ : Slc) ((⟨some ad11, 3, 3⟩ : Slc).n : Int) 0 w36))
    (h2 : ∀ (t3 : Addr) (t4 : Addr) (t7 : Int) (t100 : Slc) (t101 : Int) (t102 : Int) (w_ : World), J2 t3 t4 t7 t100 t101 t102 w_ → 
    br (decide (t102 < t101))
    (semA Tryd.prog (Instr.indexAt 92 t100.v (Value.int .i64 t102)) w_ fun ad12 w37 =>
     ldI .i64 ad12 w37 fun x17 =>
     ldB t3 w37 fun b21 =>
     ldS (t3.add 1) w37 fun s11 =>
     ldI .i64 (t3.add 2) w37 fun x18 =>
     Calls Tryd.prog 17 #[Value.agg #[Value.bool b21, s11.v, Value.int .i64 x18]] w37 fun e16 w38 =>
     ∃ b22 : Bool, ∃ s12 : Slc, ∃ x19 : Int, e16 = .returned (Value.agg #[Value.bool b22, s12.v, Value.int .i64 x19]) ∧
     (Calls Tryd.prog 36 #[Value.agg #[Value.bool b22, s12.v, Value.int .i64 x19], Value.int .i64 t7, Value.int .i64 x17] w38 fun e17 w39 =>
      ∃ b23 : Bool, ∃ s13 : Slc, ∃ x20 : Int, ∃ x21 : Int, e17 = .returned (Value.tuple #[Value.agg #[Value.bool b23, s13.v, Value.int .i64 x20], Value.int .i64 x21]) ∧
      (newC w39 #[Value.bool false, (⟨none, 0, 0⟩ : Slc).v, Value.int .i64 0] 33 fun ad13 w40 =>
       stC ad13 (Value.bool b23) w40 fun w41 =>
       stC (ad13.add 1) s13.v w41 fun w42 =>
       stC (ad13.add 2) (Value.int .i64 x20) w42 fun w43 =>
       ldB t4 w43 fun b24 =>
       ldS (t4.add 1) w43 fun s14 =>
       ldI .i64 (t4.add 2) w43 fun x22 =>
       Calls Tryd.prog 17 #[Value.agg #[Value.bool b24, s14.v, Value.int .i64 x22]] w43 fun e18 w44 =>
       ∃ b25 : Bool, ∃ s15 : Slc, ∃ x23 : Int, e18 = .returned (Value.agg #[Value.bool b25, s15.v, Value.int .i64 x23]) ∧
       (Calls Tryd.prog 36 #[Value.agg #[Value.bool b25, s15.v, Value.int .i64 x23], Value.int .i64 t7, Value.int .i64 x17] w44 fun e19 w45 =>
        ∃ b26 : Bool, ∃ s16 : Slc, ∃ x24 : Int, ∃ x25 : Int, e19 = .returned (Value.tuple #[Value.agg #[Value.bool b26, s16.v, Value.int .i64 x24], Value.int .i64 x25]) ∧
        (newC w45 #[Value.bool false, (⟨none, 0, 0⟩ : Slc).v, Value.int .i64 0] 33 fun ad14 w46 =>
         stC ad14 (Value.bool b26) w46 fun w47 =>
         stC (ad14.add 1) s16.v w47 fun w48 =>
         stC (ad14.add 2) (Value.int .i64 x24) w48 fun w49 =>
         ldB t3 w49.drew fun b27 =>
         ldS (t3.add 1) w49.drew fun s17 =>
         ldI .i64 (t3.add 2) w49.drew fun x26 =>
         ldB t4 w49.drew fun b28 =>
         ldS (t4.add 1) w49.drew fun s18 =>
         ldI .i64 (t4.add 2) w49.drew fun x27 =>
         Calls Tryd.prog 17 #[Value.agg #[Value.bool b27, s17.v, Value.int .i64 x26]] w49.drew fun e20 w50 =>
         ∃ b29 : Bool, ∃ s19 : Slc, ∃ x28 : Int, e20 = .returned (Value.agg #[Value.bool b29, s19.v, Value.int .i64 x28]) ∧
         (Ahead w49.drew w50 ∧
          (Calls Tryd.prog 17 #[Value.agg #[Value.bool b28, s18.v, Value.int .i64 x27]] w50 fun e21 w51 =>
           ∃ b30 : Bool, ∃ s20 : Slc, ∃ x29 : Int, e21 = .returned (Value.agg #[Value.bool b30, s20.v, Value.int .i64 x29]) ∧
           (Ahead w50 w51 ∧
            (Calls Tryd.prog 44 #[Value.agg #[Value.bool b29, s19.v, Value.int .i64 x28], Value.agg #[Value.bool b30, s20.v, Value.int .i64 x29]] w51 fun e22 w52 =>
             ∃ x30 : Int, ∃ x31 : Int, e22 = .returned (Value.tuple #[Value.int .i64 x30, Value.int .i64 x31]) ∧
             (Ahead w51 w52 ∧
              (newC w52 #[Value.int .i64 x21, Value.int .i64 x25, Value.int .i64 x31] 23 fun ad15 w53 =>
               Calls Tryd.prog 57 #[(⟨some ad15, 3, 3⟩ : Slc).v] w53 fun e23 w54 =>
               ∃ b31 : Bool, e23 = .returned (Value.bool b31) ∧
               (br (!b31)
                (Calls Tryd.prog 14 #[] w54 fun e24 w55 =>
                 ∃ b32 : Bool, e24 = .returned (Value.bool b32) ∧
                 (R (.returned (Value.bool b32)) w55))
                (ldB ad13 w54 fun b33 =>
                 ldS (ad13.add 1) w54 fun s21 =>
                 ldI .i64 (ad13.add 2) w54 fun x32 =>
                 ldB ad14 w54 fun b34 =>
                 ldS (ad14.add 1) w54 fun s22 =>
                 ldI .i64 (ad14.add 2) w54 fun x33 =>
                 Calls Tryd.prog 44 #[Value.agg #[Value.bool b33, s21.v, Value.int .i64 x32], Value.agg #[Value.bool b34, s22.v, Value.int .i64 x33]] w54 fun e25 w56 =>
                 ∃ x34 : Int, ∃ x35 : Int, e25 = .returned (Value.tuple #[Value.int .i64 x34, Value.int .i64 x35]) ∧
                 (newC w56 #[Value.int .i64 x35] 23 fun ad16 w57 =>
                  Calls Tryd.prog 57 #[(⟨some ad16, 1, 1⟩ : Slc).v] w57 fun e26 w58 =>
                  ∃ b35 : Bool, e26 = .returned (Value.bool b35) ∧
                  (br (!b35)
                   (R (.returned (Value.bool false)) w58)
                   (br (decide (x30 < 0))
                    (br (decide (x34 > 0))
                     (R (.returned (Value.bool false)) w58)
                     (br (decide (x30 > 0))
                      (br (decide (x34 < 0))
                       (R (.returned (Value.bool false)) w58)
                       (br (x30 == 0)
                        (br (x34 != 0)
                         (R (.returned (Value.bool false)) w58)
                         (J2 t3 t4 t7 t100 t101 (IntKind.i64.wrap (t102 + 1)) w58 ∧
                          m2 t3 t4 t7 t100 t101 (IntKind.i64.wrap (t102 + 1)) w58 < m2 t3 t4 t7 t100 t101 t102 w_))
                        (J2 t3 t4 t7 t100 t101 (IntKind.i64.wrap (t102 + 1)) w58 ∧
                         m2 t3 t4 t7 t100 t101 (IntKind.i64.wrap (t102 + 1)) w58 < m2 t3 t4 t7 t100 t101 t102 w_)))
                      (br (x30 == 0)
                       (br (x34 != 0)
                        (R (.returned (Value.bool false)) w58)
                        (J2 t3 t4 t7 t100 t101 (IntKind.i64.wrap (t102 + 1)) w58 ∧
                         m2 t3 t4 t7 t100 t101 (IntKind.i64.wrap (t102 + 1)) w58 < m2 t3 t4 t7 t100 t101 t102 w_))
                       (J2 t3 t4 t7 t100 t101 (IntKind.i64.wrap (t102 + 1)) w58 ∧
                        m2 t3 t4 t7 t100 t101 (IntKind.i64.wrap (t102 + 1)) w58 < m2 t3 t4 t7 t100 t101 t102 w_))))
                    (br (decide (x30 > 0))
                     (br (decide (x34 < 0))
                      (R (.returned (Value.bool false)) w58)
                      (br (x30 == 0)
                       (br (x34 != 0)
                        (R (.returned (Value.bool false)) w58)
                        (J2 t3 t4 t7 t100 t101 (IntKind.i64.wrap (t102 + 1)) w58 ∧
                         m2 t3 t4 t7 t100 t101 (IntKind.i64.wrap (t102 + 1)) w58 < m2 t3 t4 t7 t100 t101 t102 w_))
                       (J2 t3 t4 t7 t100 t101 (IntKind.i64.wrap (t102 + 1)) w58 ∧
                        m2 t3 t4 t7 t100 t101 (IntKind.i64.wrap (t102 + 1)) w58 < m2 t3 t4 t7 t100 t101 t102 w_)))
                     (br (x30 == 0)
                      (br (x34 != 0)
                       (R (.returned (Value.bool false)) w58)
                       (J2 t3 t4 t7 t100 t101 (IntKind.i64.wrap (t102 + 1)) w58 ∧
                        m2 t3 t4 t7 t100 t101 (IntKind.i64.wrap (t102 + 1)) w58 < m2 t3 t4 t7 t100 t101 t102 w_))
                      (J2 t3 t4 t7 t100 t101 (IntKind.i64.wrap (t102 + 1)) w58 ∧
                       m2 t3 t4 t7 t100 t101 (IntKind.i64.wrap (t102 + 1)) w58 < m2 t3 t4 t7 t100 t101 t102 w_)))))))))))))))))))
    (Calls Tryd.prog 14 #[] w_ fun e27 w59 =>
     ∃ b36 : Bool, e27 = .returned (Value.bool b36) ∧
     (R (.returned (Value.bool b36)) w59))) :
    Calls Tryd.prog 12 #[Value.agg #[Value.bool a0_0, a0_1.v, Value.int .i64 a0_2], Value.agg #[Value.bool a1_0, a1_1.v, Value.int .i64 a1_2], Value.agg #[Value.int .i64 a2_0, Value.int .i64 a2_1]] w R := by
  refine calls_of_vc (surdlaw08_DyadicTwice_cut J0 m0 J2 m2) (by kernel_rfl) Tryd.func12 rfl ?_ ?_
  · refine kcast h ?_; kernel_rfl
  · exact (obl_seq rfl (obl_reg (obl_seq rfl (obl_quiet (by kernel_rfl) (by kernel_rfl) (by kernel_rfl) (by kernel_rfl) (obl_seq rfl (obl_seq rfl (obl_reg (obl_cond (obl_seq rfl (obl_reg (obl_ret (obl_skip (obl_seq rfl (obl_seq rfl (obl_reg (obl_loop _ rfl (fun a_ w_ hL_ => (by
    obtain ⟨hz_, hd_, hL_⟩ := atSz_out hL_
    obtain ⟨t3, h3_, hL_⟩ := atA_out hL_
    obtain ⟨t4, h4_, hL_⟩ := atA_out hL_
    obtain ⟨t7, h7_, hL_⟩ := atI_out hL_
    obtain ⟨t8, h8_, hL_⟩ := atI_out hL_
    obtain ⟨t50, h50_, hL_⟩ := atS_out hL_
    obtain ⟨t51, h51_, hL_⟩ := atI_out hL_
    obtain ⟨t52, h52_, hL_⟩ := atI_out hL_
    obtain ⟨g0, rfl⟩ : ∃ g, a_ = Fr 173 [(3, Value.pointer (some t3)), (4, Value.pointer (some t4)), (7, Value.int .i64 t7), (8, Value.int .i64 t8), (50, t50.v), (51, Value.int .i64 t51), (52, Value.int .i64 t52)] g := ⟨_, fr_of hz_ hd_ [(3, Value.pointer (some t3)), (4, Value.pointer (some t4)), (7, Value.int .i64 t7), (8, Value.int .i64 t8), (50, t50.v), (51, Value.int .i64 t51), (52, Value.int .i64 t52)] (sel_cons h3_ (sel_cons h4_ (sel_cons h7_ (sel_cons h8_ (sel_cons h50_ (sel_cons h51_ (sel_cons h52_ sel_nil)))))))⟩
    clear hz_ hd_ h3_ h4_ h7_ h8_ h50_ h51_ h52_
    have hJ0_ := hL_
    refine ⟨(fun _ => none), kcast (h0 t3 t4 t7 t8 t50 t51 t52 w_ hJ0_) ?_, ?_⟩
    · kernel_rfl
    · exact (obl_seq rfl (obl_reg (obl_seq rfl (obl_cond (obl_skip (obl_exit (obl_seq rfl (obl_blk rfl (obl_seq rfl (obl_reg (obl_seq rfl (obl_reg (obl_seq rfl (obl_reg (obl_seq rfl (obl_seq rfl (obl_reg (obl_cond (obl_seq rfl (obl_reg (obl_ret (obl_skip (obl_seq rfl (obl_reg (obl_seq rfl (obl_reg (obl_cond (obl_seq rfl (obl_reg (obl_ret (obl_skip (obl_reg trivial)))))))))))))))))))))))))))))))))) (obl_seq rfl (obl_seq rfl (obl_reg (obl_loop _ rfl (fun a_ w_ hL_ => (by
    obtain ⟨hz_, hd_, hL_⟩ := atSz_out hL_
    obtain ⟨t3, h3_, hL_⟩ := atA_out hL_
    obtain ⟨t4, h4_, hL_⟩ := atA_out hL_
    obtain ⟨t7, h7_, hL_⟩ := atI_out hL_
    obtain ⟨t100, h100_, hL_⟩ := atS_out hL_
    obtain ⟨t101, h101_, hL_⟩ := atI_out hL_
    obtain ⟨t102, h102_, hL_⟩ := atI_out hL_
    obtain ⟨g2, rfl⟩ : ∃ g, a_ = Fr 173 [(3, Value.pointer (some t3)), (4, Value.pointer (some t4)), (7, Value.int .i64 t7), (100, t100.v), (101, Value.int .i64 t101), (102, Value.int .i64 t102)] g := ⟨_, fr_of hz_ hd_ [(3, Value.pointer (some t3)), (4, Value.pointer (some t4)), (7, Value.int .i64 t7), (100, t100.v), (101, Value.int .i64 t101), (102, Value.int .i64 t102)] (sel_cons h3_ (sel_cons h4_ (sel_cons h7_ (sel_cons h100_ (sel_cons h101_ (sel_cons h102_ sel_nil))))))⟩
    clear hz_ hd_ h3_ h4_ h7_ h100_ h101_ h102_
    have hJ2_ := hL_
    refine ⟨(fun _ => none), kcast (h2 t3 t4 t7 t100 t101 t102 w_ hJ2_) ?_, ?_⟩
    · kernel_rfl
    · exact (obl_seq rfl (obl_reg (obl_seq rfl (obl_cond (obl_skip (obl_exit (obl_seq rfl (obl_blk rfl (obl_seq rfl (obl_reg (obl_seq rfl (obl_reg (obl_seq rfl (obl_reg (obl_seq rfl (obl_held (by kernel_rfl) (by kernel_rfl) (by kernel_rfl) (obl_seq rfl (obl_seq rfl (obl_reg (obl_cond (obl_seq rfl (obl_reg (obl_ret (obl_skip (obl_seq rfl (obl_reg (obl_seq rfl (obl_reg (obl_cond (obl_seq rfl (obl_reg (obl_ret (obl_skip (obl_reg trivial)))))))))))))))))))))))))))))))))))) (obl_seq rfl (obl_reg (obl_ret trivial)))))))))))))))))))))))

end Go.Proofs.YthhbjhdnaopcnaaDoor
namespace Go.Proofs.YthhbjhdnaopcnaaDoor
open Go Go.RowKit Eng L2
set_option linter.unusedVariables false
set_option maxHeartbeats 2000000
set_option maxRecDepth 100000

/-- surd/surdlaw08.DyadicTwice: function 12, its local variables as values. -/
theorem surdlaw08_DyadicTwice_v2 (a0_0 : Bool) (a0_1 : Slc) (a0_2 : Int) (a1_0 : Bool) (a1_1 : Slc) (a1_2 : Int) (a2_0 : Int) (a2_1 : Int) (w : World) (R : Ending → World → Prop)
    (J0 : Int → Int → Slc → Int → Int → Bool → Slc → Int → Bool → Slc → Int → World → Prop) (m0 : Int → Int → Slc → Int → Int → World → Nat) (J2 : Int → Slc → Int → Int → Bool → Slc → Int → Bool → Slc → Int → World → Prop) (m2 : Int → Slc → Int → Int → World → Nat)
    (h : br (decide (a2_1 < 0))
    (∀ w2, Ext w w2 → Ahead w w2 →
     (Calls Tryd.prog 14 #[] w2 fun e1 w3 =>
      ∃ b1 : Bool, e1 = .returned (Value.bool b1) ∧ Ahead w2 w3 ∧
      (R (.returned (Value.bool b1)) w3)))
    (br (decide (a2_1 > 1048576))
     (∀ w4, Ext w w4 → Ahead w w4 →
      (Calls Tryd.prog 14 #[] w4 fun e2 w5 =>
       ∃ b2 : Bool, e2 = .returned (Value.bool b2) ∧ Ahead w4 w5 ∧
       (R (.returned (Value.bool b2)) w5)))
     (∀ w6, Ext w w6 → Ahead w w6 →
      (Calls Tryd.prog 15 #[Value.int .i64 a2_0] w6 fun e3 w7 =>
       ∃ b3 : Bool, e3 = .returned (Value.bool b3) ∧ Ahead w6 w7 ∧
       (br (!b3)
        (Calls Tryd.prog 14 #[] w7 fun e4 w8 =>
         ∃ b4 : Bool, e4 = .returned (Value.bool b4) ∧ Ahead w7 w8 ∧
         (R (.returned (Value.bool b4)) w8))
        (Calls Tryd.prog 15 #[Value.int .i64 (IntKind.i64.wrap (a2_0 + a2_1))] w7 fun e5 w9 =>
         ∃ b5 : Bool, e5 = .returned (Value.bool b5) ∧ Ahead w7 w9 ∧
         (br (!b5)
          (Calls Tryd.prog 14 #[] w9 fun e6 w10 =>
           ∃ b6 : Bool, e6 = .returned (Value.bool b6) ∧ Ahead w9 w10 ∧
           (R (.returned (Value.bool b6)) w10))
          (newC w9 #[Value.int .i64 0, Value.int .i64 1] 63 fun ad1 w11 =>
           J0 a2_0 a2_1 (⟨some ad1, 2, 2⟩ : Slc) ((⟨some ad1, 2, 2⟩ : Slc).n : Int) 0 a0_0 a0_1 a0_2 a1_0 a1_1 a1_2 w11))))))))
    (h0 : ∀ (t7 : Int) (t8 : Int) (t50 : Slc) (t51 : Int) (t52 : Int) (t3_0 : Bool) (t3_1 : Slc) (t3_2 : Int) (t4_0 : Bool) (t4_1 : Slc) (t4_2 : Int) (w_ : World), Ahead w w_ → J0 t7 t8 t50 t51 t52 t3_0 t3_1 t3_2 t4_0 t4_1 t4_2 w_ → 
    br (decide (t52 < t51))
    (semA Tryd.prog (Instr.indexAt 92 t50.v (Value.int .i64 t52)) w_ fun ad2 w12 => w12 = w_ ∧
     (ldI .i64 ad2 w_ fun x1 =>
      Calls Tryd.prog 17 #[Value.agg #[Value.bool t3_0, t3_1.v, Value.int .i64 t3_2]] w_ fun e7 w13 =>
      ∃ b7 : Bool, ∃ s1 : Slc, ∃ x2 : Int, e7 = .returned (Value.agg #[Value.bool b7, s1.v, Value.int .i64 x2]) ∧ Ahead w_ w13 ∧
      (Calls Tryd.prog 36 #[Value.agg #[Value.bool b7, s1.v, Value.int .i64 x2], Value.int .i64 t7, Value.int .i64 x1] w13 fun e8 w14 =>
       ∃ b8 : Bool, ∃ s2 : Slc, ∃ x3 : Int, ∃ x4 : Int, e8 = .returned (Value.tuple #[Value.agg #[Value.bool b8, s2.v, Value.int .i64 x3], Value.int .i64 x4]) ∧ Ahead w13 w14 ∧
       (∀ w15, Ext w14 w15 → Ahead w w15 →
        (Calls Tryd.prog 17 #[Value.agg #[Value.bool t3_0, t3_1.v, Value.int .i64 t3_2]] w15 fun e9 w16 =>
         ∃ b9 : Bool, ∃ s3 : Slc, ∃ x5 : Int, e9 = .returned (Value.agg #[Value.bool b9, s3.v, Value.int .i64 x5]) ∧ Ahead w15 w16 ∧
         (Calls Tryd.prog 36 #[Value.agg #[Value.bool b9, s3.v, Value.int .i64 x5], Value.int .i64 (IntKind.i64.wrap (t7 + t8)), Value.int .i64 x1] w16 fun e10 w17 =>
          ∃ b10 : Bool, ∃ s4 : Slc, ∃ x6 : Int, ∃ x7 : Int, e10 = .returned (Value.tuple #[Value.agg #[Value.bool b10, s4.v, Value.int .i64 x6], Value.int .i64 x7]) ∧ Ahead w16 w17 ∧
          (∀ w18, Ext w17 w18 → Ahead w w18 →
           (newC w18 #[Value.int .i64 x4, Value.int .i64 x7] 23 fun ad3 w19 =>
            Calls Tryd.prog 57 #[(⟨some ad3, 2, 2⟩ : Slc).v] w19 fun e11 w20 =>
            ∃ b11 : Bool, e11 = .returned (Value.bool b11) ∧ Ahead w19 w20 ∧
            (br (!b11)
             (Calls Tryd.prog 14 #[] w20 fun e12 w21 =>
              ∃ b12 : Bool, e12 = .returned (Value.bool b12) ∧ Ahead w20 w21 ∧
              (R (.returned (Value.bool b12)) w21))
             (Calls Tryd.prog 36 #[Value.agg #[Value.bool b8, s2.v, Value.int .i64 x3], Value.int .i64 (IntKind.i64.wrap (t7 + t8)), Value.int .i64 x1] w20 fun e13 w22 =>
              ∃ b13 : Bool, ∃ s5 : Slc, ∃ x8 : Int, ∃ x9 : Int, e13 = .returned (Value.tuple #[Value.agg #[Value.bool b13, s5.v, Value.int .i64 x8], Value.int .i64 x9]) ∧ Ahead w20 w22 ∧
              (∀ w23, Ext w22 w23 → Ahead w w23 →
               (newC w23 #[Value.int .i64 x9] 23 fun ad4 w24 =>
                Calls Tryd.prog 57 #[(⟨some ad4, 1, 1⟩ : Slc).v] w24 fun e14 w25 =>
                ∃ b14 : Bool, e14 = .returned (Value.bool b14) ∧ Ahead w24 w25 ∧
                (br (!b14)
                 (R (.returned (Value.bool false)) w25)
                 (Calls Tryd.prog 18 #[Value.agg #[Value.bool b10, s4.v, Value.int .i64 x6], Value.agg #[Value.bool b13, s5.v, Value.int .i64 x8]] w25 fun e15 w26 =>
                  ∃ b15 : Bool, e15 = .returned (Value.bool b15) ∧ Ahead w25 w26 ∧
                  (br (!b15)
                   (R (.returned (Value.bool false)) w26)
                   (J0 t7 t8 t50 t51 (IntKind.i64.wrap (t52 + 1)) t3_0 t3_1 t3_2 t4_0 t4_1 t4_2 w26 ∧
                    m0 t7 t8 t50 t51 (IntKind.i64.wrap (t52 + 1)) w26 < m0 t7 t8 t50 t51 t52 w_))))))))))))))))
    (newC w_ #[Value.int .i64 0, Value.int .i64 1, Value.int .i64 2] 63 fun ad5 w27 =>
     J2 t7 (⟨some ad5, 3, 3⟩ : Slc) ((⟨some ad5, 3, 3⟩ : Slc).n : Int) 0 t3_0 t3_1 t3_2 t4_0 t4_1 t4_2 w27))
    (h2 : ∀ (t7 : Int) (t100 : Slc) (t101 : Int) (t102 : Int) (t3_0 : Bool) (t3_1 : Slc) (t3_2 : Int) (t4_0 : Bool) (t4_1 : Slc) (t4_2 : Int) (w_ : World), Ahead w w_ → J2 t7 t100 t101 t102 t3_0 t3_1 t3_2 t4_0 t4_1 t4_2 w_ → 
    br (decide (t102 < t101))
    (semA Tryd.prog (Instr.indexAt 92 t100.v (Value.int .i64 t102)) w_ fun ad6 w28 => w28 = w_ ∧
     (ldI .i64 ad6 w_ fun x10 =>
      Calls Tryd.prog 17 #[Value.agg #[Value.bool t3_0, t3_1.v, Value.int .i64 t3_2]] w_ fun e16 w29 =>
      ∃ b16 : Bool, ∃ s6 : Slc, ∃ x11 : Int, e16 = .returned (Value.agg #[Value.bool b16, s6.v, Value.int .i64 x11]) ∧ Ahead w_ w29 ∧
      (Calls Tryd.prog 36 #[Value.agg #[Value.bool b16, s6.v, Value.int .i64 x11], Value.int .i64 t7, Value.int .i64 x10] w29 fun e17 w30 =>
       ∃ b17 : Bool, ∃ s7 : Slc, ∃ x12 : Int, ∃ x13 : Int, e17 = .returned (Value.tuple #[Value.agg #[Value.bool b17, s7.v, Value.int .i64 x12], Value.int .i64 x13]) ∧ Ahead w29 w30 ∧
       (∀ w31, Ext w30 w31 → Ahead w w31 →
        (Calls Tryd.prog 17 #[Value.agg #[Value.bool t4_0, t4_1.v, Value.int .i64 t4_2]] w31 fun e18 w32 =>
         ∃ b18 : Bool, ∃ s8 : Slc, ∃ x14 : Int, e18 = .returned (Value.agg #[Value.bool b18, s8.v, Value.int .i64 x14]) ∧ Ahead w31 w32 ∧
         (Calls Tryd.prog 36 #[Value.agg #[Value.bool b18, s8.v, Value.int .i64 x14], Value.int .i64 t7, Value.int .i64 x10] w32 fun e19 w33 =>
          ∃ b19 : Bool, ∃ s9 : Slc, ∃ x15 : Int, ∃ x16 : Int, e19 = .returned (Value.tuple #[Value.agg #[Value.bool b19, s9.v, Value.int .i64 x15], Value.int .i64 x16]) ∧ Ahead w32 w33 ∧
          (∀ w34, Ext w33 w34 → Ahead w w34 →
           (Calls Tryd.prog 17 #[Value.agg #[Value.bool t3_0, t3_1.v, Value.int .i64 t3_2]] w34 fun e20 w35 =>
            ∃ b20 : Bool, ∃ s10 : Slc, ∃ x17 : Int, e20 = .returned (Value.agg #[Value.bool b20, s10.v, Value.int .i64 x17]) ∧ Ahead w34 w35 ∧
            (Calls Tryd.prog 17 #[Value.agg #[Value.bool t4_0, t4_1.v, Value.int .i64 t4_2]] w35 fun e21 w36 =>
             ∃ b21 : Bool, ∃ s11 : Slc, ∃ x18 : Int, e21 = .returned (Value.agg #[Value.bool b21, s11.v, Value.int .i64 x18]) ∧ Ahead w35 w36 ∧
             (Calls Tryd.prog 44 #[Value.agg #[Value.bool b20, s10.v, Value.int .i64 x17], Value.agg #[Value.bool b21, s11.v, Value.int .i64 x18]] w36 fun e22 w37 =>
              ∃ x19 : Int, ∃ x20 : Int, e22 = .returned (Value.tuple #[Value.int .i64 x19, Value.int .i64 x20]) ∧ Ahead w36 w37 ∧
              (newC w37 #[Value.int .i64 x13, Value.int .i64 x16, Value.int .i64 x20] 23 fun ad7 w38 =>
               Calls Tryd.prog 57 #[(⟨some ad7, 3, 3⟩ : Slc).v] w38 fun e23 w39 =>
               ∃ b22 : Bool, e23 = .returned (Value.bool b22) ∧ Ahead w38 w39 ∧
               (br (!b22)
                (Calls Tryd.prog 14 #[] w39 fun e24 w40 =>
                 ∃ b23 : Bool, e24 = .returned (Value.bool b23) ∧ Ahead w39 w40 ∧
                 (R (.returned (Value.bool b23)) w40))
                (Calls Tryd.prog 44 #[Value.agg #[Value.bool b17, s7.v, Value.int .i64 x12], Value.agg #[Value.bool b19, s9.v, Value.int .i64 x15]] w39 fun e25 w41 =>
                 ∃ x21 : Int, ∃ x22 : Int, e25 = .returned (Value.tuple #[Value.int .i64 x21, Value.int .i64 x22]) ∧ Ahead w39 w41 ∧
                 (newC w41 #[Value.int .i64 x22] 23 fun ad8 w42 =>
                  Calls Tryd.prog 57 #[(⟨some ad8, 1, 1⟩ : Slc).v] w42 fun e26 w43 =>
                  ∃ b24 : Bool, e26 = .returned (Value.bool b24) ∧ Ahead w42 w43 ∧
                  (br (!b24)
                   (R (.returned (Value.bool false)) w43)
                   (br (decide (x19 < 0))
                    (br (decide (x21 > 0))
                     (R (.returned (Value.bool false)) w43)
                     (br (decide (x19 > 0))
                      (br (decide (x21 < 0))
                       (R (.returned (Value.bool false)) w43)
                       (br (x19 == 0)
                        (br (x21 != 0)
                         (R (.returned (Value.bool false)) w43)
                         (J2 t7 t100 t101 (IntKind.i64.wrap (t102 + 1)) t3_0 t3_1 t3_2 t4_0 t4_1 t4_2 w43 ∧
                          m2 t7 t100 t101 (IntKind.i64.wrap (t102 + 1)) w43 < m2 t7 t100 t101 t102 w_))
                        (J2 t7 t100 t101 (IntKind.i64.wrap (t102 + 1)) t3_0 t3_1 t3_2 t4_0 t4_1 t4_2 w43 ∧
                         m2 t7 t100 t101 (IntKind.i64.wrap (t102 + 1)) w43 < m2 t7 t100 t101 t102 w_)))
                      (br (x19 == 0)
                       (br (x21 != 0)
                        (R (.returned (Value.bool false)) w43)
                        (J2 t7 t100 t101 (IntKind.i64.wrap (t102 + 1)) t3_0 t3_1 t3_2 t4_0 t4_1 t4_2 w43 ∧
                         m2 t7 t100 t101 (IntKind.i64.wrap (t102 + 1)) w43 < m2 t7 t100 t101 t102 w_))
                       (J2 t7 t100 t101 (IntKind.i64.wrap (t102 + 1)) t3_0 t3_1 t3_2 t4_0 t4_1 t4_2 w43 ∧
                        m2 t7 t100 t101 (IntKind.i64.wrap (t102 + 1)) w43 < m2 t7 t100 t101 t102 w_))))
                    (br (decide (x19 > 0))
                     (br (decide (x21 < 0))
                      (R (.returned (Value.bool false)) w43)
                      (br (x19 == 0)
                       (br (x21 != 0)
                        (R (.returned (Value.bool false)) w43)
                        (J2 t7 t100 t101 (IntKind.i64.wrap (t102 + 1)) t3_0 t3_1 t3_2 t4_0 t4_1 t4_2 w43 ∧
                         m2 t7 t100 t101 (IntKind.i64.wrap (t102 + 1)) w43 < m2 t7 t100 t101 t102 w_))
                       (J2 t7 t100 t101 (IntKind.i64.wrap (t102 + 1)) t3_0 t3_1 t3_2 t4_0 t4_1 t4_2 w43 ∧
                        m2 t7 t100 t101 (IntKind.i64.wrap (t102 + 1)) w43 < m2 t7 t100 t101 t102 w_)))
                     (br (x19 == 0)
                      (br (x21 != 0)
                       (R (.returned (Value.bool false)) w43)
                       (J2 t7 t100 t101 (IntKind.i64.wrap (t102 + 1)) t3_0 t3_1 t3_2 t4_0 t4_1 t4_2 w43 ∧
                        m2 t7 t100 t101 (IntKind.i64.wrap (t102 + 1)) w43 < m2 t7 t100 t101 t102 w_))
                      (J2 t7 t100 t101 (IntKind.i64.wrap (t102 + 1)) t3_0 t3_1 t3_2 t4_0 t4_1 t4_2 w43 ∧
                       m2 t7 t100 t101 (IntKind.i64.wrap (t102 + 1)) w43 < m2 t7 t100 t101 t102 w_)))))))))))))))))))
    (Calls Tryd.prog 14 #[] w_ fun e27 w44 =>
     ∃ b25 : Bool, e27 = .returned (Value.bool b25) ∧ Ahead w_ w44 ∧
     (R (.returned (Value.bool b25)) w44))) :
    Calls Tryd.prog 12 #[Value.agg #[Value.bool a0_0, a0_1.v, Value.int .i64 a0_2], Value.agg #[Value.bool a1_0, a1_1.v, Value.int .i64 a1_2], Value.agg #[Value.int .i64 a2_0, Value.int .i64 a2_1]] w (fun e_ w_ => Ahead w w_ ∧ R e_ w_) := by
  refine surdlaw08_DyadicTwice_vc a0_0 a0_1 a0_2 a1_0 a1_1 a1_2 a2_0 a2_1 w _ (fun t3 t4 t7 t8 t50 t51 t52 w_ => ∃ c3_ : Nat, ∃ c4_ : Nat, ∃ t3_0 : Bool, ∃ t3_1 : Slc, ∃ t3_2 : Int, ∃ t4_0 : Bool, ∃ t4_1 : Slc, ∃ t4_2 : Int, t3 = ⟨c3_, 0, none⟩ ∧ Blt w_ c3_ 27 #[Value.bool t3_0, t3_1.v, Value.int .i64 t3_2] ∧ w.heap.size ≤ c3_ ∧ t4 = ⟨c4_, 0, none⟩ ∧ Blt w_ c4_ 27 #[Value.bool t4_0, t4_1.v, Value.int .i64 t4_2] ∧ w.heap.size ≤ c4_ ∧ c3_ ≠ c4_ ∧ Ahead w w_ ∧ J0 t7 t8 t50 t51 t52 t3_0 t3_1 t3_2 t4_0 t4_1 t4_2 w_) (fun t3 t4 t7 t8 t50 t51 t52 w_ => m0 t7 t8 t50 t51 t52 w_) (fun t3 t4 t7 t100 t101 t102 w_ => ∃ c3_ : Nat, ∃ c4_ : Nat, ∃ t3_0 : Bool, ∃ t3_1 : Slc, ∃ t3_2 : Int, ∃ t4_0 : Bool, ∃ t4_1 : Slc, ∃ t4_2 : Int, t3 = ⟨c3_, 0, none⟩ ∧ Blt w_ c3_ 27 #[Value.bool t3_0, t3_1.v, Value.int .i64 t3_2] ∧ w.heap.size ≤ c3_ ∧ t4 = ⟨c4_, 0, none⟩ ∧ Blt w_ c4_ 27 #[Value.bool t4_0, t4_1.v, Value.int .i64 t4_2] ∧ w.heap.size ≤ c4_ ∧ c3_ ≠ c4_ ∧ Ahead w w_ ∧ J2 t7 t100 t101 t102 t3_0 t3_1 t3_2 t4_0 t4_1 t4_2 w_) (fun t3 t4 t7 t100 t101 t102 w_ => m2 t7 t100 t101 t102 w_) ?_ ?_ ?_
  · have A : Ahead w w := Ahead.refl w
    have X : Ext w w := Ext.refl w
    refine newC_t fun bk1 u1 hb1 ha_u1 hs B1 => ?_
    have g1 : w.heap.size ≤ bk1 := by have := A.size; omega
    replace A := A.trans ha_u1
    replace X := X.trans (Ext.of_ahead ha_u1)
    clear hs hb1
    refine newC_t fun bk2 u2 hb2 ha_u2 hs B2 => ?_
    have g2 : w.heap.size ≤ bk2 := by have := A.size; omega
    have l1_2 : bk1 < bk2 := by have := B1.lt; omega
    replace B1 := B1.ahead ha_u2
    replace A := A.trans ha_u2
    replace X := X.trans (Ext.of_ahead ha_u2)
    clear hs hb2
    refine newC_t fun bk3 u3 hb3 ha_u3 hs B3 => ?_
    have g3 : w.heap.size ≤ bk3 := by have := A.size; omega
    have l1_3 : bk1 < bk3 := by have := B1.lt; omega
    have l2_3 : bk2 < bk3 := by have := B2.lt; omega
    replace B1 := B1.ahead ha_u3
    replace B2 := B2.ahead ha_u3
    replace A := A.trans ha_u3
    replace X := X.trans (Ext.of_ahead ha_u3)
    clear hs hb3
    refine ldI_t 0 B3 rfl ?_
    refine ldI_t 1 B3 rfl ?_
    intro w1 ha_w1
    replace B1 := B1.ahead ha_w1
    replace B2 := B2.ahead ha_w1
    replace B3 := B3.ahead ha_w1
    replace A := A.trans ha_w1
    replace X := X.trans (Ext.of_ahead ha_w1)
    clear ha_w1
    refine br_map h (fun h_ => ?_) (fun h_ => ?_)
    · skip
      clear h
      have h := h_
      clear h_
      replace h := h _ X A
      refine Calls.mono h ?_
      clear h
      rintro e1 w3 ⟨b1, he_, ha_w3, h⟩
      refine ⟨b1, he_, ?_⟩
      clear he_
      replace B1 := B1.ahead ha_w3
      replace B2 := B2.ahead ha_w3
      replace B3 := B3.ahead ha_w3
      replace A := A.trans ha_w3
      replace X := X.trans (Ext.of_ahead ha_w3)
      replace X : Ext w3 w3 := Ext.refl _
      exact ⟨A, h⟩
    · skip
      clear h
      have h := h_
      clear h_
      refine br_map h (fun h_ => ?_) (fun h_ => ?_)
      · skip
        clear h
        have h := h_
        clear h_
        replace h := h _ X A
        refine Calls.mono h ?_
        clear h
        rintro e2 w5 ⟨b2, he_, ha_w5, h⟩
        refine ⟨b2, he_, ?_⟩
        clear he_
        replace B1 := B1.ahead ha_w5
        replace B2 := B2.ahead ha_w5
        replace B3 := B3.ahead ha_w5
        replace A := A.trans ha_w5
        replace X := X.trans (Ext.of_ahead ha_w5)
        replace X : Ext w5 w5 := Ext.refl _
        exact ⟨A, h⟩
      · skip
        clear h
        have h := h_
        clear h_
        replace h := h _ X A
        refine Calls.mono h ?_
        clear h
        rintro e3 w7 ⟨b3, he_, ha_w7, h⟩
        refine ⟨b3, he_, ?_⟩
        clear he_
        replace B1 := B1.ahead ha_w7
        replace B2 := B2.ahead ha_w7
        replace B3 := B3.ahead ha_w7
        replace A := A.trans ha_w7
        replace X := X.trans (Ext.of_ahead ha_w7)
        replace X : Ext w7 w7 := Ext.refl _
        refine br_map h (fun h_ => ?_) (fun h_ => ?_)
        · skip
          clear h
          have h := h_
          clear h_
          refine Calls.mono h ?_
          clear h
          rintro e4 w8 ⟨b4, he_, ha_w8, h⟩
          refine ⟨b4, he_, ?_⟩
          clear he_
          replace B1 := B1.ahead ha_w8
          replace B2 := B2.ahead ha_w8
          replace B3 := B3.ahead ha_w8
          replace A := A.trans ha_w8
          replace X := X.trans (Ext.of_ahead ha_w8)
          replace X : Ext w8 w8 := Ext.refl _
          exact ⟨A, h⟩
        · skip
          clear h
          have h := h_
          clear h_
          refine Calls.mono h ?_
          clear h
          rintro e5 w9 ⟨b5, he_, ha_w9, h⟩
          refine ⟨b5, he_, ?_⟩
          clear he_
          replace B1 := B1.ahead ha_w9
          replace B2 := B2.ahead ha_w9
          replace B3 := B3.ahead ha_w9
          replace A := A.trans ha_w9
          replace X := X.trans (Ext.of_ahead ha_w9)
          replace X : Ext w9 w9 := Ext.refl _
          refine br_map h (fun h_ => ?_) (fun h_ => ?_)
          · skip
            clear h
            have h := h_
            clear h_
            refine Calls.mono h ?_
            clear h
            rintro e6 w10 ⟨b6, he_, ha_w10, h⟩
            refine ⟨b6, he_, ?_⟩
            clear he_
            replace B1 := B1.ahead ha_w10
            replace B2 := B2.ahead ha_w10
            replace B3 := B3.ahead ha_w10
            replace A := A.trans ha_w10
            replace X := X.trans (Ext.of_ahead ha_w10)
            replace X : Ext w10 w10 := Ext.refl _
            exact ⟨A, h⟩
          · skip
            clear h
            have h := h_
            clear h_
            refine newC_map h fun ad1 w11 ha_w11 h_ => ?_
            clear h
            have h := h_
            clear h_
            replace B1 := B1.ahead ha_w11
            replace B2 := B2.ahead ha_w11
            replace B3 := B3.ahead ha_w11
            replace A := A.trans ha_w11
            replace X := X.trans (Ext.of_ahead ha_w11)
            replace X : Ext w11 w11 := Ext.refl _
            exact ⟨bk1, bk2, a0_0, a0_1, a0_2, a1_0, a1_1, a1_2, rfl, B1, g1, rfl, B2, g2, (by omega), A, h⟩
  · clear h
    rintro t3 t4 t7 t8 t50 t51 t52 w_ ⟨bk1, bk2, t3_0, t3_1, t3_2, t4_0, t4_1, t4_2, rfl, B1, g1, rfl, B2, g2, n1_2, A, hJ0⟩
    have h := h0  t7 t8 t50 t51 t52 t3_0 t3_1 t3_2 t4_0 t4_1 t4_2 w_ A hJ0
    have X : Ext w_ w_ := Ext.refl _
    refine br_map h (fun h_ => ?_) (fun h_ => ?_)
    · skip
      clear h
      have h := h_
      clear h_
      refine semA_map h ?_
      clear h
      rintro ad2 _ ⟨rfl, h⟩
      obtain ⟨x1, hc_, h⟩ := h
      refine ⟨x1, hc_, ?_⟩
      clear hc_
      refine ldB_t 0 B1 rfl ?_
      refine ldS_t 1 B1 rfl ?_
      refine ldI_t 2 B1 rfl ?_
      refine Calls.mono h ?_
      clear h
      rintro e7 w13 ⟨b7, s1, x2, he_, ha_w13, h⟩
      refine ⟨b7, s1, x2, he_, ?_⟩
      clear he_
      replace B1 := B1.ahead ha_w13
      replace B2 := B2.ahead ha_w13
      replace A := A.trans ha_w13
      replace X := X.trans (Ext.of_ahead ha_w13)
      replace X : Ext w13 w13 := Ext.refl _
      refine Calls.mono h ?_
      clear h
      rintro e8 w14 ⟨b8, s2, x3, x4, he_, ha_w14, h⟩
      refine ⟨b8, s2, x3, x4, he_, ?_⟩
      clear he_
      replace B1 := B1.ahead ha_w14
      replace B2 := B2.ahead ha_w14
      replace A := A.trans ha_w14
      replace X := X.trans (Ext.of_ahead ha_w14)
      replace X : Ext w14 w14 := Ext.refl _
      refine newC_t fun bk4 u4 hb4 ha_u4 hs B4 => ?_
      have g4 : w.heap.size ≤ bk4 := by have := A.size; omega
      have l1_4 : bk1 < bk4 := by have := B1.lt; omega
      have l2_4 : bk2 < bk4 := by have := B2.lt; omega
      replace B1 := B1.ahead ha_u4
      replace B2 := B2.ahead ha_u4
      replace A := A.trans ha_u4
      replace X := X.trans (Ext.of_ahead ha_u4)
      clear hs hb4
      refine stC_t 0 B4 rfl rfl rfl fun u5 k_u5 B4_ => ?_
      replace B4 : Blt u5 bk4 33 #[Value.bool b8, (⟨none, 0, 0⟩ : Slc).v, Value.int .i64 0] := B4_
      clear B4_
      refine stC_t 1 B4 rfl rfl rfl fun u6 k_u6 B4_ => ?_
      replace B4 : Blt u6 bk4 33 #[Value.bool b8, s2.v, Value.int .i64 0] := B4_
      clear B4_
      refine stC_t 2 B4 rfl rfl rfl fun u7 k_u7 B4_ => ?_
      replace B4 : Blt u7 bk4 33 #[Value.bool b8, s2.v, Value.int .i64 x3] := B4_
      clear B4_
      have kk_u5 := ((k_u5.trans k_u6).trans k_u7)
      replace B1 := kk_u5.blt B1 (by omega)
      replace B2 := kk_u5.blt B2 (by omega)
      replace A := kk_u5.ahead A g4
      replace X := X.trans kk_u5.ext
      clear k_u7 k_u6 k_u5
      refine ldB_t 0 B1 rfl ?_
      refine ldS_t 1 B1 rfl ?_
      refine ldI_t 2 B1 rfl ?_
      replace h := h _ X A
      refine Calls.mono h ?_
      clear h
      rintro e9 w16 ⟨b9, s3, x5, he_, ha_w16, h⟩
      refine ⟨b9, s3, x5, he_, ?_⟩
      clear he_
      replace B1 := B1.ahead ha_w16
      replace B2 := B2.ahead ha_w16
      replace B4 := B4.ahead ha_w16
      replace A := A.trans ha_w16
      replace X := X.trans (Ext.of_ahead ha_w16)
      replace X : Ext w16 w16 := Ext.refl _
      refine Calls.mono h ?_
      clear h
      rintro e10 w17 ⟨b10, s4, x6, x7, he_, ha_w17, h⟩
      refine ⟨b10, s4, x6, x7, he_, ?_⟩
      clear he_
      replace B1 := B1.ahead ha_w17
      replace B2 := B2.ahead ha_w17
      replace B4 := B4.ahead ha_w17
      replace A := A.trans ha_w17
      replace X := X.trans (Ext.of_ahead ha_w17)
      replace X : Ext w17 w17 := Ext.refl _
      refine newC_t fun bk5 u8 hb5 ha_u8 hs B5 => ?_
      have g5 : w.heap.size ≤ bk5 := by have := A.size; omega
      have l1_5 : bk1 < bk5 := by have := B1.lt; omega
      have l2_5 : bk2 < bk5 := by have := B2.lt; omega
      have l4_5 : bk4 < bk5 := by have := B4.lt; omega
      replace B1 := B1.ahead ha_u8
      replace B2 := B2.ahead ha_u8
      replace B4 := B4.ahead ha_u8
      replace A := A.trans ha_u8
      replace X := X.trans (Ext.of_ahead ha_u8)
      clear hs hb5
      refine stC_t 0 B5 rfl rfl rfl fun u9 k_u9 B5_ => ?_
      replace B5 : Blt u9 bk5 33 #[Value.bool b10, (⟨none, 0, 0⟩ : Slc).v, Value.int .i64 0] := B5_
      clear B5_
      refine stC_t 1 B5 rfl rfl rfl fun u10 k_u10 B5_ => ?_
      replace B5 : Blt u10 bk5 33 #[Value.bool b10, s4.v, Value.int .i64 0] := B5_
      clear B5_
      refine stC_t 2 B5 rfl rfl rfl fun u11 k_u11 B5_ => ?_
      replace B5 : Blt u11 bk5 33 #[Value.bool b10, s4.v, Value.int .i64 x6] := B5_
      clear B5_
      have kk_u9 := ((k_u9.trans k_u10).trans k_u11)
      replace B1 := kk_u9.blt B1 (by omega)
      replace B2 := kk_u9.blt B2 (by omega)
      replace B4 := kk_u9.blt B4 (by omega)
      replace A := kk_u9.ahead A g5
      replace X := X.trans kk_u9.ext
      clear k_u11 k_u10 k_u9
      replace h := h _ X A
      refine newC_map h fun ad3 w19 ha_w19 h_ => ?_
      clear h
      have h := h_
      clear h_
      replace B1 := B1.ahead ha_w19
      replace B2 := B2.ahead ha_w19
      replace B4 := B4.ahead ha_w19
      replace B5 := B5.ahead ha_w19
      replace A := A.trans ha_w19
      replace X := X.trans (Ext.of_ahead ha_w19)
      replace X : Ext w19 w19 := Ext.refl _
      refine Calls.mono h ?_
      clear h
      rintro e11 w20 ⟨b11, he_, ha_w20, h⟩
      refine ⟨b11, he_, ?_⟩
      clear he_
      replace B1 := B1.ahead ha_w20
      replace B2 := B2.ahead ha_w20
      replace B4 := B4.ahead ha_w20
      replace B5 := B5.ahead ha_w20
      replace A := A.trans ha_w20
      replace X := X.trans (Ext.of_ahead ha_w20)
      replace X : Ext w20 w20 := Ext.refl _
      refine br_map h (fun h_ => ?_) (fun h_ => ?_)
      · skip
        clear h
        have h := h_
        clear h_
        refine Calls.mono h ?_
        clear h
        rintro e12 w21 ⟨b12, he_, ha_w21, h⟩
        refine ⟨b12, he_, ?_⟩
        clear he_
        replace B1 := B1.ahead ha_w21
        replace B2 := B2.ahead ha_w21
        replace B4 := B4.ahead ha_w21
        replace B5 := B5.ahead ha_w21
        replace A := A.trans ha_w21
        replace X := X.trans (Ext.of_ahead ha_w21)
        replace X : Ext w21 w21 := Ext.refl _
        exact ⟨A, h⟩
      · skip
        clear h
        have h := h_
        clear h_
        refine ldB_t 0 B4 rfl ?_
        refine ldS_t 1 B4 rfl ?_
        refine ldI_t 2 B4 rfl ?_
        refine Calls.mono h ?_
        clear h
        rintro e13 w22 ⟨b13, s5, x8, x9, he_, ha_w22, h⟩
        refine ⟨b13, s5, x8, x9, he_, ?_⟩
        clear he_
        replace B1 := B1.ahead ha_w22
        replace B2 := B2.ahead ha_w22
        replace B4 := B4.ahead ha_w22
        replace B5 := B5.ahead ha_w22
        replace A := A.trans ha_w22
        replace X := X.trans (Ext.of_ahead ha_w22)
        replace X : Ext w22 w22 := Ext.refl _
        refine newC_t fun bk6 u12 hb6 ha_u12 hs B6 => ?_
        have g6 : w.heap.size ≤ bk6 := by have := A.size; omega
        have l1_6 : bk1 < bk6 := by have := B1.lt; omega
        have l2_6 : bk2 < bk6 := by have := B2.lt; omega
        have l4_6 : bk4 < bk6 := by have := B4.lt; omega
        have l5_6 : bk5 < bk6 := by have := B5.lt; omega
        replace B1 := B1.ahead ha_u12
        replace B2 := B2.ahead ha_u12
        replace B4 := B4.ahead ha_u12
        replace B5 := B5.ahead ha_u12
        replace A := A.trans ha_u12
        replace X := X.trans (Ext.of_ahead ha_u12)
        clear hs hb6
        refine stC_t 0 B6 rfl rfl rfl fun u13 k_u13 B6_ => ?_
        replace B6 : Blt u13 bk6 33 #[Value.bool b13, (⟨none, 0, 0⟩ : Slc).v, Value.int .i64 0] := B6_
        clear B6_
        refine stC_t 1 B6 rfl rfl rfl fun u14 k_u14 B6_ => ?_
        replace B6 : Blt u14 bk6 33 #[Value.bool b13, s5.v, Value.int .i64 0] := B6_
        clear B6_
        refine stC_t 2 B6 rfl rfl rfl fun u15 k_u15 B6_ => ?_
        replace B6 : Blt u15 bk6 33 #[Value.bool b13, s5.v, Value.int .i64 x8] := B6_
        clear B6_
        have kk_u13 := ((k_u13.trans k_u14).trans k_u15)
        replace B1 := kk_u13.blt B1 (by omega)
        replace B2 := kk_u13.blt B2 (by omega)
        replace B4 := kk_u13.blt B4 (by omega)
        replace B5 := kk_u13.blt B5 (by omega)
        replace A := kk_u13.ahead A g6
        replace X := X.trans kk_u13.ext
        clear k_u15 k_u14 k_u13
        replace h := h _ X A
        refine newC_map h fun ad4 w24 ha_w24 h_ => ?_
        clear h
        have h := h_
        clear h_
        replace B1 := B1.ahead ha_w24
        replace B2 := B2.ahead ha_w24
        replace B4 := B4.ahead ha_w24
        replace B5 := B5.ahead ha_w24
        replace B6 := B6.ahead ha_w24
        replace A := A.trans ha_w24
        replace X := X.trans (Ext.of_ahead ha_w24)
        replace X : Ext w24 w24 := Ext.refl _
        refine Calls.mono h ?_
        clear h
        rintro e14 w25 ⟨b14, he_, ha_w25, h⟩
        refine ⟨b14, he_, ?_⟩
        clear he_
        replace B1 := B1.ahead ha_w25
        replace B2 := B2.ahead ha_w25
        replace B4 := B4.ahead ha_w25
        replace B5 := B5.ahead ha_w25
        replace B6 := B6.ahead ha_w25
        replace A := A.trans ha_w25
        replace X := X.trans (Ext.of_ahead ha_w25)
        replace X : Ext w25 w25 := Ext.refl _
        refine br_map h (fun h_ => ?_) (fun h_ => ?_)
        · skip
          clear h
          have h := h_
          clear h_
          exact ⟨A, h⟩
        · skip
          clear h
          have h := h_
          clear h_
          refine ldB_t 0 B5 rfl ?_
          refine ldS_t 1 B5 rfl ?_
          refine ldI_t 2 B5 rfl ?_
          refine ldB_t 0 B6 rfl ?_
          refine ldS_t 1 B6 rfl ?_
          refine ldI_t 2 B6 rfl ?_
          refine Calls.mono h ?_
          clear h
          rintro e15 w26 ⟨b15, he_, ha_w26, h⟩
          refine ⟨b15, he_, ?_⟩
          clear he_
          replace B1 := B1.ahead ha_w26
          replace B2 := B2.ahead ha_w26
          replace B4 := B4.ahead ha_w26
          replace B5 := B5.ahead ha_w26
          replace B6 := B6.ahead ha_w26
          replace A := A.trans ha_w26
          replace X := X.trans (Ext.of_ahead ha_w26)
          replace X : Ext w26 w26 := Ext.refl _
          refine br_map h (fun h_ => ?_) (fun h_ => ?_)
          · skip
            clear h
            have h := h_
            clear h_
            exact ⟨A, h⟩
          · skip
            clear h
            have h := h_
            clear h_
            exact ⟨⟨bk1, bk2, t3_0, t3_1, t3_2, t4_0, t4_1, t4_2, rfl, B1, g1, rfl, B2, g2, (by omega), A, h.1⟩, h.2⟩
    · skip
      clear h
      have h := h_
      clear h_
      refine newC_map h fun ad5 w27 ha_w27 h_ => ?_
      clear h
      have h := h_
      clear h_
      replace B1 := B1.ahead ha_w27
      replace B2 := B2.ahead ha_w27
      replace A := A.trans ha_w27
      replace X := X.trans (Ext.of_ahead ha_w27)
      replace X : Ext w27 w27 := Ext.refl _
      exact ⟨bk1, bk2, t3_0, t3_1, t3_2, t4_0, t4_1, t4_2, rfl, B1, g1, rfl, B2, g2, (by omega), A, h⟩
  · clear h
    rintro t3 t4 t7 t100 t101 t102 w_ ⟨bk1, bk2, t3_0, t3_1, t3_2, t4_0, t4_1, t4_2, rfl, B1, g1, rfl, B2, g2, n1_2, A, hJ2⟩
    have h := h2  t7 t100 t101 t102 t3_0 t3_1 t3_2 t4_0 t4_1 t4_2 w_ A hJ2
    have X : Ext w_ w_ := Ext.refl _
    refine br_map h (fun h_ => ?_) (fun h_ => ?_)
    · skip
      clear h
      have h := h_
      clear h_
      refine semA_map h ?_
      clear h
      rintro ad6 _ ⟨rfl, h⟩
      obtain ⟨x10, hc_, h⟩ := h
      refine ⟨x10, hc_, ?_⟩
      clear hc_
      refine ldB_t 0 B1 rfl ?_
      refine ldS_t 1 B1 rfl ?_
      refine ldI_t 2 B1 rfl ?_
      refine Calls.mono h ?_
      clear h
      rintro e16 w29 ⟨b16, s6, x11, he_, ha_w29, h⟩
      refine ⟨b16, s6, x11, he_, ?_⟩
      clear he_
      replace B1 := B1.ahead ha_w29
      replace B2 := B2.ahead ha_w29
      replace A := A.trans ha_w29
      replace X := X.trans (Ext.of_ahead ha_w29)
      replace X : Ext w29 w29 := Ext.refl _
      refine Calls.mono h ?_
      clear h
      rintro e17 w30 ⟨b17, s7, x12, x13, he_, ha_w30, h⟩
      refine ⟨b17, s7, x12, x13, he_, ?_⟩
      clear he_
      replace B1 := B1.ahead ha_w30
      replace B2 := B2.ahead ha_w30
      replace A := A.trans ha_w30
      replace X := X.trans (Ext.of_ahead ha_w30)
      replace X : Ext w30 w30 := Ext.refl _
      refine newC_t fun bk7 u16 hb7 ha_u16 hs B7 => ?_
      have g7 : w.heap.size ≤ bk7 := by have := A.size; omega
      have l1_7 : bk1 < bk7 := by have := B1.lt; omega
      have l2_7 : bk2 < bk7 := by have := B2.lt; omega
      replace B1 := B1.ahead ha_u16
      replace B2 := B2.ahead ha_u16
      replace A := A.trans ha_u16
      replace X := X.trans (Ext.of_ahead ha_u16)
      clear hs hb7
      refine stC_t 0 B7 rfl rfl rfl fun u17 k_u17 B7_ => ?_
      replace B7 : Blt u17 bk7 33 #[Value.bool b17, (⟨none, 0, 0⟩ : Slc).v, Value.int .i64 0] := B7_
      clear B7_
      refine stC_t 1 B7 rfl rfl rfl fun u18 k_u18 B7_ => ?_
      replace B7 : Blt u18 bk7 33 #[Value.bool b17, s7.v, Value.int .i64 0] := B7_
      clear B7_
      refine stC_t 2 B7 rfl rfl rfl fun u19 k_u19 B7_ => ?_
      replace B7 : Blt u19 bk7 33 #[Value.bool b17, s7.v, Value.int .i64 x12] := B7_
      clear B7_
      have kk_u17 := ((k_u17.trans k_u18).trans k_u19)
      replace B1 := kk_u17.blt B1 (by omega)
      replace B2 := kk_u17.blt B2 (by omega)
      replace A := kk_u17.ahead A g7
      replace X := X.trans kk_u17.ext
      clear k_u19 k_u18 k_u17
      refine ldB_t 0 B2 rfl ?_
      refine ldS_t 1 B2 rfl ?_
      refine ldI_t 2 B2 rfl ?_
      replace h := h _ X A
      refine Calls.mono h ?_
      clear h
      rintro e18 w32 ⟨b18, s8, x14, he_, ha_w32, h⟩
      refine ⟨b18, s8, x14, he_, ?_⟩
      clear he_
      replace B1 := B1.ahead ha_w32
      replace B2 := B2.ahead ha_w32
      replace B7 := B7.ahead ha_w32
      replace A := A.trans ha_w32
      replace X := X.trans (Ext.of_ahead ha_w32)
      replace X : Ext w32 w32 := Ext.refl _
      refine Calls.mono h ?_
      clear h
      rintro e19 w33 ⟨b19, s9, x15, x16, he_, ha_w33, h⟩
      refine ⟨b19, s9, x15, x16, he_, ?_⟩
      clear he_
      replace B1 := B1.ahead ha_w33
      replace B2 := B2.ahead ha_w33
      replace B7 := B7.ahead ha_w33
      replace A := A.trans ha_w33
      replace X := X.trans (Ext.of_ahead ha_w33)
      replace X : Ext w33 w33 := Ext.refl _
      refine newC_t fun bk8 u20 hb8 ha_u20 hs B8 => ?_
      have g8 : w.heap.size ≤ bk8 := by have := A.size; omega
      have l1_8 : bk1 < bk8 := by have := B1.lt; omega
      have l2_8 : bk2 < bk8 := by have := B2.lt; omega
      have l7_8 : bk7 < bk8 := by have := B7.lt; omega
      replace B1 := B1.ahead ha_u20
      replace B2 := B2.ahead ha_u20
      replace B7 := B7.ahead ha_u20
      replace A := A.trans ha_u20
      replace X := X.trans (Ext.of_ahead ha_u20)
      clear hs hb8
      refine stC_t 0 B8 rfl rfl rfl fun u21 k_u21 B8_ => ?_
      replace B8 : Blt u21 bk8 33 #[Value.bool b19, (⟨none, 0, 0⟩ : Slc).v, Value.int .i64 0] := B8_
      clear B8_
      refine stC_t 1 B8 rfl rfl rfl fun u22 k_u22 B8_ => ?_
      replace B8 : Blt u22 bk8 33 #[Value.bool b19, s9.v, Value.int .i64 0] := B8_
      clear B8_
      refine stC_t 2 B8 rfl rfl rfl fun u23 k_u23 B8_ => ?_
      replace B8 : Blt u23 bk8 33 #[Value.bool b19, s9.v, Value.int .i64 x15] := B8_
      clear B8_
      have kk_u21 := ((k_u21.trans k_u22).trans k_u23)
      replace B1 := kk_u21.blt B1 (by omega)
      replace B2 := kk_u21.blt B2 (by omega)
      replace B7 := kk_u21.blt B7 (by omega)
      replace A := kk_u21.ahead A g8
      replace X := X.trans kk_u21.ext
      clear k_u23 k_u22 k_u21
      have hd_ := Sp.Ahead.drew u23
      replace B1 := B1.ahead hd_
      replace B2 := B2.ahead hd_
      replace B7 := B7.ahead hd_
      replace B8 := B8.ahead hd_
      replace A := A.trans hd_
      replace X := X.trans (Ext.of_ahead hd_)
      clear hd_
      refine ldB_t 0 B1 rfl ?_
      refine ldS_t 1 B1 rfl ?_
      refine ldI_t 2 B1 rfl ?_
      refine ldB_t 0 B2 rfl ?_
      refine ldS_t 1 B2 rfl ?_
      refine ldI_t 2 B2 rfl ?_
      replace h := h _ X A
      refine Calls.mono h ?_
      clear h
      rintro e20 w35 ⟨b20, s10, x17, he_, ha_w35, h⟩
      refine ⟨b20, s10, x17, he_, ?_⟩
      clear he_
      replace B1 := B1.ahead ha_w35
      replace B2 := B2.ahead ha_w35
      replace B7 := B7.ahead ha_w35
      replace B8 := B8.ahead ha_w35
      replace A := A.trans ha_w35
      replace X := X.trans (Ext.of_ahead ha_w35)
      replace X : Ext w35 w35 := Ext.refl _
      refine ⟨ha_w35, ?_⟩
      refine Calls.mono h ?_
      clear h
      rintro e21 w36 ⟨b21, s11, x18, he_, ha_w36, h⟩
      refine ⟨b21, s11, x18, he_, ?_⟩
      clear he_
      replace B1 := B1.ahead ha_w36
      replace B2 := B2.ahead ha_w36
      replace B7 := B7.ahead ha_w36
      replace B8 := B8.ahead ha_w36
      replace A := A.trans ha_w36
      replace X := X.trans (Ext.of_ahead ha_w36)
      replace X : Ext w36 w36 := Ext.refl _
      refine ⟨ha_w36, ?_⟩
      refine Calls.mono h ?_
      clear h
      rintro e22 w37 ⟨x19, x20, he_, ha_w37, h⟩
      refine ⟨x19, x20, he_, ?_⟩
      clear he_
      replace B1 := B1.ahead ha_w37
      replace B2 := B2.ahead ha_w37
      replace B7 := B7.ahead ha_w37
      replace B8 := B8.ahead ha_w37
      replace A := A.trans ha_w37
      replace X := X.trans (Ext.of_ahead ha_w37)
      replace X : Ext w37 w37 := Ext.refl _
      refine ⟨ha_w37, ?_⟩
      refine newC_map h fun ad7 w38 ha_w38 h_ => ?_
      clear h
      have h := h_
      clear h_
      replace B1 := B1.ahead ha_w38
      replace B2 := B2.ahead ha_w38
      replace B7 := B7.ahead ha_w38
      replace B8 := B8.ahead ha_w38
      replace A := A.trans ha_w38
      replace X := X.trans (Ext.of_ahead ha_w38)
      replace X : Ext w38 w38 := Ext.refl _
      refine Calls.mono h ?_
      clear h
      rintro e23 w39 ⟨b22, he_, ha_w39, h⟩
      refine ⟨b22, he_, ?_⟩
      clear he_
      replace B1 := B1.ahead ha_w39
      replace B2 := B2.ahead ha_w39
      replace B7 := B7.ahead ha_w39
      replace B8 := B8.ahead ha_w39
      replace A := A.trans ha_w39
      replace X := X.trans (Ext.of_ahead ha_w39)
      replace X : Ext w39 w39 := Ext.refl _
      refine br_map h (fun h_ => ?_) (fun h_ => ?_)
      · skip
        clear h
        have h := h_
        clear h_
        refine Calls.mono h ?_
        clear h
        rintro e24 w40 ⟨b23, he_, ha_w40, h⟩
        refine ⟨b23, he_, ?_⟩
        clear he_
        replace B1 := B1.ahead ha_w40
        replace B2 := B2.ahead ha_w40
        replace B7 := B7.ahead ha_w40
        replace B8 := B8.ahead ha_w40
        replace A := A.trans ha_w40
        replace X := X.trans (Ext.of_ahead ha_w40)
        replace X : Ext w40 w40 := Ext.refl _
        exact ⟨A, h⟩
      · skip
        clear h
        have h := h_
        clear h_
        refine ldB_t 0 B7 rfl ?_
        refine ldS_t 1 B7 rfl ?_
        refine ldI_t 2 B7 rfl ?_
        refine ldB_t 0 B8 rfl ?_
        refine ldS_t 1 B8 rfl ?_
        refine ldI_t 2 B8 rfl ?_
        refine Calls.mono h ?_
        clear h
        rintro e25 w41 ⟨x21, x22, he_, ha_w41, h⟩
        refine ⟨x21, x22, he_, ?_⟩
        clear he_
        replace B1 := B1.ahead ha_w41
        replace B2 := B2.ahead ha_w41
        replace B7 := B7.ahead ha_w41
        replace B8 := B8.ahead ha_w41
        replace A := A.trans ha_w41
        replace X := X.trans (Ext.of_ahead ha_w41)
        replace X : Ext w41 w41 := Ext.refl _
        refine newC_map h fun ad8 w42 ha_w42 h_ => ?_
        clear h
        have h := h_
        clear h_
        replace B1 := B1.ahead ha_w42
        replace B2 := B2.ahead ha_w42
        replace B7 := B7.ahead ha_w42
        replace B8 := B8.ahead ha_w42
        replace A := A.trans ha_w42
        replace X := X.trans (Ext.of_ahead ha_w42)
        replace X : Ext w42 w42 := Ext.refl _
        refine Calls.mono h ?_
        clear h
        rintro e26 w43 ⟨b24, he_, ha_w43, h⟩
        refine ⟨b24, he_, ?_⟩
        clear he_
        replace B1 := B1.ahead ha_w43
        replace B2 := B2.ahead ha_w43
        replace B7 := B7.ahead ha_w43
        replace B8 := B8.ahead ha_w43
        replace A := A.trans ha_w43
        replace X := X.trans (Ext.of_ahead ha_w43)
        replace X : Ext w43 w43 := Ext.refl _
        refine br_map h (fun h_ => ?_) (fun h_ => ?_)
        · skip
          clear h
          have h := h_
          clear h_
          exact ⟨A, h⟩
        · skip
          clear h
          have h := h_
          clear h_
          refine br_map h (fun h_ => ?_) (fun h_ => ?_)
          · skip
            clear h
            have h := h_
            clear h_
            refine br_map h (fun h_ => ?_) (fun h_ => ?_)
            · skip
              clear h
              have h := h_
              clear h_
              exact ⟨A, h⟩
            · skip
              clear h
              have h := h_
              clear h_
              refine br_map h (fun h_ => ?_) (fun h_ => ?_)
              · skip
                clear h
                have h := h_
                clear h_
                refine br_map h (fun h_ => ?_) (fun h_ => ?_)
                · skip
                  clear h
                  have h := h_
                  clear h_
                  exact ⟨A, h⟩
                · skip
                  clear h
                  have h := h_
                  clear h_
                  refine br_map h (fun h_ => ?_) (fun h_ => ?_)
                  · skip
                    clear h
                    have h := h_
                    clear h_
                    refine br_map h (fun h_ => ?_) (fun h_ => ?_)
                    · skip
                      clear h
                      have h := h_
                      clear h_
                      exact ⟨A, h⟩
                    · skip
                      clear h
                      have h := h_
                      clear h_
                      exact ⟨⟨bk1, bk2, t3_0, t3_1, t3_2, t4_0, t4_1, t4_2, rfl, B1, g1, rfl, B2, g2, (by omega), A, h.1⟩, h.2⟩
                  · skip
                    clear h
                    have h := h_
                    clear h_
                    exact ⟨⟨bk1, bk2, t3_0, t3_1, t3_2, t4_0, t4_1, t4_2, rfl, B1, g1, rfl, B2, g2, (by omega), A, h.1⟩, h.2⟩
              · skip
                clear h
                have h := h_
                clear h_
                refine br_map h (fun h_ => ?_) (fun h_ => ?_)
                · skip
                  clear h
                  have h := h_
                  clear h_
                  refine br_map h (fun h_ => ?_) (fun h_ => ?_)
                  · skip
                    clear h
                    have h := h_
                    clear h_
                    exact ⟨A, h⟩
                  · skip
                    clear h
                    have h := h_
                    clear h_
                    exact ⟨⟨bk1, bk2, t3_0, t3_1, t3_2, t4_0, t4_1, t4_2, rfl, B1, g1, rfl, B2, g2, (by omega), A, h.1⟩, h.2⟩
                · skip
                  clear h
                  have h := h_
                  clear h_
                  exact ⟨⟨bk1, bk2, t3_0, t3_1, t3_2, t4_0, t4_1, t4_2, rfl, B1, g1, rfl, B2, g2, (by omega), A, h.1⟩, h.2⟩
          · skip
            clear h
            have h := h_
            clear h_
            refine br_map h (fun h_ => ?_) (fun h_ => ?_)
            · skip
              clear h
              have h := h_
              clear h_
              refine br_map h (fun h_ => ?_) (fun h_ => ?_)
              · skip
                clear h
                have h := h_
                clear h_
                exact ⟨A, h⟩
              · skip
                clear h
                have h := h_
                clear h_
                refine br_map h (fun h_ => ?_) (fun h_ => ?_)
                · skip
                  clear h
                  have h := h_
                  clear h_
                  refine br_map h (fun h_ => ?_) (fun h_ => ?_)
                  · skip
                    clear h
                    have h := h_
                    clear h_
                    exact ⟨A, h⟩
                  · skip
                    clear h
                    have h := h_
                    clear h_
                    exact ⟨⟨bk1, bk2, t3_0, t3_1, t3_2, t4_0, t4_1, t4_2, rfl, B1, g1, rfl, B2, g2, (by omega), A, h.1⟩, h.2⟩
                · skip
                  clear h
                  have h := h_
                  clear h_
                  exact ⟨⟨bk1, bk2, t3_0, t3_1, t3_2, t4_0, t4_1, t4_2, rfl, B1, g1, rfl, B2, g2, (by omega), A, h.1⟩, h.2⟩
            · skip
              clear h
              have h := h_
              clear h_
              refine br_map h (fun h_ => ?_) (fun h_ => ?_)
              · skip
                clear h
                have h := h_
                clear h_
                refine br_map h (fun h_ => ?_) (fun h_ => ?_)
                · skip
                  clear h
                  have h := h_
                  clear h_
                  exact ⟨A, h⟩
                · skip
                  clear h
                  have h := h_
                  clear h_
                  exact ⟨⟨bk1, bk2, t3_0, t3_1, t3_2, t4_0, t4_1, t4_2, rfl, B1, g1, rfl, B2, g2, (by omega), A, h.1⟩, h.2⟩
              · skip
                clear h
                have h := h_
                clear h_
                exact ⟨⟨bk1, bk2, t3_0, t3_1, t3_2, t4_0, t4_1, t4_2, rfl, B1, g1, rfl, B2, g2, (by omega), A, h.1⟩, h.2⟩
    · skip
      clear h
      have h := h_
      clear h_
      refine Calls.mono h ?_
      clear h
      rintro e27 w44 ⟨b25, he_, ha_w44, h⟩
      refine ⟨b25, he_, ?_⟩
      clear he_
      replace B1 := B1.ahead ha_w44
      replace B2 := B2.ahead ha_w44
      replace A := A.trans ha_w44
      replace X := X.trans (Ext.of_ahead ha_w44)
      replace X : Ext w44 w44 := Ext.refl _
      exact ⟨A, h⟩

end Go.Proofs.YthhbjhdnaopcnaaDoor
namespace Go.Proofs.YthhbjhdnaopcnaaDoor
open Go Go.RowKit Eng L2
set_option linter.unusedVariables false
set_option maxHeartbeats 2000000
set_option maxRecDepth 100000

/-- surd/dyadic.two: function 86, its local variables as values. -/
theorem dyadic_two_v2 (a0_a_0 : Bool) (a0_a_1 : Slc) (a0_a_2 : Int) (a1_b_0 : Bool) (a1_b_1 : Slc) (a1_b_2 : Int) (w : World) (R : Ending → World → Prop)
    
    (h : ∀ w1, Ext w w1 → Ahead w w1 →
    (Calls Tryd.prog 62 #[Value.agg #[Value.bool a0_a_0, a0_a_1.v, Value.int .i64 a0_a_2]] w1 fun e1 w2 =>
     ∃ b1 : Bool, ∃ s1 : Slc, ∃ x1 : Int, ∃ x2 : Int, e1 = .returned (Value.tuple #[Value.agg #[Value.bool b1, s1.v, Value.int .i64 x1], Value.int .i64 x2]) ∧ Ahead w1 w2 ∧
     (br (x2 != 0)
      (∀ w3, Ext w2 w3 → Ahead w w3 →
       (R (.returned (Value.tuple #[Value.agg #[Value.bool b1, s1.v, Value.int .i64 x1], Value.agg #[Value.bool b1, s1.v, Value.int .i64 x1], Value.int .i64 x2])) w3))
      (∀ w4, Ext w2 w4 → Ahead w w4 →
       (Calls Tryd.prog 62 #[Value.agg #[Value.bool a1_b_0, a1_b_1.v, Value.int .i64 a1_b_2]] w4 fun e2 w5 =>
        ∃ b2 : Bool, ∃ s2 : Slc, ∃ x3 : Int, ∃ x4 : Int, e2 = .returned (Value.tuple #[Value.agg #[Value.bool b2, s2.v, Value.int .i64 x3], Value.int .i64 x4]) ∧ Ahead w4 w5 ∧
        (∀ w6, Ext w5 w6 → Ahead w w6 →
         (R (.returned (Value.tuple #[Value.agg #[Value.bool b1, s1.v, Value.int .i64 x1], Value.agg #[Value.bool b2, s2.v, Value.int .i64 x3], Value.int .i64 x4])) w6)))))))
     :
    Calls Tryd.prog 86 #[Value.agg #[Value.bool a0_a_0, a0_a_1.v, Value.int .i64 a0_a_2], Value.agg #[Value.bool a1_b_0, a1_b_1.v, Value.int .i64 a1_b_2]] w (fun e_ w_ => Ahead w w_ ∧ R e_ w_) := by
  refine dyadic_two_vc a0_a_0 a0_a_1 a0_a_2 a1_b_0 a1_b_1 a1_b_2 w _  ?_
  · have A : Ahead w w := Ahead.refl w
    have X : Ext w w := Ext.refl w
    refine newC_t fun bk1 u1 hb1 ha_u1 hs B1 => ?_
    have g1 : w.heap.size ≤ bk1 := by have := A.size; omega
    replace A := A.trans ha_u1
    replace X := X.trans (Ext.of_ahead ha_u1)
    clear hs hb1
    refine newC_t fun bk2 u2 hb2 ha_u2 hs B2 => ?_
    have g2 : w.heap.size ≤ bk2 := by have := A.size; omega
    have l1_2 : bk1 < bk2 := by have := B1.lt; omega
    replace B1 := B1.ahead ha_u2
    replace A := A.trans ha_u2
    replace X := X.trans (Ext.of_ahead ha_u2)
    clear hs hb2
    refine newC_t fun bk3 u3 hb3 ha_u3 hs B3 => ?_
    have g3 : w.heap.size ≤ bk3 := by have := A.size; omega
    have l1_3 : bk1 < bk3 := by have := B1.lt; omega
    have l2_3 : bk2 < bk3 := by have := B2.lt; omega
    replace B1 := B1.ahead ha_u3
    replace B2 := B2.ahead ha_u3
    replace A := A.trans ha_u3
    replace X := X.trans (Ext.of_ahead ha_u3)
    clear hs hb3
    refine newC_t fun bk4 u4 hb4 ha_u4 hs B4 => ?_
    have g4 : w.heap.size ≤ bk4 := by have := A.size; omega
    have l1_4 : bk1 < bk4 := by have := B1.lt; omega
    have l2_4 : bk2 < bk4 := by have := B2.lt; omega
    have l3_4 : bk3 < bk4 := by have := B3.lt; omega
    replace B1 := B1.ahead ha_u4
    replace B2 := B2.ahead ha_u4
    replace B3 := B3.ahead ha_u4
    replace A := A.trans ha_u4
    replace X := X.trans (Ext.of_ahead ha_u4)
    clear hs hb4
    refine ldB_t 0 B1 rfl ?_
    refine ldS_t 1 B1 rfl ?_
    refine ldI_t 2 B1 rfl ?_
    replace h := h _ X A
    refine Calls.mono h ?_
    clear h
    rintro e1 w2 ⟨b1, s1, x1, x2, he_, ha_w2, h⟩
    refine ⟨b1, s1, x1, x2, he_, ?_⟩
    clear he_
    replace B1 := B1.ahead ha_w2
    replace B2 := B2.ahead ha_w2
    replace B3 := B3.ahead ha_w2
    replace B4 := B4.ahead ha_w2
    replace A := A.trans ha_w2
    replace X := X.trans (Ext.of_ahead ha_w2)
    replace X : Ext w2 w2 := Ext.refl _
    refine newC_t fun bk5 u5 hb5 ha_u5 hs B5 => ?_
    have g5 : w.heap.size ≤ bk5 := by have := A.size; omega
    have l1_5 : bk1 < bk5 := by have := B1.lt; omega
    have l2_5 : bk2 < bk5 := by have := B2.lt; omega
    have l3_5 : bk3 < bk5 := by have := B3.lt; omega
    have l4_5 : bk4 < bk5 := by have := B4.lt; omega
    replace B1 := B1.ahead ha_u5
    replace B2 := B2.ahead ha_u5
    replace B3 := B3.ahead ha_u5
    replace B4 := B4.ahead ha_u5
    replace A := A.trans ha_u5
    replace X := X.trans (Ext.of_ahead ha_u5)
    clear hs hb5
    refine stC_t 0 B5 rfl rfl rfl fun u6 k_u6 B5_ => ?_
    replace B5 : Blt u6 bk5 98 #[Value.bool b1, (⟨none, 0, 0⟩ : Slc).v, Value.int .i64 0] := B5_
    clear B5_
    refine stC_t 1 B5 rfl rfl rfl fun u7 k_u7 B5_ => ?_
    replace B5 : Blt u7 bk5 98 #[Value.bool b1, s1.v, Value.int .i64 0] := B5_
    clear B5_
    refine stC_t 2 B5 rfl rfl rfl fun u8 k_u8 B5_ => ?_
    replace B5 : Blt u8 bk5 98 #[Value.bool b1, s1.v, Value.int .i64 x1] := B5_
    clear B5_
    have kk_u6 := ((k_u6.trans k_u7).trans k_u8)
    replace B1 := kk_u6.blt B1 (by omega)
    replace B2 := kk_u6.blt B2 (by omega)
    replace B3 := kk_u6.blt B3 (by omega)
    replace B4 := kk_u6.blt B4 (by omega)
    replace A := kk_u6.ahead A g5
    replace X := X.trans kk_u6.ext
    clear k_u8 k_u7 k_u6
    refine br_map h (fun h_ => ?_) (fun h_ => ?_)
    · skip
      clear h
      have h := h_
      clear h_
      have hd_ := Sp.Ahead.drew u8
      replace B1 := B1.ahead hd_
      replace B2 := B2.ahead hd_
      replace B3 := B3.ahead hd_
      replace B4 := B4.ahead hd_
      replace B5 := B5.ahead hd_
      replace A := A.trans hd_
      replace X := X.trans (Ext.of_ahead hd_)
      clear hd_
      have z1 := B1.lt
      have z2 := B2.lt
      have z3 := B3.lt
      have z4 := B4.lt
      have z5 := B5.lt
      let V_ : Nat → Nat → Prop := fun (q_ k : Nat) => (k = bk3 ∨ k = bk4 ∨ u8.drew.heap.size ≤ k) ∧ 0 ≤ k
      refine ⟨V_, ?_⟩
      have Y_ : u8.drew.heap.size ≤ u8.drew.heap.size := Nat.le_refl _
      refine out_t (b := bk5) (i := 0) (by first | rfl | exact Sp.add_off) (fun hv_ => (by replace hv_ : _ ∧ _ := hv_; omega)) ?_
      refine ldB_t 0 B5 rfl ?_
      refine ldS_t 1 B5 rfl ?_
      refine ldI_t 2 B5 rfl ?_
      refine out_t (b := bk5) (i := 0) (by first | rfl | exact Sp.add_off) (fun hv_ => (by replace hv_ : _ ∧ _ := hv_; omega)) ?_
      refine ldB_t 0 B5 rfl ?_
      refine ldS_t 1 B5 rfl ?_
      refine ldI_t 2 B5 rfl ?_
      refine stC_t 0 B3 rfl rfl rfl fun u9 k_u9 B3_ => ?_
      replace B3 : Blt u9 bk3 98 #[Value.bool b1, (⟨none, 0, 0⟩ : Slc).v, Value.int .i64 0] := B3_
      clear B3_
      refine stC_t 1 B3 rfl rfl rfl fun u10 k_u10 B3_ => ?_
      replace B3 : Blt u10 bk3 98 #[Value.bool b1, s1.v, Value.int .i64 0] := B3_
      clear B3_
      refine stC_t 2 B3 rfl rfl rfl fun u11 k_u11 B3_ => ?_
      replace B3 : Blt u11 bk3 98 #[Value.bool b1, s1.v, Value.int .i64 x1] := B3_
      clear B3_
      have kk_u9 := ((k_u9.trans k_u10).trans k_u11)
      replace B1 := kk_u9.blt B1 (by omega)
      replace B2 := kk_u9.blt B2 (by omega)
      replace B4 := kk_u9.blt B4 (by omega)
      replace B5 := kk_u9.blt B5 (by omega)
      replace A := kk_u9.ahead A g3
      replace X := X.trans kk_u9.ext
      replace Y_ := Nat.le_trans Y_ (Nat.le_of_eq kk_u9.size.symm)
      clear k_u11 k_u10 k_u9
      refine ⟨(kk_u9.bar (V := V_ 1) (by show _ ∧ _; omega)), ?_⟩
      refine stC_t 0 B4 rfl rfl rfl fun u12 k_u12 B4_ => ?_
      replace B4 : Blt u12 bk4 98 #[Value.bool b1, (⟨none, 0, 0⟩ : Slc).v, Value.int .i64 0] := B4_
      clear B4_
      refine stC_t 1 B4 rfl rfl rfl fun u13 k_u13 B4_ => ?_
      replace B4 : Blt u13 bk4 98 #[Value.bool b1, s1.v, Value.int .i64 0] := B4_
      clear B4_
      refine stC_t 2 B4 rfl rfl rfl fun u14 k_u14 B4_ => ?_
      replace B4 : Blt u14 bk4 98 #[Value.bool b1, s1.v, Value.int .i64 x1] := B4_
      clear B4_
      have kk_u12 := ((k_u12.trans k_u13).trans k_u14)
      replace B1 := kk_u12.blt B1 (by omega)
      replace B2 := kk_u12.blt B2 (by omega)
      replace B3 := kk_u12.blt B3 (by omega)
      replace B5 := kk_u12.blt B5 (by omega)
      replace A := kk_u12.ahead A g4
      replace X := X.trans kk_u12.ext
      replace Y_ := Nat.le_trans Y_ (Nat.le_of_eq kk_u12.size.symm)
      clear k_u14 k_u13 k_u12
      refine ldB_t 0 B3 rfl ?_
      refine ldS_t 1 B3 rfl ?_
      refine ldI_t 2 B3 rfl ?_
      refine ldB_t 0 B4 rfl ?_
      refine ldS_t 1 B4 rfl ?_
      refine ldI_t 2 B4 rfl ?_
      replace h := h _ X A
      exact ⟨A, h⟩
    · skip
      clear h
      have h := h_
      clear h_
      refine ldB_t 0 B2 rfl ?_
      refine ldS_t 1 B2 rfl ?_
      refine ldI_t 2 B2 rfl ?_
      replace h := h _ X A
      refine Calls.mono h ?_
      clear h
      rintro e2 w5 ⟨b2, s2, x3, x4, he_, ha_w5, h⟩
      refine ⟨b2, s2, x3, x4, he_, ?_⟩
      clear he_
      replace B1 := B1.ahead ha_w5
      replace B2 := B2.ahead ha_w5
      replace B3 := B3.ahead ha_w5
      replace B4 := B4.ahead ha_w5
      replace B5 := B5.ahead ha_w5
      replace A := A.trans ha_w5
      replace X := X.trans (Ext.of_ahead ha_w5)
      replace X : Ext w5 w5 := Ext.refl _
      refine newC_t fun bk6 u15 hb6 ha_u15 hs B6 => ?_
      have g6 : w.heap.size ≤ bk6 := by have := A.size; omega
      have l1_6 : bk1 < bk6 := by have := B1.lt; omega
      have l2_6 : bk2 < bk6 := by have := B2.lt; omega
      have l3_6 : bk3 < bk6 := by have := B3.lt; omega
      have l4_6 : bk4 < bk6 := by have := B4.lt; omega
      have l5_6 : bk5 < bk6 := by have := B5.lt; omega
      replace B1 := B1.ahead ha_u15
      replace B2 := B2.ahead ha_u15
      replace B3 := B3.ahead ha_u15
      replace B4 := B4.ahead ha_u15
      replace B5 := B5.ahead ha_u15
      replace A := A.trans ha_u15
      replace X := X.trans (Ext.of_ahead ha_u15)
      clear hs hb6
      refine stC_t 0 B6 rfl rfl rfl fun u16 k_u16 B6_ => ?_
      replace B6 : Blt u16 bk6 98 #[Value.bool b2, (⟨none, 0, 0⟩ : Slc).v, Value.int .i64 0] := B6_
      clear B6_
      refine stC_t 1 B6 rfl rfl rfl fun u17 k_u17 B6_ => ?_
      replace B6 : Blt u17 bk6 98 #[Value.bool b2, s2.v, Value.int .i64 0] := B6_
      clear B6_
      refine stC_t 2 B6 rfl rfl rfl fun u18 k_u18 B6_ => ?_
      replace B6 : Blt u18 bk6 98 #[Value.bool b2, s2.v, Value.int .i64 x3] := B6_
      clear B6_
      have kk_u16 := ((k_u16.trans k_u17).trans k_u18)
      replace B1 := kk_u16.blt B1 (by omega)
      replace B2 := kk_u16.blt B2 (by omega)
      replace B3 := kk_u16.blt B3 (by omega)
      replace B4 := kk_u16.blt B4 (by omega)
      replace B5 := kk_u16.blt B5 (by omega)
      replace A := kk_u16.ahead A g6
      replace X := X.trans kk_u16.ext
      clear k_u18 k_u17 k_u16
      have hd_ := Sp.Ahead.drew u18
      replace B1 := B1.ahead hd_
      replace B2 := B2.ahead hd_
      replace B3 := B3.ahead hd_
      replace B4 := B4.ahead hd_
      replace B5 := B5.ahead hd_
      replace B6 := B6.ahead hd_
      replace A := A.trans hd_
      replace X := X.trans (Ext.of_ahead hd_)
      clear hd_
      have z1 := B1.lt
      have z2 := B2.lt
      have z3 := B3.lt
      have z4 := B4.lt
      have z5 := B5.lt
      have z6 := B6.lt
      let V_ : Nat → Nat → Prop := fun (q_ k : Nat) => (k = bk3 ∨ k = bk4 ∨ u18.drew.heap.size ≤ k) ∧ 0 ≤ k
      refine ⟨V_, ?_⟩
      have Y_ : u18.drew.heap.size ≤ u18.drew.heap.size := Nat.le_refl _
      refine out_t (b := bk5) (i := 0) (by first | rfl | exact Sp.add_off) (fun hv_ => (by replace hv_ : _ ∧ _ := hv_; omega)) ?_
      refine ldB_t 0 B5 rfl ?_
      refine ldS_t 1 B5 rfl ?_
      refine ldI_t 2 B5 rfl ?_
      refine out_t (b := bk6) (i := 0) (by first | rfl | exact Sp.add_off) (fun hv_ => (by replace hv_ : _ ∧ _ := hv_; omega)) ?_
      refine ldB_t 0 B6 rfl ?_
      refine ldS_t 1 B6 rfl ?_
      refine ldI_t 2 B6 rfl ?_
      refine stC_t 0 B3 rfl rfl rfl fun u19 k_u19 B3_ => ?_
      replace B3 : Blt u19 bk3 98 #[Value.bool b1, (⟨none, 0, 0⟩ : Slc).v, Value.int .i64 0] := B3_
      clear B3_
      refine stC_t 1 B3 rfl rfl rfl fun u20 k_u20 B3_ => ?_
      replace B3 : Blt u20 bk3 98 #[Value.bool b1, s1.v, Value.int .i64 0] := B3_
      clear B3_
      refine stC_t 2 B3 rfl rfl rfl fun u21 k_u21 B3_ => ?_
      replace B3 : Blt u21 bk3 98 #[Value.bool b1, s1.v, Value.int .i64 x1] := B3_
      clear B3_
      have kk_u19 := ((k_u19.trans k_u20).trans k_u21)
      replace B1 := kk_u19.blt B1 (by omega)
      replace B2 := kk_u19.blt B2 (by omega)
      replace B4 := kk_u19.blt B4 (by omega)
      replace B5 := kk_u19.blt B5 (by omega)
      replace B6 := kk_u19.blt B6 (by omega)
      replace A := kk_u19.ahead A g3
      replace X := X.trans kk_u19.ext
      replace Y_ := Nat.le_trans Y_ (Nat.le_of_eq kk_u19.size.symm)
      clear k_u21 k_u20 k_u19
      refine ⟨(kk_u19.bar (V := V_ 1) (by show _ ∧ _; omega)), ?_⟩
      refine stC_t 0 B4 rfl rfl rfl fun u22 k_u22 B4_ => ?_
      replace B4 : Blt u22 bk4 98 #[Value.bool b2, (⟨none, 0, 0⟩ : Slc).v, Value.int .i64 0] := B4_
      clear B4_
      refine stC_t 1 B4 rfl rfl rfl fun u23 k_u23 B4_ => ?_
      replace B4 : Blt u23 bk4 98 #[Value.bool b2, s2.v, Value.int .i64 0] := B4_
      clear B4_
      refine stC_t 2 B4 rfl rfl rfl fun u24 k_u24 B4_ => ?_
      replace B4 : Blt u24 bk4 98 #[Value.bool b2, s2.v, Value.int .i64 x3] := B4_
      clear B4_
      have kk_u22 := ((k_u22.trans k_u23).trans k_u24)
      replace B1 := kk_u22.blt B1 (by omega)
      replace B2 := kk_u22.blt B2 (by omega)
      replace B3 := kk_u22.blt B3 (by omega)
      replace B5 := kk_u22.blt B5 (by omega)
      replace B6 := kk_u22.blt B6 (by omega)
      replace A := kk_u22.ahead A g4
      replace X := X.trans kk_u22.ext
      replace Y_ := Nat.le_trans Y_ (Nat.le_of_eq kk_u22.size.symm)
      clear k_u24 k_u23 k_u22
      refine ldB_t 0 B3 rfl ?_
      refine ldS_t 1 B3 rfl ?_
      refine ldI_t 2 B3 rfl ?_
      refine ldB_t 0 B4 rfl ?_
      refine ldS_t 1 B4 rfl ?_
      refine ldI_t 2 B4 rfl ?_
      replace h := h _ X A
      exact ⟨A, h⟩

end Go.Proofs.YthhbjhdnaopcnaaDoor
namespace Go.Proofs.YthhbjhdnaopcnaaDoor
open Go Go.RowKit Eng Sp Dg L2
set_option linter.unusedVariables false
set_option linter.unusedSimpArgs false
set_option maxRecDepth 100000
namespace Dy
open _root_.Go.Proofs.YthhbjhdnaopcnaaDoor.Nat (OwnNil Num Num.bl OwnNil.mono OwnNil.ext OwnNil.rd OwnNil.ahead OwnNil.nil digs_len_bl num_of Yes)
open _root_.Go.Proofs.YthhbjhdnaopcnaaDoor.Ref (RN RN.nil RN.ext RN.ahead len_mono bl_len32)
open Sb

theorem cmpZ_lt {a b : Int} : cmpZ a b < 0 ↔ a < b := by unfold cmpZ; split <;> (try split) <;> omega
theorem cmpZ_gt {a b : Int} : 0 < cmpZ a b ↔ b < a := by unfold cmpZ; split <;> (try split) <;> omega
theorem cmpZ_le {a b : Int} : cmpZ a b ≤ 0 ↔ a ≤ b := by unfold cmpZ; split <;> (try split) <;> omega
theorem cmpZ_ge {a b : Int} : 0 ≤ cmpZ a b ↔ b ≤ a := by unfold cmpZ; split <;> (try split) <;> omega
theorem cmpZ_eq {a b : Int} : cmpZ a b = 0 ↔ a = b := by unfold cmpZ; split <;> (try split) <;> omega

theorem ix_ld2 {P : Program} {t e : TypeId} {k : IntKind} (hT : isSl P t k = some e) {w : World} {s : Slc} {l : List Int} (h : Rd k w s l) {i : Int} (h0 : 0 ≤ i) (h1 : i < l.length) {K : Int → Prop}
    (hk : K (l.getD i.toNat 0)) : semA P (Instr.indexAt t s.v (.int .i64 i)) w fun ad w1 => w1 = w ∧ ldI k ad w K := by
  obtain ⟨ad, hA, hc⟩ := h.get i.toNat (by omega)
  unfold semA
  rw [Sem.wp_iff_run, run_indexAt hT w s i ad hA h0 (by rw [h.n]; exact h1)]
  exact ⟨_, rfl, rfl, _, hc, hk⟩
theorem lit_own (k : IntKind) (t : TypeId) (w : World) (l : List Int) : Own k t (w.alloc (.cells (ints k l).toArray t (0, 0))) ⟨some ⟨w.heap.size, 0, none⟩, l.length, l.length⟩ l w.heap.size :=
  ⟨rfl, [], by simp, by rw [get_alloc]; simp⟩
theorem all_spec {w : World} {s : Slc} {l : List Int} (h : Rd .i64 w s l) (hl : l.length ≤ 1000) :
    Calls pr surdlaw08_all_id #[s.v] w fun e w' => w' = w ∧ ∃ c : Bool, e = .returned (.bool c) ∧ (c = true ↔ ∀ x ∈ l, x = 0) := by
  have hn : s.n = l.length := h.n
  refine surdlaw08_all_vc s w _ (fun t n i w' => t = s ∧ w' = w ∧ n = (l.length : Int) ∧ ∃ j : Nat, i = (j : Int) ∧ j ≤ l.length ∧ ∀ x ∈ l.take j, x = 0) (fun _ n i _ => (n - i).toNat)
    ⟨rfl, rfl, by rw [hn], 0, rfl, Nat.zero_le _, by simp⟩ ?_
  rintro t n i w1 ⟨rfl, rfl, rfl, j, rfl, hj, hz⟩
  refine br_intro (fun hlt => ?_) (fun hge => ?_)
  · have hj' : j < l.length := by simp at hlt; omega
    refine ix_ld (e := 23) (k := .i64) (by kernel_rfl) h (by omega) (by omega) ?_
    refine Calls.mono num_spec ?_
    rintro e w2 ⟨rfl, rfl⟩
    have e8 : IntKind.i64.wrap ((j : Int) + 1) = ((j + 1 : Nat) : Int) := by rw [wrap_i64 (by omega) (by omega)]; omega
    have hmem : l.getD j 0 ∈ l := by rw [getD_lt l 0 hj']; exact List.getElem_mem hj'
    rw [Int.toNat_natCast]
    refine ⟨_, rfl, br_intro (fun hx => ?_) (fun hx => ?_)⟩
    · exact ⟨rfl, _, rfl, ⟨fun h => (by cases h), fun h => absurd (h _ hmem) (by simpa using hx)⟩⟩
    · refine ⟨⟨rfl, rfl, rfl, j + 1, e8, hj', ?_⟩, by rw [e8]; omega⟩
      rw [List.take_succ_eq_append_getElem hj']
      intro x hxm
      rcases List.mem_append.1 hxm with h1 | h1
      · exact hz x h1
      · have : x = l[j] := by simpa using h1
        rw [this, ← getD_lt l 0 hj']
        simpa using hx
  · have hj' : j = l.length := by simp at hge; omega
    subst hj'
    rw [List.take_length] at hz
    exact ⟨rfl, _, rfl, ⟨fun _ => hz, fun _ => rfl⟩⟩
/-- Numbers laid in a list, and asked whether all are nought. -/
theorem all_lit {w : World} (l : List Int) (hl : l.length ≤ 1000) {cs : Array Value} {n : Nat} (hcs : cs = (ints .i64 l).toArray) (hn : n = l.length) {K : Bool → World → Prop} (h0 : (¬ ∀ x ∈ l, x = 0) → ∀ w', Ahead w w' → K false w') (h1 : (∀ x ∈ l, x = 0) → ∀ w', Ahead w w' → K true w') :
    newC w cs 23 fun ad w1 => Calls pr surdlaw08_all_id #[(⟨some ad, n, n⟩ : Slc).v] w1 fun e w2 => ∃ b : Bool, e = .returned (.bool b) ∧ Ahead w1 w2 ∧ K b w2 := by
  subst hcs hn
  show Calls pr surdlaw08_all_id #[(⟨some ⟨w.heap.size, 0, none⟩, l.length, l.length⟩ : Slc).v] _ _
  refine Calls.mono (all_spec (lit_own .i64 23 w l).rd hl) ?_
  rintro e w2 ⟨rfl, c, rfl, hc⟩
  refine ⟨c, rfl, Ahead.refl _, ?_⟩
  cases c
  · exact h0 (fun h => by have := hc.2 h; cases this) _ (Ahead.alloc _ _)
  · exact h1 (hc.1 rfl) _ (Ahead.alloc _ _)

def twC (e e' : Int) : Int := if wi e then if wi e' then 0 else 80 else 80
theorem twC_zero {e e' : Int} (h : twC e e' = 0) : wi e ∧ wi e' := by
  unfold twC at h
  split at h
  · split at h
    · exact ⟨by assumption, by assumption⟩
    · omega
  · omega
theorem twC_ok {e e' : Int} (h : wi e) (h' : wi e') : twC e e' = 0 := by rw [twC, if_pos h, if_pos h']
theorem two_spec {w : World} {neg neg' : Bool} {s s' : Slc} {x x' : Nat} {e e' : Int} (hT : Tab w) (h : Num w s x) (h' : Num w s' x') :
    Calls pr dyadic_two_id #[.agg (c3 neg s e), .agg (c3 neg' s' e')] w fun en w' => Ahead w w' ∧ ∃ b1 s1 x1 b2 s2 x2, en = .returned (.tuple #[.agg (c3 b1 s1 x1), .agg (c3 b2 s2 x2), .int .i64 (twC e e')]) ∧
      (twC e e' = 0 → b1 = nD neg x ∧ x1 = eD x e ∧ b2 = nD neg' x' ∧ x2 = eD x' e' ∧ OwnNil w.heap.size w' s1 (digs B64 (od x)) ∧ OwnNil w.heap.size w' s2 (digs B64 (od x'))) := by
  refine dyadic_two_v2 neg s e neg' s' e' w _ fun w1 X1 a1 => Calls.mono (read_spec (hT.ahead a1) (h.ahead a1)) ?_
  rintro en w2 ⟨h2, s1, rfl, o1⟩
  have a2 := a1.trans h2
  refine ⟨_, _, _, _, rfl, h2, br_intro (fun hw => ?_) (fun hw => ?_)⟩
  · have hw' : ¬ wi e := fun h => by rw [if_pos h] at hw; simp at hw
    have hc : twC e e' = 80 := if_neg hw'
    intro w3 X3 a3
    rw [hc, if_neg hw', if_neg hw', if_neg hw']
    exact ⟨_, _, _, _, _, _, rfl, fun h => by omega⟩
  · have hw' : wi e := by
      by_cases h : wi e
      · exact h
      · rw [if_neg h] at hw; simp at hw
    rw [if_pos hw'] at o1
    rw [if_pos hw', if_pos hw']
    intro w4 X4 a4
    refine Calls.mono (read_spec (hT.ahead a4) (h'.ahead a4)) ?_
    rintro en w5 ⟨h5, s2, rfl, o2⟩
    refine ⟨_, _, _, _, rfl, h5, fun w6 X6 a6 => ?_⟩
    have hc : twC e e' = if wi e' then 0 else 80 := if_pos hw'
    rw [hc]
    refine ⟨_, _, _, _, _, _, rfl, fun h0 => ?_⟩
    have hw2 : wi e' := by
      by_cases h : wi e'
      · exact h
      · rw [if_neg h] at h0; omega
    rw [if_pos hw2] at o2
    rw [if_pos hw2, if_pos hw2]
    exact ⟨rfl, rfl, rfl, rfl, (((o1.ext X4).ahead h5).ext X6).mono a1.size, (o2.ext X6).mono a4.size⟩
theorem far_eD {w : World} {s : Slc} {x : Nat} {e : Int} (h : Num w s x) (he : wi e) : far (eD x e) := by
  have := eD_far h he
  unfold far; omega
theorem Compare_spec {w : World} {neg neg' : Bool} {s s' : Slc} {x x' : Nat} {e e' : Int} (hT : Tab w) (h : Num w s x) (h' : Num w s' x') (hl : (digs B64 x).length + 2 ≤ 2 ^ 44) (hl' : (digs B64 x').length + 2 ≤ 2 ^ 44) :
    Calls pr dyadic_Compare_id #[.agg (c3 neg s e), .agg (c3 neg' s' e')] w fun en w' => Ahead w w' ∧ en = .returned (.tuple #[.int .i64 (if twC e e' = 0 then dcmp (sg (nD neg x) (od x)) (eD x e) (sg (nD neg' x') (od x')) (eD x' e') else 0), .int .i64 (twC e e')]) := by
  refine dyadic_Compare_v2 neg s e neg' s' e' w _ fun w1 X1 a1 => Calls.mono (two_spec (hT.ahead a1) (h.ahead a1) (h'.ahead a1)) ?_
  rintro en w2 ⟨h2, b1, s1, x1, b2, s2, x2, rfl, hh⟩
  refine ⟨_, _, _, _, _, _, _, rfl, h2, br_intro (fun hc => ?_) (fun hc => ?_)⟩
  · have hc' : twC e e' ≠ 0 := by simpa using hc
    rw [if_neg hc']
    exact fun w3 X3 a3 => rfl
  · have hc' : twC e e' = 0 := by simpa using hc
    obtain ⟨rfl, rfl, rfl, rfl, o1, o2⟩ := hh hc'
    obtain ⟨hw, hw'⟩ := twC_zero hc'
    rw [if_pos hc', hc']
    intro w4 X4 a4
    have l1 := len_mono two64 (od_le x)
    have l2 := len_mono two64 (od_le x')
    refine Calls.mono (compare_spec (o1.ext X4).rd (o2.ext X4).rd (by omega) (by omega) (far_eD h hw) (far_eD h' hw')) ?_
    rintro en w5 ⟨h5, rfl⟩
    exact ⟨_, rfl, h5, rfl⟩

theorem tC_eq {X X' : Nat} {E E' : Int} (h : od X = od X') (h' : eD X E = eD X' E') : tC X E = tC X' E' := by unfold tC; rw [h, h']
theorem rdC_zero {neg : Bool} {x : Nat} {e pos m : Int} (h : rdC neg x e pos m = 0) : wi e ∧ okM m ∧ tC (rX (nD neg x) (od x) (eD x e) pos m) (rE (od x) (eD x e) pos) = 0 := by
  unfold rdC at h
  split at h
  · split at h
    · split at h
      · exact ⟨by assumption, by assumption, h⟩
      · omega
    · omega
  · omega
theorem rdC_ok {neg : Bool} {x : Nat} {e pos m : Int} (h : wi e) (hp : wi pos) (hm : okM m) : rdC neg x e pos m = tC (rX (nD neg x) (od x) (eD x e) pos m) (rE (od x) (eD x e) pos) := by
  rw [rdC, if_pos h, if_pos hp, if_pos hm]
theorem pow_sub {p q b : Int} (h : b ≤ p) (hq : p ≤ q) : 2 ^ (q - b).toNat = 2 ^ (q - p).toNat * 2 ^ (p - b).toNat := by
  rw [← Nat.pow_add]; congr 1; omega
/-- Rounding twice is rounding once. -/
theorem twice {neg : Bool} {n : Nat} {e p q m : Int} (h : NF neg n e) (hm : m = 0 ∨ m = 1) (hq : p ≤ q) :
    nD (nD neg (rX neg n e p m)) (rX (nD neg (rX neg n e p m)) (od (rX neg n e p m)) (eD (rX neg n e p m) (rE n e p)) q m) = nD neg (rX neg n e q m) ∧
    od (rX (nD neg (rX neg n e p m)) (od (rX neg n e p m)) (eD (rX neg n e p m) (rE n e p)) q m) = od (rX neg n e q m) ∧
    eD (rX (nD neg (rX neg n e p m)) (od (rX neg n e p m)) (eD (rX neg n e p m) (rE n e p)) q m) (rE (od (rX neg n e p m)) (eD (rX neg n e p m) (rE n e p)) q) = eD (rX neg n e q m) (rE n e q) := by
  have hm' : okM m := by unfold okM; omega
  obtain ⟨b, hb⟩ : ∃ b : Int, b ≤ e ∧ b ≤ p ∧ b ≤ 0 := ⟨min e (min p 0), by omega⟩
  have r1 := rX_dv h hm' hb.1 hb.2.1
  have r2 := rX_dv (pos := q) h hm' hb.1 (by omega)
  have g1 := rE_ge (n := n) hb.1 hb.2.1
  have g2 := rE_ge (n := n) (pos := q) hb.1 (by omega)
  generalize rX neg n e p m = X1 at *
  generalize rE n e p = E1 at *
  generalize rX neg n e q m = X2 at *
  generalize rE n e q = E2 at *
  have h1 := NF.of neg X1 E1
  have gE : ∀ X E, b ≤ E → b ≤ eD X E := fun X E h => by unfold eD; split <;> omega
  have r3 := rX_dv (pos := q) h1 hm' (gE _ _ g1) (by omega)
  have g3 := rE_ge (n := od X1) (pos := q) (gE X1 _ g1) (by omega)
  rw [dv_od g1, r1, pow_sub hb.2.1 hq, rdm_scale (two_pos _), rdm_twice (two_pos _) (two_pos _) hm, Nat.mul_comm (2 ^ (p - b).toNat), ← pow_sub hb.2.1 hq] at r3
  generalize rX (nD neg X1) (od X1) (eD X1 E1) q m = X3 at *
  generalize rE (od X1) (eD X1 E1) q = E3 at *
  exact (NF.of (nD neg X1) X3 E3).eq (NF.of neg X2 E2) (gE _ _ g3) (gE _ _ g2) (by rw [dv_od g3, dv_od g2, r3, r2])
/-- Rounding keeps the order. -/
theorem keeps {neg neg' : Bool} {n n' : Nat} {e e' p m : Int} (h : NF neg n e) (h' : NF neg' n' e') (hm : okM m) :
    (dcmp (sg neg n) e (sg neg' n') e' < 0 → dcmp (sg (nD neg (rX neg n e p m)) (od (rX neg n e p m))) (eD (rX neg n e p m) (rE n e p)) (sg (nD neg' (rX neg' n' e' p m)) (od (rX neg' n' e' p m))) (eD (rX neg' n' e' p m) (rE n' e' p)) ≤ 0) ∧
    (0 < dcmp (sg neg n) e (sg neg' n') e' → 0 ≤ dcmp (sg (nD neg (rX neg n e p m)) (od (rX neg n e p m))) (eD (rX neg n e p m) (rE n e p)) (sg (nD neg' (rX neg' n' e' p m)) (od (rX neg' n' e' p m))) (eD (rX neg' n' e' p m) (rE n' e' p))) ∧
    (dcmp (sg neg n) e (sg neg' n') e' = 0 → dcmp (sg (nD neg (rX neg n e p m)) (od (rX neg n e p m))) (eD (rX neg n e p m) (rE n e p)) (sg (nD neg' (rX neg' n' e' p m)) (od (rX neg' n' e' p m))) (eD (rX neg' n' e' p m) (rE n' e' p)) = 0) := by
  obtain ⟨b, hb⟩ : ∃ b : Int, b ≤ e ∧ b ≤ p ∧ b ≤ 0 ∧ b ≤ e' := ⟨min (min e e') (min p 0), by omega⟩
  have r1 := rX_dv h hm hb.1 hb.2.1
  have r2 := rX_dv h' hm hb.2.2.2 hb.2.1
  have g1 := rE_ge (n := n) hb.1 hb.2.1
  have g2 := rE_ge (n := n') hb.2.2.2 hb.2.1
  have gE : ∀ X E, b ≤ E → b ≤ eD X E := fun X E h => by unfold eD; split <;> omega
  rw [dcmp_dv hb.1 hb.2.2.2, dcmp_dv (gE _ _ g1) (gE _ _ g2), dv_od g1, dv_od g2, r1, r2, cmpZ_mul (two_pos _)]
  generalize dv (sg neg n) e b = v
  generalize dv (sg neg' n') e' b = v'
  have m1 := rdm_mono (m := m) (v := v) (v' := v') (two_pos (p - b).toNat) hm
  have m2 := rdm_mono (m := m) (v := v') (v' := v) (two_pos (p - b).toNat) hm
  have m3 : v = v' → rdm m v (2 ^ (p - b).toNat) = rdm m v' (2 ^ (p - b).toNat) := fun h => by rw [h]
  generalize rdm m v (2 ^ (p - b).toNat) = u at *
  generalize rdm m v' (2 ^ (p - b).toNat) = u' at *
  exact ⟨fun h => cmpZ_le.2 (m1 (by have := cmpZ_lt.1 h; omega)), fun h => cmpZ_ge.2 (m2 (by have := cmpZ_gt.1 h; omega)), fun h => cmpZ_eq.2 (m3 (cmpZ_eq.1 h))⟩
theorem tri {c d : Int} (h : (c < 0 → d ≤ 0) ∧ (0 < c → 0 ≤ d) ∧ (c = 0 → d = 0)) {P J : Prop} (hj : J) :
    br (decide (c < 0)) (br (decide (d > 0)) P (br (decide (c > 0)) (br (decide (d < 0)) P (br (c == 0) (br (d != 0) P J) J)) (br (c == 0) (br (d != 0) P J) J))) (br (decide (c > 0)) (br (decide (d < 0)) P (br (c == 0) (br (d != 0) P J) J)) (br (c == 0) (br (d != 0) P J) J)) := by
  have T : br (c == 0) (br (d != 0) P J) J := by
    refine br_intro (fun h1 => br_intro (fun h2 => ?_) (fun _ => hj)) (fun _ => hj)
    have h1' : c = 0 := by simpa using h1
    have h2' : d ≠ 0 := by simpa using h2
    exact absurd (h.2.2 h1') h2'
  have M : br (decide (c > 0)) (br (decide (d < 0)) P (br (c == 0) (br (d != 0) P J) J)) (br (c == 0) (br (d != 0) P J) J) := by
    refine br_intro (fun h1 => br_intro (fun h2 => ?_) (fun _ => T)) (fun _ => T)
    have h1' : 0 < c := of_decide_eq_true h1
    have h2' : d < 0 := of_decide_eq_true h2
    have := h.2.1 h1'
    omega
  refine br_intro (fun h1 => br_intro (fun h2 => ?_) (fun _ => M)) (fun _ => M)
  have h1' : c < 0 := of_decide_eq_true h1
  have h2' : 0 < d := of_decide_eq_true h2
  have := h.1 h1'
  omega
/-- What a rounding that was taken leaves. -/
theorem taken {base : Nat} {w : World} {s : Slc} {X : Nat} (o : OwnNil base w s (digs B64 (od X))) (h : bl (od X) ≤ 67108864) : Num w s (od X) ∧ (digs B64 (od X)).length ≤ 2 ^ 20 := by
  have := digs_len_bl (N := od X) (m := 2 ^ 20) (by omega)
  exact ⟨⟨_, o.rd, by omega, ok_digs two64 _, val_digs two64 _⟩, this⟩

set_option maxHeartbeats 4000000 in
theorem DyadicTwice_ok {w : World} (hT : Tab w) {n0 : Bool} {s0 : Slc} {e0 : Int} {l0 : List Nat} (r0 : Rd .u64 w s0 (nn l0)) (o0 : ok B64 l0) (z0 : l0.length * 8 ≤ 140737488351232) (he0 : -9223372036854775808 ≤ e0 ∧ e0 ≤ 9223372036854775807)
    {n1 : Bool} {s1 : Slc} {e1 : Int} {l1 : List Nat} (r1 : Rd .u64 w s1 (nn l1)) (o1 : ok B64 l1) (z1 : l1.length * 8 ≤ 140737488351232) (he1 : -9223372036854775808 ≤ e1 ∧ e1 ≤ 9223372036854775807)
    {x1 x2 : Int} (hx1 : -9223372036854775808 ≤ x1 ∧ x1 ≤ 9223372036854775807) (hx2 : -9223372036854775808 ≤ x2 ∧ x2 ≤ 9223372036854775807) :
    Calls pr surdlaw08_DyadicTwice_id #[.agg (c3 n0 s0 e0), .agg (c3 n1 s1 e1), .agg #[.int .i64 x1, .int .i64 x2]] w (Yes w) := by
  have hl0 := Nat.len_le o0
  have hl1 := Nat.len_le o1
  have N0 : Num w s0 (val B64 l0) := num_of r0 o0 z0
  have N1 : Num w s1 (val B64 l1) := num_of r1 o1 z1
  generalize val B64 l0 = X at *
  generalize val B64 l1 = Y at *
  have aw : ∀ w3 : World, Ahead w w3 → Calls pr surdlaw08_awake_id #[] w3 fun e1 w4 => ∃ b1 : Bool, e1 = .returned (Value.bool b1) ∧ Ahead w3 w4 ∧ (Ending.returned (Value.bool b1) = .returned (.bool true)) := by
    intro w3 a3
    refine Calls.mono (awake_spec (hT.ahead a3)) ?_
    rintro e w4 ⟨rfl, h4⟩
    exact ⟨_, rfl, h4, rfl⟩
  refine Calls.mono (surdlaw08_DyadicTwice_v2 n0 s0 e0 n1 s1 e1 x1 x2 w (fun e _ => e = .returned (.bool true))
    (fun t7 t8 t50 t51 t52 b0 c0 d0 b1 c1 d1 w' => x1 = t7 ∧ x2 = t8 ∧ n0 = b0 ∧ s0 = c0 ∧ e0 = d0 ∧ n1 = b1 ∧ s1 = c1 ∧ e1 = d1 ∧ wi x1 ∧ wi (x1 + x2) ∧ 0 ≤ x2 ∧ t51 = 2 ∧ ∃ (j b : Nat), t52 = (j : Int) ∧ j ≤ 2 ∧ Own .i64 63 w' t50 [0, 1] b)
    (fun _ _ _ _ t52 _ => (2 - t52).toNat)
    (fun t7 t100 t101 t102 b0 c0 d0 b1 c1 d1 w' => x1 = t7 ∧ n0 = b0 ∧ s0 = c0 ∧ e0 = d0 ∧ n1 = b1 ∧ s1 = c1 ∧ e1 = d1 ∧ wi x1 ∧ t101 = 3 ∧ ∃ (j b : Nat), t102 = (j : Int) ∧ j ≤ 3 ∧ Own .i64 63 w' t100 [0, 1, 2] b)
    (fun _ _ _ t102 _ => (3 - t102).toNat) ?_ ?_ ?_) fun e w' ⟨h1, h2⟩ => ⟨h2, h1⟩
  · refine br_intro (fun hn => fun w2 X2 a2 => aw w2 a2) (fun hn => br_intro (fun hg => fun w4 X4 a4 => aw w4 a4) (fun hg => fun w6 X6 a6 => ?_))
    have hn' := of_decide_eq_false hn
    have hg' := of_decide_eq_false hg
    refine Calls.mono fit_spec ?_
    rintro en w7 ⟨rfl, rfl⟩
    refine ⟨_, rfl, Ahead.refl _, br_intro (fun hp => aw _ a6) (fun hp => ?_)⟩
    have hp' : wi x1 := by simpa using hp
    have hwr : IntKind.i64.wrap (x1 + x2) = x1 + x2 := wrap_i64 (by unfold wi at hp'; omega) (by unfold wi at hp'; omega)
    rw [hwr]
    refine Calls.mono fit_spec ?_
    rintro en w9 ⟨rfl, rfl⟩
    refine ⟨_, rfl, Ahead.refl _, br_intro (fun hq => aw _ a6) (fun hq => ?_)⟩
    have hq' : wi (x1 + x2) := by simpa using hq
    exact ⟨rfl, rfl, rfl, rfl, rfl, rfl, rfl, rfl, hp', hq', by omega, rfl, 0, _, rfl, by omega, lit_own .i64 63 _ [0, 1]⟩
  · rintro t7 t8 t50 t51 t52 _ _ _ _ _ _ w1 a1 ⟨rfl, rfl, rfl, rfl, rfl, rfl, rfl, rfl, hp, hq, hq0, rfl, j, bk, rfl, hj, hM⟩
    refine br_intro (fun hlt => ?_) (fun hge => ?_)
    · have hj' : j < 2 := by have := of_decide_eq_true hlt; omega
      refine ix_ld2 (e := 63) (k := .i64) (by kernel_rfl) hM.rd (by omega) (by simp; omega) ?_
      have em : ([0, 1] : List Int).getD ((j : Int)).toNat 0 = j := by
        have : j = 0 ∨ j = 1 := by omega
        rcases this with rfl | rfl <;> rfl
      rw [em]
      have hm : (j : Int) = 0 ∨ (j : Int) = 1 := by omega
      have hmo : okM (j : Int) := by unfold okM; omega
      generalize hmm : (j : Int) = m at hm hmo ⊢
      refine Calls.mono in_spec ?_
      rintro en w2 ⟨h2, rfl⟩
      have a2 := a1.trans h2
      refine ⟨_, _, _, rfl, h2, Calls.mono (Round_spec (hT.ahead a2) (N0.ahead a2) (by omega)) ?_⟩
      rintro en w3 ⟨h3, sp, rfl, op⟩
      refine ⟨_, _, _, _, rfl, h3, fun w4 X4 a4 => Calls.mono in_spec ?_⟩
      rintro en w5 ⟨h5, rfl⟩
      have a5 := a4.trans h5
      have hwr : IntKind.i64.wrap (x1 + x2) = x1 + x2 := wrap_i64 (by unfold wi at hq; omega) (by unfold wi at hq; omega)
      rw [hwr]
      refine ⟨_, _, _, rfl, h5, Calls.mono (Round_spec (hT.ahead a5) (N0.ahead a5) (by omega)) ?_⟩
      rintro en w6 ⟨h6, sq, rfl, oq⟩
      refine ⟨_, _, _, _, rfl, h6, fun w7 X7 a7 => ?_⟩
      have XX := (X4.trans h5.ext).trans (h6.ext.trans X7)
      have op7 := op.ext XX
      have oq7 := oq.ext X7
      have hM7 : Own .i64 63 w7 t50 [0, 1] bk := ((hM.ahead h2).ahead h3).ext XX
      refine all_lit [rdC n0 X e0 x1 m, rdC n0 X e0 (x1 + x2) m] (by simp) rfl rfl (fun hno w8 h8 => br_true rfl (aw w8 (a7.trans h8))) (fun hyes w8 h8 => br_false rfl ?_)
      have c1 : rdC n0 X e0 x1 m = 0 := hyes _ (by simp)
      have c2 : rdC n0 X e0 (x1 + x2) m = 0 := hyes _ (by simp)
      obtain ⟨hw0, _, t1⟩ := rdC_zero c1
      obtain ⟨_, _, t2⟩ := rdC_zero c2
      obtain ⟨b1, f1⟩ := tC_zero t1
      obtain ⟨b2, f2⟩ := tC_zero t2
      rw [if_pos c1] at op7
      rw [if_pos c2] at oq7
      simp only [if_pos c1, if_pos c2]
      obtain ⟨q1, q2, q3⟩ := twice (p := x1) (q := x1 + x2) (NF.of n0 X e0) hm (by omega)
      have tk := taken op7 b1
      have rs := Round_spec (neg := nD (nD n0 X) (rX (nD n0 X) (od X) (eD X e0) x1 m)) (e := eD (rX (nD n0 X) (od X) (eD X e0) x1 m) (rE (od X) (eD X e0) x1)) (pos := x1 + x2) (m := m) (hT.ahead (a7.trans h8)) (tk.1.ahead h8) (by omega)
      have c3' : rdC (nD (nD n0 X) (rX (nD n0 X) (od X) (eD X e0) x1 m)) (od (rX (nD n0 X) (od X) (eD X e0) x1 m)) (eD (rX (nD n0 X) (od X) (eD X e0) x1 m) (rE (od X) (eD X e0) x1)) (x1 + x2) m = 0 := by
        rw [rdC_ok f1 hq hmo, nD_od, od_od, eD_od, tC_eq q2 q3, t2]
      rw [c3', nD_od, od_od, eD_od] at rs
      unfold DOut at rs
      rw [if_pos rfl, if_pos rfl, if_pos rfl, q1, q2, q3] at rs
      have tq := taken oq7 b2
      refine Calls.mono rs ?_
      rintro en w9 ⟨h9, s9, rfl, o9⟩
      refine ⟨_, _, _, _, rfl, h9, fun w10 X10 a10 => ?_⟩
      refine all_lit [0] (by simp) rfl rfl (fun hno => absurd (by simp) hno) (fun _ w11 h11 => br_false rfl ?_)
      have X711 := (h8.trans h9).ext.trans (X10.trans h11.ext)
      refine Calls.mono (same_spec (oq7.ext X711).rd ((o9.ext X10).ahead h11).rd (by omega) (nD_od _ _)) ?_
      rintro en w12 ⟨h12, rfl⟩
      refine ⟨_, rfl, h12, br_false rfl ⟨⟨by trivial, by trivial, by trivial, by trivial, by trivial, by trivial, by trivial, by trivial, hp, hq, hq0, by trivial, j + 1, bk, ?_, by omega, (hM7.ext X711).ahead h12⟩, ?_⟩⟩
      · rw [← hmm, wrap_i64 (by omega) (by omega)]; rfl
      · rw [← hmm, wrap_i64 (by omega) (by omega)]; omega
    · exact ⟨rfl, rfl, rfl, rfl, rfl, rfl, rfl, hp, rfl, 0, _, rfl, by omega, lit_own .i64 63 _ [0, 1, 2]⟩
  · rintro t7 t100 t101 t102 _ _ _ _ _ _ w1 a1 ⟨rfl, rfl, rfl, rfl, rfl, rfl, rfl, hp, rfl, j, bk, rfl, hj, hM⟩
    refine br_intro (fun hlt => ?_) (fun hge => aw _ a1)
    have hj' : j < 3 := by have := of_decide_eq_true hlt; omega
    refine ix_ld2 (e := 63) (k := .i64) (by kernel_rfl) hM.rd (by omega) (by simp; omega) ?_
    have em : ([0, 1, 2] : List Int).getD ((j : Int)).toNat 0 = j := by
      have : j = 0 ∨ j = 1 ∨ j = 2 := by omega
      rcases this with rfl | rfl | rfl <;> rfl
    rw [em]
    have hmo : okM (j : Int) := by unfold okM; omega
    generalize hmm : (j : Int) = m at hmo ⊢
    refine Calls.mono in_spec ?_
    rintro en w2 ⟨h2, rfl⟩
    have a2 := a1.trans h2
    refine ⟨_, _, _, rfl, h2, Calls.mono (Round_spec (hT.ahead a2) (N0.ahead a2) (by omega)) ?_⟩
    rintro en w3 ⟨h3, sp, rfl, op⟩
    refine ⟨_, _, _, _, rfl, h3, fun w4 X4 a4 => Calls.mono in_spec ?_⟩
    rintro en w5 ⟨h5, rfl⟩
    have a5 := a4.trans h5
    refine ⟨_, _, _, rfl, h5, Calls.mono (Round_spec (hT.ahead a5) (N1.ahead a5) (by omega)) ?_⟩
    rintro en w6 ⟨h6, sq, rfl, oq⟩
    refine ⟨_, _, _, _, rfl, h6, fun w7 X7 a7 => Calls.mono in_spec ?_⟩
    rintro en w8 ⟨h8, rfl⟩
    have a8 := a7.trans h8
    refine ⟨_, _, _, rfl, h8, Calls.mono in_spec ?_⟩
    rintro en w9 ⟨h9, rfl⟩
    have a9 := a8.trans h9
    refine ⟨_, _, _, rfl, h9, Calls.mono (Compare_spec (hT.ahead a9) (N0.ahead a9) (N1.ahead a9) (by omega) (by omega)) ?_⟩
    rintro en w10 ⟨h10, rfl⟩
    have a10 := a9.trans h10
    have X710 := (h8.trans h9).trans h10
    have XX := (X4.trans h5.ext).trans (h6.ext.trans (X7.trans X710.ext))
    have op10 := op.ext XX
    have oq10 := oq.ext (X7.trans X710.ext)
    have hM10 : Own .i64 63 w10 t100 [0, 1, 2] bk := ((hM.ahead h2).ahead h3).ext XX
    refine ⟨_, _, rfl, h10, all_lit [rdC n0 X e0 x1 m, rdC n1 Y e1 x1 m, twC e0 e1] (by simp) rfl rfl (fun hno w11 h11 => br_true rfl (aw w11 (a10.trans h11))) (fun hyes w11 h11 => br_false rfl ?_)⟩
    have c1 : rdC n0 X e0 x1 m = 0 := hyes _ (by simp)
    have c2 : rdC n1 Y e1 x1 m = 0 := hyes _ (by simp)
    have c3' : twC e0 e1 = 0 := hyes _ (by simp)
    obtain ⟨hw0, _, t1⟩ := rdC_zero c1
    obtain ⟨_, _, t2⟩ := rdC_zero c2
    obtain ⟨b1, f1⟩ := tC_zero t1
    obtain ⟨b2, f2⟩ := tC_zero t2
    rw [if_pos c1] at op10
    rw [if_pos c2] at oq10
    simp only [if_pos c1, if_pos c2, if_pos c3']
    have tp := taken op10 b1
    have tq := taken oq10 b2
    have kp := keeps (p := x1) (NF.of n0 X e0) (NF.of n1 Y e1) hmo
    have cs := Compare_spec (neg := nD (nD n0 X) (rX (nD n0 X) (od X) (eD X e0) x1 m)) (e := eD (rX (nD n0 X) (od X) (eD X e0) x1 m) (rE (od X) (eD X e0) x1)) (neg' := nD (nD n1 Y) (rX (nD n1 Y) (od Y) (eD Y e1) x1 m)) (e' := eD (rX (nD n1 Y) (od Y) (eD Y e1) x1 m) (rE (od Y) (eD Y e1) x1)) (hT.ahead (a10.trans h11)) (tp.1.ahead h11) (tq.1.ahead h11) (by omega) (by omega)
    rw [twC_ok f1 f2, if_pos rfl, nD_od, nD_od, od_od, od_od, eD_od, eD_od] at cs
    refine Calls.mono cs ?_
    rintro en w12 ⟨h12, rfl⟩
    refine ⟨_, _, rfl, h12, all_lit [0] (by simp) rfl rfl (fun hno => absurd (by simp) hno) (fun _ w13 h13 => br_false rfl ?_)⟩
    refine tri kp ⟨⟨by trivial, by trivial, by trivial, by trivial, by trivial, by trivial, by trivial, hp, by trivial, j + 1, bk, ?_, by omega, ((hM10.ahead h11).ahead h12).ahead h13⟩, ?_⟩
    · rw [← hmm, wrap_i64 (by omega) (by omega)]; rfl
    · rw [← hmm, wrap_i64 (by omega) (by omega)]; omega

end Dy
end Go.Proofs.YthhbjhdnaopcnaaDoor
