/- What the law leans on, part 5. No condition. -/
import Derived.Test.YtbeiopoejdkheaaGreatDoorZWholeRounds4
namespace Go.Proofs.YtbeiopoejdkheaaGreatDoor
open Go Go.RowKit Eng Sp Dg Kd L2
set_option linter.unusedVariables false
set_option linter.unusedSimpArgs false
set_option maxRecDepth 100000
namespace Ro
open _root_.Go.Proofs.YtbeiopoejdkheaaGreatDoor.Nat (ldN ldNf stF stFf mkF Fill Fill.rd Fill.base Fill.src Fill.ahead Fill.own OwnNil OwnNil.rd OwnNil.ahead OwnNil.mono OwnNil.nil OwnNil.ext Num Num.ahead Num.bl num_of Norm_spec From_spec len_num own_num Ret Ret.num add_num cmp_num bigC bigC_ok digs_len_bl)
open _root_.Go.Proofs.YtbeiopoejdkheaaGreatDoor.Ref (len_mono)
open _root_.Go.Proofs.YtbeiopoejdkheaaGreatDoor.Dq (Quo_spec quoC)
open Dy Sb

theorem copy_rowS {w : World} {x : Slc} {l : List Nat} {t ty : TypeId} (hx : Rd .u64 w x (nn l)) (h0 : 0 < l.length) (hl : l.length ≤ 2 ^ 44) {K : Slc → World → Prop} {S : World → Prop} (hS : S w)
    (hk : ∀ s' w', Fill w w' s' l S → K s' w') (hT : isSl pr t .u64 = some tU64 := by kernel_rfl) :
    semS pr (Builtin.append_ #[t, t] ty #[Slc.v ⟨none, 0, 0⟩, x.v]) w fun s' w' => K s' w' := by
  refine app (base := w.heap.size) (l := []) (ys := nn l) hT hx (by rw [nn_length]; exact h0) (.inl ⟨rfl, rfl⟩) (Nat.le_refl _) (by rw [nn_length]; simp; omega) ?_
  intro s' w' b' hb' hc' ho hbel _
  exact hk s' w' ⟨b', w, by simpa using ho, hc', hb', hbel, hbel, hb', hS⟩

theorem minus_spec {w : World} {a b : Slc} {x y : Nat} (ra : Rd .u64 w a (nn (digs B64 x))) (rb : Rd .u64 w b (nn (digs B64 y))) (hl : (digs B64 x).length ≤ 2 ^ 44) (hle : y ≤ x) :
    Calls pr rounded_minus_id #[a.v, b.v] w fun e w' => Ahead w w' ∧ ∃ s, e = .returned (Slc.v s) ∧ OwnNil w.heap.size w' s (digs B64 (x - y)) := by
  have hB := B64v
  have vx := val_digs two64 x
  have vy := val_digs two64 y
  have ox := ok_digs two64 x
  have oy := ok_digs two64 y
  have hlen := len_mono two64 hle
  have hna : a.n = (digs B64 x).length := by rw [ra.n, nn_length]
  have hnb : b.n = (digs B64 y).length := by rw [rb.n, nn_length]
  have hz : (digs B64 x).length = 0 → x = 0 := fun h => by
    rcases Nat.eq_zero_or_pos x with h0 | h0
    · exact h0
    · have := List.length_pos_iff.2 (digs_ne_nil two64 (show x ≠ 0 by omega)); omega
  generalize digs B64 x = A at *
  generalize digs B64 y = C at *
  refine rounded_minus_vc a b w _ (fun t1 t5 t6 t13 t14 w' => t1 = b ∧ t13 = (A.length : Int) ∧ ((A.length = 0 ∧ t5 = ⟨none, 0, 0⟩ ∧ t14 = 0 ∧ w' = w) ∨ ∃ (l : List Nat) (i bo : Nat), t6 = (bo : Int) ∧ bo ≤ 1 ∧ t14 = (i : Int) ∧ i ≤ A.length ∧
    Fill w w' t5 l (fun w' => Rd .u64 w' b (nn C)) ∧ l.length = A.length ∧ ok B64 l ∧ val B64 (A.take i) + bo * B64 ^ i = val B64 (l.take i) + val B64 (C.take i) ∧ ∀ k, i ≤ k → l.getD k 0 = A.getD k 0)) (fun _ _ _ n i _ => (n - i).toNat) ?_ ?_
  · rcases Nat.eq_zero_or_pos A.length with h0 | h0
    · refine app0 (e := tU64) (k := .u64) (by kernel_rfl) (by omega) ?_
      exact ⟨rfl, by simp [h0], .inl ⟨h0, rfl, rfl, rfl⟩⟩
    · refine copy_rowS (S := fun w' => Rd .u64 w' b (nn C)) ra h0 hl rb fun s' w' hf => ?_
      exact ⟨rfl, by rw [hf.rd.n, nn_length], .inr ⟨A, 0, 0, rfl, by omega, rfl, Nat.zero_le _, hf, rfl, ox, by simp [val], fun _ _ => rfl⟩⟩
  · rintro t1 c t6 t13 t14 w1 ⟨rfl, rfl, ⟨h0, rfl, rfl, rfl⟩ | ⟨l, i, bo, rfl, hbo, rfl, hi, hf, hll, okl, hv, hr⟩⟩
    · refine br_false (by rw [h0]; rfl) ?_
      have hx := hz h0
      refine Calls.mono (Norm_spec (l := []) Rd.nil (by simp) ok_nil) ?_
      rintro e w3 ⟨h3, s, rfl, os⟩
      refine ⟨_, rfl, h3, _, rfl, ?_⟩
      rw [show x - y = 0 by omega]
      exact os
    · have hS := hf.src (fun _ h hs => Rd.ahead hs h)
      refine br_intro (fun hlt => ?_) (fun hge => ?_)
      · have hi' : i < A.length := by have := of_decide_eq_true hlt; omega
        have hx1 := ok_getD ox (by omega : 0 < B64) i
        have hy1 := ok_getD oy (by omega : 0 < B64) i
        have e8 : IntKind.i64.wrap ((i : Int) + 1) = ((i + 1 : Nat) : Int) := by rw [wrap_i64 (by omega) (by omega)]; omega
        -- a round, whatever b has there
        have next : ∀ (bo' : Nat) (w5 : World) (z : Nat), bo' ≤ 1 → z < B64 → A.getD i 0 + B64 * bo' = z + C.getD i 0 + bo → Fill w w5 c (l.set i z) (fun w' => Rd .u64 w' t1 (nn C)) →
            (t1 = t1 ∧ (A.length : Int) = (A.length : Int) ∧ ((A.length = 0 ∧ c = ⟨none, 0, 0⟩ ∧ ((i + 1 : Nat) : Int) = 0 ∧ w5 = w) ∨ ∃ (l : List Nat) (i' b' : Nat), (bo' : Int) = (b' : Int) ∧ b' ≤ 1 ∧ ((i + 1 : Nat) : Int) = (i' : Int) ∧ i' ≤ A.length ∧
    Fill w w5 c l (fun w' => Rd .u64 w' t1 (nn C)) ∧ l.length = A.length ∧ ok B64 l ∧ val B64 (A.take i') + b' * B64 ^ i' = val B64 (l.take i') + val B64 (C.take i') ∧ ∀ k, i' ≤ k → l.getD k 0 = A.getD k 0)) ∧ ((A.length : Int) - ((i + 1 : Nat) : Int)).toNat < ((A.length : Int) - (i : Int)).toNat := by
          intro bo' w5 z hb' hzB heq hf5
          refine ⟨⟨rfl, rfl, .inr ⟨_, i + 1, bo', rfl, hb', rfl, hi', hf5, by simpa using hll, ok_set okl hzB, ?_, fun k hk => ?_⟩⟩, by omega⟩
          · rw [val_take_set _ _ _ (by omega), val_take_succ', val_take_succ', Nat.pow_succ]
            have e1 : B64 ^ i * (A.getD i 0 + B64 * bo') = B64 ^ i * (z + C.getD i 0 + bo) := by rw [heq]
            rw [Nat.mul_add, Nat.mul_add, Nat.mul_add] at e1
            have e2 : bo' * (B64 ^ i * B64) = B64 ^ i * (B64 * bo') := by ac_rfl
            rw [Nat.mul_comm bo] at hv
            omega
          · rw [getD_set _ _ _ _ (by omega), if_neg (by omega)]
            exact hr k (by omega)
        rw [e8]
        have lastA : l.getD i 0 = A.getD i 0 := hr i (Nat.le_refl _)
        refine br_intro (fun hin => ?_) (fun hin => ?_)
        · have hin' : i < C.length := by have := of_decide_eq_true hin; omega
          refine ldN hS (by omega) (by omega) ?_
          refine ldN hf.rd (by omega) (by omega) ?_
          repeat rw [Int.toNat_natCast]
          rw [lastA]
          have ew : IntKind.u64.wrap (IntKind.u64.wrap ((A.getD i 0 : Int) - (C.getD i 0 : Int)) - (bo : Int)) = (((A.getD i 0 + 2 * B64 - C.getD i 0 - bo) % B64 : Nat) : Int) := by
            rw [wrap_u64, wrap_u64, hB]; omega
          rw [ew]
          refine stF hf (by omega) (by omega) ?_
          intro w5 hf5
          rw [Int.toNat_natCast] at hf5
          have hm : (A.getD i 0 + 2 * B64 - C.getD i 0 - bo) % B64 < B64 := Nat.mod_lt _ (by omega)
          have hz1 : (A.getD i 0 + 2 * B64 - C.getD i 0 - bo) % B64 = (A.getD i 0 + 2 * B64 - C.getD i 0 - bo) % 18446744073709551616 := by rw [← hB]
          refine br_intro (fun q1 => ?_) (fun q1 => br_intro (fun q2 => br_intro (fun q3 => ?_) (fun q3 => ?_)) (fun q2 => ?_))
          · exact next 1 w5 _ (by omega) hm (by have := of_decide_eq_true q1; omega) hf5
          · exact next 1 w5 _ (by omega) hm (by have := eq_of_beq q2; have := eq_of_beq q3; omega) hf5
          · exact next 0 w5 _ (by omega) hm (by have h1 := eq_of_beq q2; have h2 : ¬ bo = 1 := fun h => by rw [h] at q3; simp at q3
                                                omega) hf5
          · exact next 0 w5 _ (by omega) hm (by have h1 := of_decide_eq_false q1; have h2 : ¬ A.getD i 0 = C.getD i 0 := fun h => by rw [h] at q2; simp at q2
                                                omega) hf5
        · have hin' : C.length ≤ i := by have := of_decide_eq_false hin; omega
          have hc0 : C.getD i 0 = 0 := getD_ge C 0 hin'
          refine ldN hf.rd (by omega) (by omega) ?_
          repeat rw [Int.toNat_natCast]
          rw [lastA]
          have ew : IntKind.u64.wrap (IntKind.u64.wrap ((A.getD i 0 : Int) - 0) - (bo : Int)) = (((A.getD i 0 + 2 * B64 - bo) % B64 : Nat) : Int) := by
            rw [wrap_u64, wrap_u64, hB]; omega
          rw [ew]
          refine stF hf (by omega) (by omega) ?_
          intro w5 hf5
          rw [Int.toNat_natCast] at hf5
          have hm : (A.getD i 0 + 2 * B64 - bo) % B64 < B64 := Nat.mod_lt _ (by omega)
          have hz1 : (A.getD i 0 + 2 * B64 - bo) % B64 = (A.getD i 0 + 2 * B64 - bo) % 18446744073709551616 := by rw [← hB]
          refine br_intro (fun q1 => ?_) (fun q1 => br_intro (fun q2 => br_intro (fun q3 => ?_) (fun q3 => ?_)) (fun q2 => ?_))
          · have := of_decide_eq_true q1; omega
          · exact next 1 w5 _ (by omega) hm (by have := eq_of_beq q2; have := eq_of_beq q3; omega) hf5
          · exact next 0 w5 _ (by omega) hm (by have h1 := eq_of_beq q2; have h2 : ¬ bo = 1 := fun h => by rw [h] at q3; simp at q3
                                                omega) hf5
          · exact next 0 w5 _ (by omega) hm (by have h2 : ¬ A.getD i 0 = 0 := fun h => by rw [h] at q2; simp at q2
                                                omega) hf5
      · have hi' : i = A.length := by have := of_decide_eq_false hge; omega
        subst hi'
        rw [List.take_length, List.take_of_length_le hlen, List.take_of_length_le (by omega), vx, vy] at hv
        have hlt := val_lt okl
        rw [hll] at hlt
        have h0 : bo = 0 := by
          rcases Nat.eq_zero_or_pos bo with h | h
          · exact h
          · have : bo = 1 := by omega
            subst this
            rw [Nat.one_mul] at hv
            omega
        subst h0
        refine Calls.mono (Norm_spec hf.rd (by omega) okl) ?_
        rw [show val B64 l = x - y by omega]
        rintro e w3 ⟨h3, s, rfl, os⟩
        exact ⟨_, rfl, hf.base.trans h3, _, rfl, os.mono hf.base.size⟩

/-- Does the size go up by one? -/
def upB (m : Int) (neg : Bool) (q bh : Nat) : Bool := if m = 0 then neg && decide (0 < bh) else if m = 1 then !neg && decide (0 < bh) else decide (bh = 3 ∨ bh = 2 ∧ q % 2 = 1)
def rdQ (m : Int) (neg : Bool) (q bh : Nat) : Nat := q + if upB m neg q bh then 1 else 0
theorem way_spec {w : World} {m : Int} {neg : Bool} {a : Slc} {q bh : Nat} (rq : Rd .u64 w a (nn (digs B64 q))) (hl : (digs B64 q).length ≤ 2 ^ 44) {K : Ending → World → Prop}
    (hk : ∀ v, (∀ w', Ahead w w' → ∀ K' : Ending → World → Prop, K' (.returned (.bool (upB m neg q bh))) w' → callX pr v #[.bool neg, a.v, .int .i64 (bh : Int)] w' K') → K (.returned v) w) :
    Calls pr rounded_way_id #[.int .i64 m] w K := by
  refine rounded_way_vc m w _ (br_intro (fun h => hk _ fun w' ha K' hK => ?_) (fun h => br_intro (fun h2 => hk _ fun w' ha K' hK => ?_) (fun h2 => hk _ fun w' ha K' hK => ?_)))
  · have hm : m = 0 := eq_of_beq h
    subst hm
    refine callX_intro (by kernel_rfl) (rounded_way_1_vc neg a (bh : Int) w' _ ?_)
    have e : decide ((bh : Int) > 0) = decide (0 < bh) := decide_eq_decide.2 (by omega)
    cases neg
    · exact br_false rfl (by simpa [upB] using hK)
    · refine br_true rfl ?_
      rw [e]; simpa [upB] using hK
  · have hm : m = 1 := eq_of_beq h2
    subst hm
    refine callX_intro (by kernel_rfl) (rounded_way_2_vc neg a (bh : Int) w' _ ?_)
    have e : decide ((bh : Int) > 0) = decide (0 < bh) := decide_eq_decide.2 (by omega)
    cases neg
    · refine br_true rfl ?_
      rw [e]; simpa [upB] using hK
    · exact br_false rfl (by simpa [upB] using hK)
  · have hm : ¬ m = 0 := fun h' => by rw [h'] at h; simp at h
    have hm1 : ¬ m = 1 := fun h' => by rw [h'] at h2; simp at h2
    have eu : upB m neg q bh = decide (bh = 3 ∨ bh = 2 ∧ q % 2 = 1) := by rw [upB, if_neg hm, if_neg hm1]
    rw [eu] at hK
    refine callX_intro (by kernel_rfl) (rounded_way_3_vc neg a (bh : Int) w' _ (br_intro (fun h3 => ?_) (fun h3 => br_intro (fun h4 => ?_) (fun h4 => ?_))))
    · have h3' : bh = 3 := by have := eq_of_beq h3; omega
      rw [decide_eq_true (Or.inl h3')] at hK; exact hK
    · have h4' : bh = 2 := by have := eq_of_beq h4; omega
      have hb := Nat.nBit_spec (i := 0) (rq.ahead ha) (by omega) (ok_digs two64 q) (by omega)
      refine Calls.mono hb ?_
      rintro e w2 ⟨rfl, rfl⟩
      rw [val_digs two64, Nat.pow_zero, Nat.div_one]
      refine ⟨_, rfl, ?_⟩
      have e2 : (((q % 2 : Nat) : Int) == 1) = decide (bh = 3 ∨ bh = 2 ∧ q % 2 = 1) := by
        rw [Bool.eq_iff_iff, beq_iff_eq, decide_eq_true_iff]; omega
      rw [e2]; exact hK
    · have h3' : ¬ bh = 3 := fun h' => by rw [h'] at h3; simp at h3
      have h4' : ¬ bh = 2 := fun h' => by rw [h'] at h4; simp at h4
      rw [decide_eq_false (by omega)] at hK; exact hK

theorem finish_spec {w : World} {neg : Bool} {a : Slc} {q bh : Nat} {pos m : Int} (hT : Tab w) (rq : Rd .u64 w a (nn (digs B64 q))) (hq : bl (q + 1) ≤ 67108864) (hp : wi pos) :
    Calls pr rounded_finish_id #[.bool neg, a.v, .int .i64 (bh : Int), .int .i64 pos, .int .i64 m] w (DOut w (tC (rdQ m neg q bh) pos) neg (rdQ m neg q bh) pos) := by
  have hB := B64v
  have hq0 : bl q ≤ 67108864 := Nat.le_trans (bl_mono (by omega)) hq
  have lq := digs_len_bl (N := q) (m := 2 ^ 20) (by omega)
  have hq' : bl (rdQ m neg q bh) ≤ 67108864 := Nat.le_trans (bl_mono (by unfold rdQ; split <;> omega)) hq
  have lq' := digs_len_bl (N := rdQ m neg q bh) (m := 2 ^ 20) (by omega)
  have hpp := hp
  unfold wi at hpp
  refine rounded_finish_vc neg a (bh : Int) pos m w _ (fun t0 t1 t3 t10 w' => t0 = neg ∧ t3 = pos ∧ t10 = ⟨w.heap.size, 0, none⟩ ∧ Ahead w w' ∧ Blk w' w.heap.size (c3 false ⟨none, 0, 0⟩ 0) ∧ w.heap.size < w'.heap.size ∧ Rd .u64 w' t1 (nn (digs B64 (rdQ m neg q bh)))) (newC_b fun b w1 hb1 h1 hs1 B1 => ?_) ?_
  · subst hb1
    refine way_spec (neg := neg) (bh := bh) (rq.ahead h1) (by omega) fun v hv => ⟨v, rfl, ?_⟩
    refine hv w1 (Ahead.refl _) _ ⟨_, rfl, br_intro (fun hu => ?_) (fun hu => ?_)⟩
    · have eq1 : rdQ m neg q bh = q + 1 := by rw [rdQ, hu]; rfl
      refine Calls.mono (From_spec (v := 1) (by omega)) ?_
      rintro e w4 ⟨h4, s1, rfl, o1⟩
      have b1 : bl 1 ≤ 1 := bl_le (by omega)
      refine ⟨_, rfl, Calls.mono (add_num (num_digs ((rq.ahead h1).ahead h4) (by omega)) (own_num o1 (by omega))) ?_⟩
      intro e w5 hr
      obtain ⟨h5, u, rfl, ou, nu⟩ := hr.num (bigC_ok hq) hq
      have h15 := h4.trans h5
      have := h15.size
      exact ⟨_, _, rfl, br_false rfl ⟨rfl, rfl, rfl, h1.trans h15, B1.ahead h15, by omega, by rw [eq1]; exact ou.rd⟩⟩
    · have eq1 : rdQ m neg q bh = q := by rw [rdQ, hu]; rfl
      exact ⟨rfl, rfl, rfl, h1, B1, by omega, by rw [eq1]; exact rq.ahead h1⟩
  · rintro t0 t1 t3 t10 w1 ⟨rfl, rfl, rfl, h1, B1, hsz, r1⟩
    generalize rdQ m t0 q bh = Q at *
    have nQ : Num w1 t1 Q := num_digs r1 (by omega)
    have hn : t1.n = (digs B64 Q).length := by rw [r1.n, nn_length]
    refine Calls.mono (len_num nQ) ?_
    rintro e w2 ⟨rfl, rfl⟩
    refine ⟨_, rfl, br_false (decide_eq_false (by omega)) (br_intro (fun h0 => ?_) (fun h0 => ?_))⟩
    · have hQ : Q = 0 := by
        have h2 := eq_of_beq h0
        rcases Nat.eq_zero_or_pos Q with h | h
        · exact h
        · have := List.length_pos_iff.2 (digs_ne_nil two64 (show Q ≠ 0 by omega)); omega
      subst hQ
      refine ret3 B1 fun w' u' B' => ?_
      have hc : tC 0 t3 = 0 := by
        have e0 : bl (od 0) = 0 := by rw [od_zero, bl_zero]
        rw [tC, e0, if_neg (by omega), eD_zero, if_pos (by unfold wi; omega)]
      refine ⟨u'.ahead h1 (Nat.le_refl _), ⟨none, 0, 0⟩, by rw [hc, if_pos rfl, if_pos rfl, nD_zero, eD_zero], ?_⟩
      rw [hc, if_pos rfl, od_zero, digs_zero]; exact OwnNil.nil
    · have hQ : Q ≠ 0 := fun h => by rw [hn, h, digs_zero] at h0; simp at h0
      refine Calls.mono (Tail_spec (hT.ahead h1) r1 (by omega) (ok_digs two64 Q)) ?_
      rw [val_digs two64]
      rintro e w3 ⟨rfl, rfl⟩
      have htz := tz_le Q
      have hw : IntKind.i64.wrap (t3 + ((tz Q : Nat) : Int)) = eD Q t3 := by rw [wrap_i64 (by omega) (by omega), eD, if_neg hQ]
      have hbo : bl (od Q) ≤ 67108864 := Nat.le_trans (bl_mono (od_le Q)) hq'
      have heD : eD Q t3 = t3 + (tz Q : Int) := by rw [eD, if_neg hQ]
      refine ⟨_, rfl, ?_⟩
      rw [hw]
      refine br_intro (fun hb => ?_) (fun hb => ?_)
      · have hb' := of_decide_eq_true hb
        have hc : tC Q t3 = 80 := by rw [tC, if_neg (by omega), if_neg (by unfold wi; omega)]
        refine ret3 B1 fun w' u' B' => ?_
        exact DOut.refused (u'.ahead h1 (Nat.le_refl _)) hc (by omega)
      · have hb' := of_decide_eq_false hb
        have hc : tC Q t3 = 0 := by rw [tC, if_neg (by omega), if_pos (by unfold wi; omega)]
        refine Calls.mono (right_spec r1 (by omega) (ok_digs two64 Q) (by omega)) ?_
        rw [val_digs two64]
        rintro e w4 ⟨h4, s, rfl, os⟩
        refine ⟨_, rfl, ret3 (B1.ahead h4) fun w' u' B' => ?_⟩
        have h14 := h1.trans h4
        refine ⟨u'.ahead h14 (Nat.le_refl _), s, by rw [hc, if_pos rfl, if_pos rfl, nD_ne hQ], ?_⟩
        rw [hc, if_pos rfl]
        exact (u'.own os hsz).mono h1.size
end Ro
end Go.Proofs.YtbeiopoejdkheaaGreatDoor
namespace Go.Proofs.YtbeiopoejdkheaaGreatDoor
open Go Go.RowKit Eng Sp Dg Kd L2
set_option linter.unusedVariables false
set_option linter.unusedSimpArgs false
set_option maxRecDepth 100000
namespace Ro
open _root_.Go.Proofs.YtbeiopoejdkheaaGreatDoor.Nat (OwnNil OwnNil.rd OwnNil.ahead OwnNil.mono OwnNil.nil OwnNil.ext Num Num.ahead Num.ext Num.bl num_of Norm_spec From_spec len_num own_num Ret Ret.num cmp_num bigC bigC_ok digs_len_bl)
open _root_.Go.Proofs.YtbeiopoejdkheaaGreatDoor.Ref (len_mono)
open _root_.Go.Proofs.YtbeiopoejdkheaaGreatDoor.Dq (Quo_spec quoC)
open Dy Sb

theorem len_zero {w : World} {s : Slc} {x : Nat} (h : Rd .u64 w s (nn (digs B64 x))) : ((s.n : Int) == 0) = decide (x = 0) := by
  have hn : s.n = (digs B64 x).length := by rw [h.n, nn_length]
  rw [Bool.eq_iff_iff, beq_iff_eq, decide_eq_true_iff]
  constructor
  · intro h0
    rcases Nat.eq_zero_or_pos x with h1 | h1
    · exact h1
    · have := List.length_pos_iff.2 (digs_ne_nil two64 (show x ≠ 0 by omega)); omega
  · rintro rfl; rw [hn, digs_zero]; rfl

theorem read_spec {w : World} {neg : Bool} {s : Slc} {x : Nat} {e : Int} (hT : Tab w) (h : Num w s x) (he : wi e) :
    Calls pr rounded_read_id #[.agg (c3 neg s e)] w fun en w' => Ahead w w' ∧ ∃ s', en = .returned (.tuple #[.agg (c3 (nD neg x) s' (eD x e)), .int .i64 0]) ∧ OwnNil w.heap.size w' s' (digs B64 (od x)) := by
  have he' := he
  unfold wi at he'
  have hbl := Num.bl h
  have lx := digs_len_bl (N := x) (m := 2 ^ 44) (by omega)
  refine rounded_read_v2 neg s e w (fun en w' => ∃ s', en = .returned (.tuple #[.agg (c3 (nD neg x) s' (eD x e)), .int .i64 0]) ∧ OwnNil w.heap.size w' s' (digs B64 (od x))) (br_false (decide_eq_false (by omega)) (br_false (decide_eq_false (by omega)) ?_))
  intro w3 x3 a3
  obtain ⟨l, rl, ll, ol, vl⟩ := h.ahead a3
  refine Calls.mono (Norm_spec rl ll ol) ?_
  rw [vl]
  rintro en w4 ⟨h4, s1, rfl, o1⟩
  refine ⟨_, rfl, h4, ?_⟩
  rw [len_zero o1.rd]
  refine br_intro (fun h0 => ?_) (fun h0 => ?_)
  · have hx := of_decide_eq_true h0
    subst hx
    intro w5 x5 a5
    exact ⟨_, by rw [nD_zero, eD_zero], by rw [od_zero, digs_zero]; exact OwnNil.nil⟩
  · have hx := of_decide_eq_false h0
    have a4 := a3.trans h4
    refine Calls.mono (Tail_spec (hT.ahead a4) o1.rd (by omega) (ok_digs two64 x)) ?_
    rw [val_digs two64]
    rintro en w6 ⟨rfl, rfl⟩
    have htz := tz_le x
    refine ⟨_, rfl, Ahead.refl _, fun w7 x7 a7 => ?_⟩
    refine Calls.mono (right_spec (o1.ext x7).rd (by omega) (ok_digs two64 x) (by omega)) ?_
    rw [val_digs two64]
    rintro en w8 ⟨h8, s2, rfl, o2⟩
    refine ⟨_, rfl, h8, fun w9 x9 a9 => ⟨_, ?_, (o2.ext x9).mono a7.size⟩⟩
    rw [wrap_i64 (by omega) (by omega), nD_ne hx, eD, if_neg hx]
theorem asked_spec {w : World} {pos m : Int} (hp : wi pos) (hm : 0 ≤ m ∧ m ≤ 2) : Calls pr rounded_asked_id #[.int .i64 pos, .int .i64 m] w fun e w' => w' = w ∧ e = .returned (.int .i64 0) := by
  unfold wi at hp
  exact rounded_asked_vc pos m w _ (br_false (decide_eq_false (by omega)) (br_false (decide_eq_false (by omega)) (br_false (decide_eq_false (by omega)) (br_false (decide_eq_false (by omega)) ⟨rfl, rfl⟩))))

def bhv (N D : Nat) : Nat := if N % D = 0 then 0 else if 2 * (N % D) < D then 1 else if 2 * (N % D) = D then 2 else 3
theorem bhv_mul {N D P : Nat} (hP : 0 < P) : bhv (N * P) (D * P) = bhv N D ∧ N * P / (D * P) = N / D := by
  have h1 : N * P % (D * P) = N % D * P := Nat.mul_mod_mul_right ..
  refine ⟨?_, Nat.mul_div_mul_right _ _ hP⟩
  unfold bhv
  rw [h1]
  have e1 : N % D * P = 0 ↔ N % D = 0 := by
    constructor
    · intro h
      rcases Nat.mul_eq_zero.1 h with h | h
      · exact h
      · omega
    · intro h; rw [h, Nat.zero_mul]
  have e2 : 2 * (N % D * P) < D * P ↔ 2 * (N % D) < D := by
    rw [← Nat.mul_assoc]; exact Nat.mul_lt_mul_right hP
  have e3 : 2 * (N % D * P) = D * P ↔ 2 * (N % D) = D := by
    rw [← Nat.mul_assoc]; exact Nat.mul_left_inj (by omega)
  simp only [e1, e2, e3]
/-- The numerator and the denominator of x 2^s / y. -/
def nu (x : Nat) (s : Int) : Nat := x * 2 ^ s.toNat
def de (y : Nat) (s : Int) : Nat := y * 2 ^ (-s).toNat
theorem bl_mul_pow {x n : Nat} (hx : x ≠ 0) : bl (x * 2 ^ n) = bl x + n := by
  have h := bl_bounds hx
  have e : bl x + n = (bl x + n - 1) + 1 := by have := bl_pos hx; omega
  rw [e]
  refine bl_eq ?_ ?_
  · have := Nat.mul_le_mul_right (2 ^ n) h.1
    rw [← Nat.pow_add] at this
    rwa [show bl x - 1 + n = bl x + n - 1 by have := bl_pos hx; omega] at this
  · have := Nat.mul_lt_mul_of_pos_right h.2 (Nat.pow_pos (n := n) (show 0 < 2 by omega))
    rw [← Nat.pow_add] at this
    rwa [show bl x + n = bl x + n - 1 + 1 by have := bl_pos hx; omega] at this
theorem bl_mul_le (x n : Nat) : bl (x * 2 ^ n) ≤ bl x + n := by
  by_cases hx : x = 0
  · subst hx; rw [Nat.zero_mul, bl_zero]; omega
  · rw [bl_mul_pow hx]; exact Nat.le_refl _
theorem tz_dvd {x t : Nat} (h : t ≤ tz x) : x / 2 ^ t * 2 ^ t = x := by
  have h1 := od_mul x
  rw [show tz x = t + (tz x - t) by omega, Nat.pow_add] at h1
  rw [← h1, Nat.mul_assoc, Nat.mul_div_cancel_left _ (Nat.pow_pos (by omega)), Nat.mul_comm]

theorem rest_cmp {r y : Nat} (hr : 0 < r) : IntKind.i64.wrap (2 + cmpI (r * 2 ^ 1) y) = (((if 2 * r < y then 1 else if 2 * r = y then 2 else 3 : Nat)) : Int) := by
  unfold cmpI
  rw [Nat.pow_one]
  split
  · rw [if_pos (by omega)]; rfl
  · split
    · rw [if_neg (by omega), if_neg (by omega)]; rfl
    · rw [if_neg (by omega), if_pos (by omega)]; rfl

set_option maxHeartbeats 1000000 in
theorem quotE_spec {w : World} {neg : Bool} {a b : Slc} {x y : Nat} {k pos m : Int} (hT : Tab w) (ra : Rd .u64 w a (nn (digs B64 x))) (rb : Rd .u64 w b (nn (digs B64 y))) (hx : bl x ≤ 1048576) (hy : bl y ≤ 1048576) (hy0 : y ≠ 0) (hk : -4194304 ≤ k ∧ k ≤ 4194304) (hp : -4194304 ≤ pos ∧ pos ≤ 4194304) :
    Calls pr rounded_quotient_id #[.bool neg, a.v, b.v, .int .i64 k, .int .i64 pos, .int .i64 m] w
      (DOut w (tC (rdQ m neg (nu x (k - pos) / de y (k - pos)) (bhv (nu x (k - pos)) (de y (k - pos)))) pos) neg (rdQ m neg (nu x (k - pos) / de y (k - pos)) (bhv (nu x (k - pos)) (de y (k - pos)))) pos) := by
  have hB := B64v
  have hwp : wi pos := by unfold wi; omega
  have lx := digs_len_bl (N := x) (m := 2 ^ 15) (by omega)
  have ly := digs_len_bl (N := y) (m := 2 ^ 15) (by omega)
  obtain ⟨s, hs⟩ : ∃ s, s = k - pos := ⟨_, rfl⟩
  have ws : IntKind.i64.wrap (k - pos) = s := by rw [wrap_i64 (by omega) (by omega), hs]
  rw [← hs]
  -- the answer, of any fraction that is the same
  obtain ⟨QQ, hQQ⟩ : ∃ QQ, QQ = rdQ m neg (nu x s / de y s) (bhv (nu x s) (de y s)) := ⟨_, rfl⟩
  rw [← hQQ]
  refine Calls.mono (rounded_quotient_v2 neg a b k pos m w (fun en w' => ∃ s', en = .returned (.tuple #[.agg (c3 (if tC QQ pos = 0 then nD neg QQ else false) s' (if tC QQ pos = 0 then eD QQ pos else 0)), .int .i64 (tC QQ pos)]) ∧ OwnNil w.heap.size w' s' (if tC QQ pos = 0 then digs B64 (od QQ) else []))
    (fun t0 t1 t2 t4 t5 _ _ _ w' => neg = t0 ∧ pos = t4 ∧ m = t5 ∧ ∃ A C P : Nat, 0 < P ∧ C ≠ 0 ∧ nu x s = A * P ∧ de y s = C * P ∧ bl A ≤ 16777216 ∧ bl C ≤ 16777216 ∧ Rd .u64 w' t1 (nn (digs B64 A)) ∧ Rd .u64 w' t2 (nn (digs B64 C))) ?_ ?_) fun en w' ⟨h1, h2⟩ => ⟨h1, h2⟩
  · rw [len_zero ra, ws]
    refine br_intro (fun h0 => ?_) (fun h0 => ?_)
    · have hx0 := of_decide_eq_true h0
      subst hx0
      intro w1 x1 a1
      have hn : nu 0 s = 0 := Nat.zero_mul _
      have hz : QQ = 0 := by
        rw [hQQ, hn, Nat.zero_div]
        have : bhv 0 (de y s) = 0 := by unfold bhv; rw [Nat.zero_mod, if_pos rfl]
        rw [this]
        have hu : upB m neg 0 0 = false := by
          unfold upB
          by_cases g0 : m = 0
          · simp [g0]
          · by_cases g1 : m = 1
            · simp [g1]
            · simp [g0, g1]
        unfold rdQ
        rw [hu]; rfl
      have hc : tC QQ pos = 0 := by
        have e0 : bl (od 0) = 0 := by rw [od_zero, bl_zero]
        rw [hz, tC, e0, if_neg (by omega), eD_zero, if_pos (by unfold wi; omega)]
      rw [hc, if_pos rfl, if_pos rfl, if_pos rfl, hz, nD_zero, eD_zero, od_zero, digs_zero]
      exact ⟨_, rfl, OwnNil.nil⟩
    · have hx0 := of_decide_eq_false h0
      intro w2 x2 a2
      refine Calls.mono (len_num (num_digs (ra.ahead a2) (by omega))) ?_
      rintro en w3 ⟨rfl, rfl⟩
      refine ⟨_, rfl, Ahead.refl _, Calls.mono (len_num (num_digs (rb.ahead a2) (by omega))) ?_⟩
      rintro en w4 ⟨rfl, rfl⟩
      refine ⟨_, rfl, Ahead.refl _, ?_⟩
      have hbx := bl_pos hx0
      have hby := bl_pos hy0
      rw [wrap_i64 (x := (bl x : Int) - (bl y : Int)) (by omega) (by omega), wrap_i64 (x := (bl x : Int) - (bl y : Int) + s) (by omega) (by omega)]
      refine br_false (decide_eq_false (by omega)) (br_intro (fun hlow => ?_) (fun hlow => ?_))
      · have hlow' := of_decide_eq_true hlow
        -- less than a half
        have hD : 2 * nu x s < de y s := by
          have hb0 : bl (nu x s) = bl x + s.toNat := bl_mul_pow hx0
          have hb1 : bl (de y s) = bl y + (-s).toNat := bl_mul_pow hy0
          have h2 := lt_bl (nu x s)
          have h3 := (bl_bounds (n := de y s) (fun h => by rw [h, bl_zero] at hb1; omega)).1
          rw [hb1] at h3
          rw [hb0] at h2
          have h4 : 2 ^ (bl x + s.toNat + 1) ≤ 2 ^ (bl y + (-s).toNat - 1) := Nat.pow_le_pow_right (by omega) (by omega)
          rw [Nat.pow_succ] at h4
          omega
        have hn0 : nu x s ≠ 0 := Nat.ne_of_gt (Nat.mul_pos (Nat.pos_of_ne_zero hx0) (Nat.pow_pos (by omega)))
        have hq : nu x s / de y s = 0 := Nat.div_eq_of_lt (by omega)
        have hb : bhv (nu x s) (de y s) = 1 := by
          unfold bhv; rw [Nat.mod_eq_of_lt (by omega), if_neg hn0, if_pos hD]
        rw [hq, hb] at hQQ
        have b1 : bl (0 + 1) ≤ 1 := bl_le (by omega)
        have hf := finish_spec (neg := neg) (q := 0) (bh := 1) (m := m) (a := ⟨none, 0, 0⟩) (hT.ahead a2) (by rw [digs_zero]; exact Rd.nil) (by omega) hwp
        rw [← hQQ] at hf
        refine Calls.mono hf ?_
        rintro en w6 ⟨h6, s', rfl, o6⟩
        exact ⟨_, _, _, _, rfl, h6, fun w7 x7 a7 => ⟨_, rfl, (o6.ext x7).mono a2.size⟩⟩
      · have hlow' := of_decide_eq_false hlow
        refine br_intro (fun hge => ?_) (fun hlt => ?_)
        · have hge' : 0 ≤ s := of_decide_eq_true hge
          obtain ⟨S, rfl⟩ := Int.eq_ofNat_of_zero_le hge'
          refine Calls.mono (Tail_spec (hT.ahead a2) (rb.ahead a2) (by omega) (ok_digs two64 y)) ?_
          rw [val_digs two64]
          rintro en w8 ⟨rfl, rfl⟩
          obtain ⟨t, ht⟩ : ∃ t, t = min S (tz y) := ⟨_, rfl⟩
          have emin : minI (S : Int) ((tz y : Nat) : Int) = (t : Int) := by unfold minI; split <;> omega
          refine ⟨_, rfl, Ahead.refl _, ?_⟩
          rw [emin, wrap_i64 (x := (S : Int) - (t : Int)) (by omega) (by omega), show (S : Int) - (t : Int) = ((S - t : Nat) : Int) by omega]
          refine Calls.mono (left_spec (n := S - t) (ra.ahead a2) (by omega)) ?_
          rintro en w9 ⟨h9, s2, rfl, o2⟩
          refine ⟨_, rfl, h9, Calls.mono (right_spec (n := t) ((rb.ahead a2).ahead h9) (by omega) (ok_digs two64 y) (by omega)) ?_⟩
          rw [val_digs two64]
          rintro en w10 ⟨h10, s3, rfl, o3⟩
          have hyt := tz_dvd (x := y) (t := t) (by omega)
          refine ⟨_, rfl, h10, rfl, rfl, rfl, x * 2 ^ (S - t), y / 2 ^ t, 2 ^ t, Nat.pow_pos (by omega), fun h => by rw [h, Nat.zero_mul] at hyt; omega, ?_, ?_, ?_, ?_, (o2.ahead h10).rd, o3.rd⟩
          · unfold nu
            rw [Int.toNat_natCast, Nat.mul_assoc, ← Nat.pow_add, Nat.sub_add_cancel (by omega)]
          · unfold de
            rw [hyt, show (-(S : Int)).toNat = 0 by omega, Nat.pow_zero, Nat.mul_one]
          · exact Nat.le_trans (bl_mul_le _ _) (by omega)
          · exact Nat.le_trans (bl_mono (Nat.div_le_self _ _)) (by omega)
        · have hlt' : ¬ 0 ≤ s := of_decide_eq_false hlt
          obtain ⟨S, hS⟩ : ∃ S : Nat, -s = (S : Int) := ⟨(-s).toNat, by omega⟩
          refine Calls.mono (Tail_spec (hT.ahead a2) (ra.ahead a2) (by omega) (ok_digs two64 x)) ?_
          rw [val_digs two64]
          rintro en w8 ⟨rfl, rfl⟩
          obtain ⟨t, ht⟩ : ∃ t, t = min S (tz x) := ⟨_, rfl⟩
          refine ⟨_, rfl, Ahead.refl _, ?_⟩
          have emin : minI (S : Int) ((tz x : Nat) : Int) = (t : Int) := by unfold minI; split <;> omega
          rw [wrap_i64 (x := 0 - s) (by omega) (by omega), show 0 - s = (S : Int) by omega, emin, wrap_i64 (x := (S : Int) - (t : Int)) (by omega) (by omega), show (S : Int) - (t : Int) = ((S - t : Nat) : Int) by omega]
          refine Calls.mono (right_spec (n := t) (ra.ahead a2) (by omega) (ok_digs two64 x) (by omega)) ?_
          rw [val_digs two64]
          rintro en w9 ⟨h9, s2, rfl, o2⟩
          refine ⟨_, rfl, h9, Calls.mono (left_spec (n := S - t) ((rb.ahead a2).ahead h9) (by omega)) ?_⟩
          rintro en w10 ⟨h10, s3, rfl, o3⟩
          have hxt := tz_dvd (x := x) (t := t) (by omega)
          refine ⟨_, rfl, h10, rfl, rfl, rfl, x / 2 ^ t, y * 2 ^ (S - t), 2 ^ t, Nat.pow_pos (by omega), fun h => ?_, ?_, ?_, ?_, ?_, (o2.ahead h10).rd, o3.rd⟩
          · have := Nat.mul_pos (Nat.pos_of_ne_zero hy0) (Nat.pow_pos (n := S - t) (show 0 < 2 by omega)); omega
          · unfold nu
            rw [hxt, show s.toNat = 0 by omega, Nat.pow_zero, Nat.mul_one]
          · unfold de
            rw [show (-s).toNat = S by omega, Nat.mul_assoc, ← Nat.pow_add, Nat.sub_add_cancel (by omega)]
          · exact Nat.le_trans (bl_mono (Nat.div_le_self _ _)) (by omega)
          · exact Nat.le_trans (bl_mul_le _ _) (by omega)
  · rintro t0 t1 t2 t4 t5 b1 sx e1 w1 a1 ⟨rfl, rfl, rfl, A, C, P, hP, hC, hA, hD, lA, lC, r1, r2⟩
    obtain ⟨m1, m2⟩ := bhv_mul (N := A) (D := C) hP
    rw [hA, hD, m1, m2] at hQQ
    have dA := digs_len_bl (N := A) (m := 2 ^ 18) (by omega)
    have dC := digs_len_bl (N := C) (m := 2 ^ 18) (by omega)
    have nA := num_digs r1 (by omega)
    have nC := num_digs r2 (by omega)
    have hle : A / C ≤ A := Nat.div_le_self _ _
    have bq := bl_mono hle
    have hqc : quoC A C = 0 := by rw [quoC, if_neg hC, bigC_ok (by omega)]
    refine Calls.mono (Quo_spec nA nC) ?_
    intro en w11 hr
    obtain ⟨h11, q, rfl, oq, nq⟩ := hr.num hqc (by omega)
    have hmul : A / C * C ≤ A := Nat.div_mul_le_self _ _
    have bm := bl_mono hmul
    refine ⟨_, _, rfl, h11, br_false rfl (Calls.mono (times_spec nq (nC.ahead h11) (by omega) (by omega) (by omega)) ?_)⟩
    rintro en w13 ⟨h13, s5, rfl, o5⟩
    have h1113 := h11.trans h13
    refine ⟨_, rfl, h13, Calls.mono (minus_spec (r1.ahead h1113) o5.rd (by omega) hmul) ?_⟩
    rintro en w14 ⟨h14, s6, rfl, o6⟩
    have hmod : A - A / C * C = A % C := by have := Nat.div_add_mod A C; rw [Nat.mul_comm] at this; omega
    rw [hmod] at o6
    have h114 := h1113.trans h14
    have hml : A % C < C := Nat.mod_lt _ (by omega)
    have hn6 : s6.n = (digs B64 (A % C)).length := by rw [o6.rd.n, nn_length]
    have rq14 : Rd .u64 w14 q (nn (digs B64 (A / C))) := ((oq.ahead h13).ahead h14).rd
    have bq1 : bl (A / C + 1) ≤ 67108864 := Nat.le_trans (bl_mono (show A / C + 1 ≤ A * 2 ^ 1 + 1 by omega)) (Nat.le_trans (bl_le (k := bl A + 2) (by
      have := lt_bl A
      rw [Nat.pow_add]; omega)) (by omega))
    refine ⟨_, rfl, h14, br_intro (fun hpos => ?_) (fun hpos => ?_)⟩
    · have hr0 : A % C ≠ 0 := fun h => by
        have h0 := of_decide_eq_true hpos
        rw [hn6, h, digs_zero] at h0; simp at h0
      have lr := len_mono two64 (Nat.le_of_lt hml)
      refine Calls.mono (left_spec (n := 1) o6.rd (by omega)) ?_
      rintro en w15 ⟨h15, s7, rfl, o7⟩
      have b2 : bl (A % C * 2 ^ 1) ≤ 67108864 := Nat.le_trans (bl_mul_le _ _) (by have := bl_mono (Nat.le_of_lt hml); omega)
      refine ⟨_, rfl, h15, Calls.mono (cmp_num (own_num o7 b2) ((nC.ahead h114).ahead h15)) ?_⟩
      rintro en w16 ⟨h16, rfl⟩
      refine ⟨_, rfl, h16, ?_⟩
      rw [rest_cmp (by omega)]
      have hb : bhv A C = (if 2 * (A % C) < C then 1 else if 2 * (A % C) = C then 2 else 3) := by unfold bhv; rw [if_neg hr0]
      rw [← hb]
      have h1416 := h15.trans h16
      have hf := finish_spec (neg := neg) (q := A / C) (bh := bhv A C) (m := m) (pos := pos) (hT.ahead ((a1.trans h114).trans h1416)) (rq14.ahead h1416) bq1 hwp
      rw [← hQQ] at hf
      refine Calls.mono hf ?_
      rintro en w17 ⟨h17, s8, rfl, o8⟩
      have hbs := ((a1.trans h114).trans h1416).size
      exact ⟨_, _, _, _, rfl, h17, fun w18 x18 a18 => ⟨_, rfl, (o8.ext x18).mono hbs⟩⟩
    · have hr0 : A % C = 0 := by
        have h0 := of_decide_eq_false hpos
        rcases Nat.eq_zero_or_pos (A % C) with h | h
        · exact h
        · have := List.length_pos_iff.2 (digs_ne_nil two64 (show A % C ≠ 0 by omega)); omega
      have hb : bhv A C = 0 := by unfold bhv; rw [if_pos hr0]
      rw [hb] at hQQ
      have hf := finish_spec (neg := neg) (q := A / C) (bh := 0) (m := m) (pos := pos) (hT.ahead (a1.trans h114)) rq14 bq1 hwp
      rw [← hQQ] at hf
      refine Calls.mono hf ?_
      rintro en w19 ⟨h19, s9, rfl, o9⟩
      have hbs := (a1.trans h114).size
      exact ⟨_, _, _, _, rfl, h19, fun w18 x18 a18 => ⟨_, rfl, (o9.ext x18).mono hbs⟩⟩
end Ro
end Go.Proofs.YtbeiopoejdkheaaGreatDoor
namespace Go.Proofs.YtbeiopoejdkheaaGreatDoor
open Go Go.RowKit Eng Sp Dg L2
set_option linter.unusedVariables false
set_option linter.unusedSimpArgs false
set_option maxRecDepth 100000
namespace R7
open _root_.Go.Proofs.YtbeiopoejdkheaaGreatDoor.Ref (RN RN.ahead RN.ext RN.nil RN.n rMul_spec rDiv_spec zero_spec Of_spec Int_spec Add_spec Sub_spec Cmp_spec Shl_spec Shr_spec)
open _root_.Go.Proofs.YtbeiopoejdkheaaGreatDoor.Rt (rd_inj bl_add_le bl_one)
open _root_.Go.Proofs.YtbeiopoejdkheaaGreatDoor.Ro (bl_mul_le tz_dvd)
open Dy

theorem mul_sp {w : World} {a b : Slc} {x y k l : Nat} (ha : RN w a x) (hb : RN w b y) (hx : bl x ≤ k) (hy : bl y ≤ l) (hk : k ≤ 67108864) (hl : l ≤ 67108864) :
    Calls pr surdref01_Mul_id #[a.v, b.v] w fun e w' => Ahead w w' ∧ ∃ s', e = .returned (Slc.v s') ∧ RN w' s' (x * y) ∧ bl (x * y) ≤ k + l := by
  have lx := l32 (N := x) (m := 2 ^ 22) (by omega)
  have ly := l32 (N := y) (m := 2 ^ 22) (by omega)
  refine Calls.mono (rMul_spec ha hb (by omega)) ?_
  rintro e w' ⟨h1, s, rfl, rs⟩
  exact ⟨h1, s, rfl, rs, Nat.le_trans (bl_mul x y) (by omega)⟩

theorem Mul_val {w : World} {a b : Bool} {s t u v : Slc} {p p' : Int} {q q' k k' : Nat} (h : RV w a s t p q k) (h' : RV w b u v p' q' k') (hk : k + k' ≤ 67108864) :
    Calls pr surdref07_Mul_id #[.agg #[.bool a, s.v, t.v], .agg #[.bool b, u.v, v.v]] w fun e w' => Ahead w w' ∧ RA (p * p') (q * q') (k + k') e w' := by
  obtain ⟨hq, n, d, r1, r2, hd, b1, b2, hv⟩ := h
  obtain ⟨hq', n', d', r1', r2', hd', b1', b2', hv'⟩ := h'
  refine surdref07_Mul_v2 a s t b u v w (RA (p * p') (q * q') (k + k')) fun w1 x1 a1 => ?_
  refine Calls.mono (mul_sp (r1.ahead a1) (r1'.ahead a1) b1 b1' (by omega) (by omega)) ?_
  rintro e w2 ⟨h2, x, rfl, rx, bx⟩
  have a2 := a1.trans h2
  refine ⟨_, rfl, h2, Calls.mono (mul_sp (r2.ahead a2) (r2'.ahead a2) b2 b2' (by omega) (by omega)) ?_⟩
  rintro e w3 ⟨h3, y, rfl, ry, by'⟩
  refine ⟨_, rfl, h3, Calls.mono (Make_spec (rx.ahead h3) ry (Nat.mul_pos hd hd') bx by' hk) ?_⟩
  rintro e w4 ⟨h4, c, x1, y1, rfl, hr⟩
  refine ⟨_, _, _, rfl, h4, fun w5 x5 a5 => ⟨_, _, _, rfl, (hr.ext x5).conv (Nat.mul_pos hq hq') ?_⟩⟩
  rw [sg_mul, Int.natCast_mul, Int.natCast_mul]
  calc sg a n * sg b n' * ((q : Int) * (q' : Int)) = (sg a n * (q : Int)) * (sg b n' * (q' : Int)) := by ac_rfl
    _ = (p * (d : Int)) * (p' * (d' : Int)) := by rw [hv, hv']
    _ = p * p' * ((d : Int) * (d' : Int)) := by ac_rfl

theorem sgZ_abs (p : Int) : sgZ p * p = (p.natAbs : Int) := by
  unfold sgZ
  split
  · subst_vars; rfl
  · split
    · omega
    · omega
theorem Quo_val {w : World} {a b : Bool} {s t u v : Slc} {p p' : Int} {q q' k k' : Nat} (h : RV w a s t p q k) (h' : RV w b u v p' q' k') (hp : p' ≠ 0) (hk : k + k' ≤ 67108864) :
    Calls pr surdref07_Quo_id #[.agg #[.bool a, s.v, t.v], .agg #[.bool b, u.v, v.v]] w fun e w' => Ahead w w' ∧ RA (sgZ p' * (p * (q' : Int))) (q * p'.natAbs) (k + k') e w' := by
  obtain ⟨hq, n, d, r1, r2, hd, b1, b2, hv⟩ := h
  obtain ⟨hq', n', d', r1', r2', hd', b1', b2', hv'⟩ := h'
  have hsg := sign_of hq' hd' hv'
  have hn' : n' ≠ 0 := fun h0 => by
    rw [h0, sg_zero, Int.zero_mul] at hv'
    rcases Int.mul_eq_zero.1 hv'.symm with h1 | h1
    · exact hp h1
    · omega
  refine surdref07_Quo_v2 a s t b u v w (RA (sgZ p' * (p * (q' : Int))) (q * p'.natAbs) (k + k')) fun w1 x1 a1 => ?_
  refine Calls.mono (mul_sp (r1.ahead a1) (r2'.ahead a1) b1 b2' (by omega) (by omega)) ?_
  rintro e w2 ⟨h2, x, rfl, rx, bx⟩
  have a2 := a1.trans h2
  refine ⟨_, rfl, h2, Calls.mono (mul_sp (r2.ahead a2) (r1'.ahead a2) b2 b1' (by omega) (by omega)) ?_⟩
  rintro e w3 ⟨h3, y, rfl, ry, by'⟩
  refine ⟨_, rfl, h3, Calls.mono (Make_spec (rx.ahead h3) ry (Nat.mul_pos hd (by omega)) bx by' hk) ?_⟩
  rintro e w4 ⟨h4, c, x1, y1, rfl, hr⟩
  refine ⟨_, _, _, rfl, h4, fun w5 x5 a5 => ⟨_, _, _, rfl, (hr.ext x5).conv (Nat.mul_pos hq (by omega)) ?_⟩⟩
  -- the sign of the divisor
  have e1 : sg (!(a == b)) (n * d') = sgZ p' * (sg a n * (d' : Int)) := by
    rw [← hsg, if_neg hn']
    cases a <;> cases b <;> simp [sg, Int.neg_mul, Int.natCast_mul]
  have e2 : ((p'.natAbs : Nat) : Int) * (d' : Int) = (n' : Int) * (q' : Int) := by
    rw [← sgZ_abs, Int.mul_assoc, ← hv', ← hsg, if_neg hn']
    cases b <;> simp [sg, Int.neg_mul, Int.mul_neg]
  rw [e1, Int.natCast_mul, Int.natCast_mul]
  calc sgZ p' * (sg a n * (d' : Int)) * ((q : Int) * (p'.natAbs : Int)) = sgZ p' * ((sg a n * (q : Int)) * ((p'.natAbs : Int) * (d' : Int))) := by ac_rfl
    _ = sgZ p' * ((p * (d : Int)) * ((n' : Int) * (q' : Int))) := by rw [hv, e2]
    _ = sgZ p' * (p * (q' : Int)) * ((d : Int) * (n' : Int)) := by ac_rfl

theorem Neg_val {w : World} {a : Bool} {s t : Slc} {p : Int} {q k : Nat} (h : RV w a s t p q k) :
    Calls pr surdref07_Neg_id #[.agg #[.bool a, s.v, t.v]] w fun e w' => Ahead w w' ∧ RA (-p) q k e w' := by
  obtain ⟨hq, n, d, r1, r2, hd, b1, b2, hv⟩ := h
  have hsg := sign_of hq hd hv
  refine surdref07_Neg_v2 a s t w (RA (-p) q k) fun w1 x1 a1 => ?_
  refine Calls.mono (Sign_spec (r1.ahead a1)) ?_
  rintro e w2 ⟨h2, rfl⟩
  have a2 := a1.trans h2
  refine ⟨_, rfl, h2, br_intro (fun hz => ?_) (fun hz => ?_)⟩
  · intro w3 x3 a3
    refine ⟨_, _, _, rfl, hq, n, d, (r1.ahead a2).ext x3, (r2.ahead a2).ext x3, hd, b1, b2, ?_⟩
    rw [Int.neg_mul, ← hv]
    cases a <;> simp [sg, Int.neg_mul]
  · have hn : n = 0 := by
      by_cases h0 : n = 0
      · exact h0
      · rw [if_neg h0] at hz
        cases a <;> simp at hz
    intro w4 x4 a4
    refine ⟨_, _, _, rfl, hq, n, d, (r1.ahead a2).ext x4, (r2.ahead a2).ext x4, hd, b1, b2, ?_⟩
    rw [Int.neg_mul, ← hv, hn, sg_zero, Int.zero_mul]; rfl
theorem Abs_val {w : World} {a : Bool} {s t : Slc} {p : Int} {q k : Nat} (h : RV w a s t p q k) :
    Calls pr surdref07_Abs_id #[.agg #[.bool a, s.v, t.v]] w fun e w' => Ahead w w' ∧ RA (p.natAbs : Int) q k e w' := by
  obtain ⟨hq, n, d, r1, r2, hd, b1, b2, hv⟩ := h
  have hsg := sign_of hq hd hv
  refine surdref07_Abs_v2 a s t w (RA (p.natAbs : Int) q k) fun w1 x1 a1 => ⟨_, _, _, rfl, hq, n, d, r1.ext x1, r2.ext x1, hd, b1, b2, ?_⟩
  rw [← sgZ_abs, Int.mul_assoc, ← hv, ← hsg]
  by_cases h0 : n = 0
  · rw [if_pos h0, h0, sg_zero, sg_zero, Int.zero_mul, Int.zero_mul]
  · rw [if_neg h0]
    cases a <;> simp [sg, Int.neg_mul, Int.mul_neg]
/-- A small whole number from 0 on. -/
theorem Int_val {w : World} {v : Nat} (hv : v < 9223372036854775808) : Calls pr surdref07_Int_id #[.int .i64 (v : Int)] w fun e w' => Ahead w w' ∧ RA (v : Int) 1 64 e w' := by
  refine surdref07_Int_v2 (v : Int) w (RA (v : Int) 1 64) (br_false (decide_eq_false (by omega)) fun w6 x6 a6 => ?_)
  refine Calls.mono (Int_spec hv) ?_
  rintro e w7 ⟨h7, s, rfl, rs⟩
  refine ⟨_, rfl, h7, Calls.mono (Int_spec (v := 1) (by omega)) ?_⟩
  rintro e w8 ⟨h8, t, rfl, rt⟩
  refine ⟨_, rfl, h8, fun w9 x9 a9 => ⟨_, _, _, rfl, by omega, v, 1, (rs.ahead h8).ext x9, rt.ext x9, by omega, bl_le (by omega), by rw [bl_one]; omega, ?_⟩⟩
  simp [sg]

theorem mul_pos_lt {a b c : Int} (hc : 0 < c) : a * c < b * c ↔ a < b :=
  ⟨fun h => Int.lt_of_mul_lt_mul_right h (Int.le_of_lt hc), fun h => Int.mul_lt_mul_of_pos_right h hc⟩
theorem cmpZ_scale {a b c : Int} (hc : 0 < c) : cmpZ (a * c) (b * c) = cmpZ a b := by
  unfold cmpZ
  have h1 := mul_pos_lt (a := a) (b := b) hc
  have h2 : a * c = b * c ↔ a = b := ⟨fun h => Int.eq_of_mul_eq_mul_right (by omega) h, fun h => by rw [h]⟩
  simp only [h1, h2]
theorem Cmp_val {w : World} {a b : Bool} {s t u v : Slc} {p p' : Int} {q q' k k' : Nat} (h : RV w a s t p q k) (h' : RV w b u v p' q' k') (hk : k + k' ≤ 67108864) :
    Calls pr surdref07_Cmp_id #[.agg #[.bool a, s.v, t.v], .agg #[.bool b, u.v, v.v]] w fun e w' => Ahead w w' ∧ e = .returned (.int .i64 (cmpZ (p * (q' : Int)) (p' * (q : Int)))) := by
  obtain ⟨hq, n, d, r1, r2, hd, b1, b2, hv⟩ := h
  obtain ⟨hq', n', d', r1', r2', hd', b1', b2', hv'⟩ := h'
  -- by the numerators
  have key : cmpZ (p * (q' : Int)) (p' * (q : Int)) = cmpZ (sg a (n * d')) (sg b (n' * d)) := by
    have c1 : (0 : Int) < (d : Int) * (d' : Int) := Int.mul_pos (by omega) (by omega)
    have c2 : (0 : Int) < (q : Int) * (q' : Int) := Int.mul_pos (by omega) (by omega)
    rw [← cmpZ_scale c1, ← cmpZ_scale (a := sg a (n * d')) c2, sg_natMul, sg_natMul]
    congr 1
    · calc p * (q' : Int) * ((d : Int) * (d' : Int)) = (p * (d : Int)) * ((q' : Int) * (d' : Int)) := by ac_rfl
        _ = (sg a n * (q : Int)) * ((q' : Int) * (d' : Int)) := by rw [hv]
        _ = sg a n * (d' : Int) * ((q : Int) * (q' : Int)) := by ac_rfl
    · calc p' * (q : Int) * ((d : Int) * (d' : Int)) = (p' * (d' : Int)) * ((q : Int) * (d : Int)) := by ac_rfl
        _ = (sg b n' * (q' : Int)) * ((q : Int) * (d : Int)) := by rw [hv']
        _ = sg b n' * (d : Int) * ((q : Int) * (q' : Int)) := by ac_rfl
  rw [key]
  have z1 : n * d' = 0 ↔ n = 0 := ⟨fun h => (Nat.mul_eq_zero.1 h).resolve_right (by omega), fun h => by rw [h, Nat.zero_mul]⟩
  have z2 : n' * d = 0 ↔ n' = 0 := ⟨fun h => (Nat.mul_eq_zero.1 h).resolve_right (by omega), fun h => by rw [h, Nat.zero_mul]⟩
  refine surdref07_Cmp_v2 a s t b u v w (fun e w' => e = .returned (.int .i64 (cmpZ (sg a (n * d')) (sg b (n' * d))))) fun w1 x1 a1 => ?_
  refine Calls.mono (Sign_spec (r1.ahead a1)) ?_
  rintro e w2 ⟨h2, rfl⟩
  have a2 := a1.trans h2
  refine ⟨_, rfl, h2, Calls.mono (Sign_spec (r1'.ahead a2)) ?_⟩
  rintro e w3 ⟨h3, rfl⟩
  have a3 := a2.trans h3
  refine ⟨_, rfl, h3, br_intro (fun hne => ?_) (fun heq => ?_)⟩
  · intro w4 x4 a4
    refine Calls.mono (Sign_spec (r1.ahead a4)) ?_
    rintro e w5 ⟨h5, rfl⟩
    have a5 := a4.trans h5
    refine ⟨_, rfl, h5, Calls.mono (Sign_spec (r1'.ahead a5)) ?_⟩
    rintro e w6 ⟨h6, rfl⟩
    refine ⟨_, rfl, h6, br_intro (fun hlt => ?_) (fun hlt => ?_)⟩
    · have hlt' := of_decide_eq_true hlt
      have : cmpZ (sg a (n * d')) (sg b (n' * d)) = -1 := by
        generalize n * d' = P at *
        generalize n' * d = P' at *
        by_cases g1 : n = 0 <;> by_cases g2 : n' = 0 <;> cases a <;> cases b <;> simp [g1, g2, sg, cmpZ] at * <;> omega
      rw [this]
    · have hlt' := of_decide_eq_false hlt
      have hne' : (if n = 0 then 0 else if a then -1 else 1 : Int) ≠ (if n' = 0 then 0 else if b then -1 else 1 : Int) := by simpa using hne
      have : cmpZ (sg a (n * d')) (sg b (n' * d)) = 1 := by
        generalize n * d' = P at *
        generalize n' * d = P' at *
        by_cases g1 : n = 0 <;> by_cases g2 : n' = 0 <;> cases a <;> cases b <;> simp [g1, g2, sg, cmpZ] at * <;> omega
      rw [this]
  · have heq' : (if n = 0 then 0 else if a then -1 else 1 : Int) = (if n' = 0 then 0 else if b then -1 else 1 : Int) := by simpa using heq
    intro w7 x7 a7
    refine Calls.mono (Sign_spec (r1.ahead a7)) ?_
    rintro e w8 ⟨h8, rfl⟩
    have a8 := a7.trans h8
    refine ⟨_, rfl, h8, Calls.mono (mul_sp (r1.ahead a8) (r2'.ahead a8) b1 b2' (by omega) (by omega)) ?_⟩
    rintro e w9 ⟨h9, x, rfl, rx, bx⟩
    have a9 := a8.trans h9
    refine ⟨_, rfl, h9, Calls.mono (mul_sp (r1'.ahead a9) (r2.ahead a9) b1' b2 (by omega) (by omega)) ?_⟩
    rintro e w10 ⟨h10, y, rfl, ry, by'⟩
    have l1 := l32 (N := n * d') (m := 2 ^ 22) (by omega)
    have l2 := l32 (N := n' * d) (m := 2 ^ 22) (by omega)
    refine ⟨_, rfl, h10, Calls.mono (Cmp_spec (rx.ahead h10) ry (by omega) (by omega)) ?_⟩
    rintro e w11 ⟨h11, rfl⟩
    refine ⟨_, rfl, h11, ?_⟩
    have : IntKind.i64.wrap ((if n = 0 then 0 else if a then -1 else 1 : Int) * cmpI (n * d') (n' * d)) = cmpZ (sg a (n * d')) (sg b (n' * d)) := by
      generalize n * d' = P at *
      generalize n' * d = P' at *
      by_cases g1 : n = 0
      · have g2 : n' = 0 := by
          by_cases g2 : n' = 0
          · exact g2
          · rw [if_pos g1, if_neg g2] at heq'
            cases b <;> simp at heq'
        rw [if_pos g1, Int.zero_mul, z1.2 g1, z2.2 g2, sg_zero, sg_zero]
        rfl
      · have g2 : n' ≠ 0 := fun g2 => by
          rw [if_neg g1, if_pos g2] at heq'
          cases a <;> simp at heq'
        have hab : a = b := by
          rw [if_neg g1, if_neg g2] at heq'
          cases a <;> cases b <;> simp at heq' ⊢
        subst hab
        rw [if_neg g1]
        rcases Nat.lt_trichotomy P P' with g | g | g
        · have e1 : cmpI P P' = -1 := by unfold cmpI; rw [if_pos g]
          rw [e1]
          cases a
          · have : cmpZ (sg false P) (sg false P') = -1 := by simp [cmpZ, sg]; omega
            rw [this]; rfl
          · have : cmpZ (sg true P) (sg true P') = 1 := by
              unfold cmpZ; rw [if_neg (by simp [sg]; omega), if_neg (by simp [sg]; omega)]
            rw [this]; rfl
        · subst g
          have e1 : cmpI P P = 0 := by unfold cmpI; rw [if_neg (by omega), if_neg (by omega)]
          have : cmpZ (sg a P) (sg a P) = 0 := by unfold cmpZ; rw [if_neg (by omega), if_pos rfl]
          rw [e1, this, Int.mul_zero]; rfl
        · have e1 : cmpI P P' = 1 := by unfold cmpI; rw [if_neg (by omega), if_pos g]
          rw [e1]
          cases a
          · have : cmpZ (sg false P) (sg false P') = 1 := by
              unfold cmpZ; rw [if_neg (by simp [sg]; omega), if_neg (by simp [sg]; omega)]
            rw [this]; rfl
          · have : cmpZ (sg true P) (sg true P') = -1 := by
              unfold cmpZ; rw [if_pos (by simp [sg]; omega)]
            rw [this]; rfl
    rw [this]
end R7
end Go.Proofs.YtbeiopoejdkheaaGreatDoor
namespace Go.Proofs.YtbeiopoejdkheaaGreatDoor
open Go Go.RowKit Eng
set_option linter.unusedVariables false

def surdtop_WholeRounds_cut (K6 : Int → Addr → Addr → Addr → Addr → World → Prop) (K12 : Int → Addr → Addr → World → Prop) (K16 : Int → Addr → Int → Int → Addr → Addr → World → Prop) : Nat → Option ((Act → World → Prop) × (Act → World → Nat))
  | 3000006 => some (fun a_ w_ => atSz a_ 136 (atI .i64 a_ 2 fun t2 => atA a_ 3 fun t3 => atA a_ 4 fun t4 => atA a_ 7 fun t7 => atA a_ 8 fun t8 => K6 t2 t3 t4 t7 t8 w_), fun _ _ => 0)
  | 3000012 => some (fun a_ w_ => atSz a_ 136 (atI .i64 a_ 2 fun t2 => atA a_ 4 fun t4 => atA a_ 8 fun t8 => K12 t2 t4 t8 w_), fun _ _ => 0)
  | 3000016 => some (fun a_ w_ => atSz a_ 136 (atI .i64 a_ 2 fun t2 => atA a_ 8 fun t8 => atI .i64 a_ 15 fun t15 => atI .i64 a_ 17 fun t17 => atA a_ 18 fun t18 => atA a_ 19 fun t19 => K16 t2 t8 t15 t17 t18 t19 w_), fun _ _ => 0)
  | _ => none

set_option maxRecDepth 100000 in
/-- surd/surdtop.WholeRounds: function 3. -/
theorem surdtop_WholeRounds_vc (a0_0 : Bool) (a0_1 : Slc) (a0_2 : Int) (a1_0 : Bool) (a1_1 : Slc) (a1_2 : Int) (a2 : Int) (w : World) (R : Ending → World → Prop)
    (K6 : Int → Addr → Addr → Addr → Addr → World → Prop) (K12 : Int → Addr → Addr → World → Prop) (K16 : Int → Addr → Int → Int → Addr → Addr → World → Prop)
    (h : newC w #[Value.bool a0_0, a0_1.v, Value.int .i64 a0_2] 27 fun ad1 w1 =>
    newC w1 #[Value.bool a1_0, a1_1.v, Value.int .i64 a1_2] 27 fun ad2 w2 =>
    ldS (ad1.add 1) w2 fun s1 =>
    ldS (ad2.add 1) w2 fun s2 =>
    newC w2 #[s1.v, s2.v] 22 fun ad3 w3 =>
    Calls Tryz.prog 5 #[Value.int .i64 4096, (⟨some ad3, 2, 2⟩ : Slc).v] w3 fun e1 w4 =>
    ∃ b1 : Bool, e1 = .returned (Value.bool b1) ∧
    (br (!b1)
     (Calls Tryz.prog 6 #[] w4 fun e2 w5 =>
      ∃ b2 : Bool, e2 = .returned (Value.bool b2) ∧
      (R (.returned (Value.bool b2)) w5))
     (∃ V1 : Nat → Nat → Prop, Out (V1 0) ad1 (ldB ad1 w4.drew fun b3 =>
       ldS (ad1.add 1) w4.drew fun s3 =>
       ldI .i64 (ad1.add 2) w4.drew fun x1 =>
       Out (V1 2) ad2 (ldB ad2 w4.drew fun b4 =>
        ldS (ad2.add 1) w4.drew fun s4 =>
        ldI .i64 (ad2.add 2) w4.drew fun x2 =>
        Calls Tryz.prog 7 #[Value.agg #[Value.bool b3, s3.v, Value.int .i64 x1]] w4.drew fun e3 w6 =>
        ∃ b5 : Bool, ∃ s5 : Slc, ∃ x3 : Int, e3 = .returned (Value.agg #[Value.bool b5, s5.v, Value.int .i64 x3]) ∧
        (Bar (V1 2) w4.drew w6 ∧
         (Calls Tryz.prog 7 #[Value.agg #[Value.bool b4, s4.v, Value.int .i64 x2]] w6 fun e4 w7 =>
          ∃ b6 : Bool, ∃ s6 : Slc, ∃ x4 : Int, e4 = .returned (Value.agg #[Value.bool b6, s6.v, Value.int .i64 x4]) ∧
          (Calls Tryz.prog 8 #[Value.int .i64 a2, Value.int .i64 (-150), Value.int .i64 50] w7 fun e5 w8 =>
           ∃ x5 : Int, e5 = .returned (Value.int .i64 x5) ∧
           (stC ad1 (Value.bool b5) w8 fun w9 =>
            stC (ad1.add 1) s5.v w9 fun w10 =>
            stC (ad1.add 2) (Value.int .i64 x3) w10 fun w11 =>
            stC ad2 (Value.bool b6) w11 fun w12 =>
            stC (ad2.add 1) s6.v w12 fun w13 =>
            stC (ad2.add 2) (Value.int .i64 x4) w13 fun w14 =>
            ∃ V2 : Nat → Nat → Prop, Out (V2 0) ad1 (ldB ad1 w14.drew fun b7 =>
             ldS (ad1.add 1) w14.drew fun s7 =>
             ldI .i64 (ad1.add 2) w14.drew fun x6 =>
             Out (V2 2) ad2 (ldB ad2 w14.drew fun b8 =>
              ldS (ad2.add 1) w14.drew fun s8 =>
              ldI .i64 (ad2.add 2) w14.drew fun x7 =>
              (Calls Tryz.prog 9 #[Value.agg #[Value.bool b7, s7.v, Value.int .i64 x6]] w14.drew fun e6 w15 =>
               ∃ b9 : Bool, ∃ s9 : Slc, ∃ s10 : Slc, e6 = .returned (Value.agg #[Value.bool b9, s9.v, s10.v]) ∧
               (Bar (V2 2) w14.drew w15 ∧
                ((Calls Tryz.prog 9 #[Value.agg #[Value.bool b8, s8.v, Value.int .i64 x7]] w15 fun e7 w16 =>
                  ∃ b10 : Bool, ∃ s11 : Slc, ∃ s12 : Slc, e7 = .returned (Value.agg #[Value.bool b10, s11.v, s12.v]) ∧
                  ((newC w16 #[Value.bool false, (⟨none, 0, 0⟩ : Slc).v, (⟨none, 0, 0⟩ : Slc).v] 34 fun ad4 w17 =>
                    Bar (V2 0) w16 w17 ∧
                    (Bar (V2 2) w16 w17 ∧
                     (newC w17 #[Value.bool false, (⟨none, 0, 0⟩ : Slc).v, (⟨none, 0, 0⟩ : Slc).v] 34 fun ad5 w18 =>
                      Bar (V2 0) w17 w18 ∧
                      (Bar (V2 2) w17 w18 ∧
                       (stC ad4 (Value.bool b9) w18 fun w19 =>
                        stC (ad4.add 1) s9.v w19 fun w20 =>
                        stC (ad4.add 2) s10.v w20 fun w21 =>
                        stC ad5 (Value.bool b10) w21 fun w22 =>
                        stC (ad5.add 1) s11.v w22 fun w23 =>
                        stC (ad5.add 2) s12.v w23 fun w24 =>
                        K6 x5 ad1 ad2 ad4 ad5 w24))))) ∧
                   (newC w16 #[Value.bool false, (⟨none, 0, 0⟩ : Slc).v, (⟨none, 0, 0⟩ : Slc).v] 34 fun ad30 w179 =>
                    Bar (V2 0) w16 w179 ∧
                    (Bar (V2 2) w16 w179 ∧
                     (newC w179 #[Value.bool false, (⟨none, 0, 0⟩ : Slc).v, (⟨none, 0, 0⟩ : Slc).v] 34 fun ad31 w180 =>
                      Bar (V2 0) w179 w180 ∧
                      (Bar (V2 2) w179 w180 ∧
                       (stC ad31 (Value.bool b9) w180 fun w181 =>
                        stC (ad31.add 1) s9.v w181 fun w182 =>
                        stC (ad31.add 2) s10.v w182 fun w183 =>
                        stC ad30 (Value.bool b10) w183 fun w184 =>
                        stC (ad30.add 1) s11.v w184 fun w185 =>
                        stC (ad30.add 2) s12.v w185 fun w186 =>
                        K6 x5 ad1 ad2 ad31 ad30 w186))))))) ∧
                 ((newC w15 #[Value.bool false, (⟨none, 0, 0⟩ : Slc).v, (⟨none, 0, 0⟩ : Slc).v] 34 fun ad32 w187 =>
                   Bar (V2 0) w15 w187 ∧
                   (Bar (V2 2) w15 w187 ∧
                    ((Calls Tryz.prog 9 #[Value.agg #[Value.bool b8, s8.v, Value.int .i64 x7]] w187 fun e44 w188 =>
                      ∃ b67 : Bool, ∃ s107 : Slc, ∃ s108 : Slc, e44 = .returned (Value.agg #[Value.bool b67, s107.v, s108.v]) ∧
                      (newC w188 #[Value.bool false, (⟨none, 0, 0⟩ : Slc).v, (⟨none, 0, 0⟩ : Slc).v] 34 fun ad33 w189 =>
                       Bar (V2 0) w188 w189 ∧
                       (Bar (V2 2) w188 w189 ∧
                        (stC ad32 (Value.bool b9) w189 fun w190 =>
                         stC (ad32.add 1) s9.v w190 fun w191 =>
                         stC (ad32.add 2) s10.v w191 fun w192 =>
                         stC ad33 (Value.bool b67) w192 fun w193 =>
                         stC (ad33.add 1) s107.v w193 fun w194 =>
                         stC (ad33.add 2) s108.v w194 fun w195 =>
                         K6 x5 ad1 ad2 ad32 ad33 w195)))) ∧
                     (newC w187 #[Value.bool false, (⟨none, 0, 0⟩ : Slc).v, (⟨none, 0, 0⟩ : Slc).v] 34 fun ad34 w196 =>
                      Bar (V2 0) w187 w196 ∧
                      (Bar (V2 2) w187 w196 ∧
                       (Calls Tryz.prog 9 #[Value.agg #[Value.bool b8, s8.v, Value.int .i64 x7]] w196 fun e45 w197 =>
                        ∃ b68 : Bool, ∃ s109 : Slc, ∃ s110 : Slc, e45 = .returned (Value.agg #[Value.bool b68, s109.v, s110.v]) ∧
                        (stC ad32 (Value.bool b9) w197 fun w198 =>
                         stC (ad32.add 1) s9.v w198 fun w199 =>
                         stC (ad32.add 2) s10.v w199 fun w200 =>
                         stC ad34 (Value.bool b68) w200 fun w201 =>
                         stC (ad34.add 1) s109.v w201 fun w202 =>
                         stC (ad34.add 2) s110.v w202 fun w203 =>
                         K6 x5 ad1 ad2 ad32 ad34 w203))))))) ∧
                  (newC w15 #[Value.bool false, (⟨none, 0, 0⟩ : Slc).v, (⟨none, 0, 0⟩ : Slc).v] 34 fun ad35 w204 =>
                   Bar (V2 0) w15 w204 ∧
                   (Bar (V2 2) w15 w204 ∧
                    ((Calls Tryz.prog 9 #[Value.agg #[Value.bool b8, s8.v, Value.int .i64 x7]] w204 fun e46 w205 =>
                      ∃ b69 : Bool, ∃ s111 : Slc, ∃ s112 : Slc, e46 = .returned (Value.agg #[Value.bool b69, s111.v, s112.v]) ∧
                      (newC w205 #[Value.bool false, (⟨none, 0, 0⟩ : Slc).v, (⟨none, 0, 0⟩ : Slc).v] 34 fun ad36 w206 =>
                       Bar (V2 0) w205 w206 ∧
                       (Bar (V2 2) w205 w206 ∧
                        (stC ad36 (Value.bool b9) w206 fun w207 =>
                         stC (ad36.add 1) s9.v w207 fun w208 =>
                         stC (ad36.add 2) s10.v w208 fun w209 =>
                         stC ad35 (Value.bool b69) w209 fun w210 =>
                         stC (ad35.add 1) s111.v w210 fun w211 =>
                         stC (ad35.add 2) s112.v w211 fun w212 =>
                         K6 x5 ad1 ad2 ad36 ad35 w212)))) ∧
                     (newC w204 #[Value.bool false, (⟨none, 0, 0⟩ : Slc).v, (⟨none, 0, 0⟩ : Slc).v] 34 fun ad37 w213 =>
                      Bar (V2 0) w204 w213 ∧
                      (Bar (V2 2) w204 w213 ∧
                       (Calls Tryz.prog 9 #[Value.agg #[Value.bool b8, s8.v, Value.int .i64 x7]] w213 fun e47 w214 =>
                        ∃ b70 : Bool, ∃ s113 : Slc, ∃ s114 : Slc, e47 = .returned (Value.agg #[Value.bool b70, s113.v, s114.v]) ∧
                        (stC ad37 (Value.bool b9) w214 fun w215 =>
                         stC (ad37.add 1) s9.v w215 fun w216 =>
                         stC (ad37.add 2) s10.v w216 fun w217 =>
                         stC ad35 (Value.bool b70) w217 fun w218 =>
                         stC (ad35.add 1) s113.v w218 fun w219 =>
                         stC (ad35.add 2) s114.v w219 fun w220 =>
                         K6 x5 ad1 ad2 ad37 ad35 w220))))))))))) ∧
              ((newC w14.drew #[Value.bool false, (⟨none, 0, 0⟩ : Slc).v, (⟨none, 0, 0⟩ : Slc).v] 34 fun ad38 w221 =>
                Bar (V2 0) w14.drew w221 ∧
                (Bar (V2 2) w14.drew w221 ∧
                 ((Calls Tryz.prog 9 #[Value.agg #[Value.bool b7, s7.v, Value.int .i64 x6]] w221 fun e48 w222 =>
                   ∃ b71 : Bool, ∃ s115 : Slc, ∃ s116 : Slc, e48 = .returned (Value.agg #[Value.bool b71, s115.v, s116.v]) ∧
                   (Bar (V2 2) w221 w222 ∧
                    ((Calls Tryz.prog 9 #[Value.agg #[Value.bool b8, s8.v, Value.int .i64 x7]] w222 fun e49 w223 =>
                      ∃ b72 : Bool, ∃ s117 : Slc, ∃ s118 : Slc, e49 = .returned (Value.agg #[Value.bool b72, s117.v, s118.v]) ∧
                      (newC w223 #[Value.bool false, (⟨none, 0, 0⟩ : Slc).v, (⟨none, 0, 0⟩ : Slc).v] 34 fun ad39 w224 =>
                       Bar (V2 0) w223 w224 ∧
                       (Bar (V2 2) w223 w224 ∧
                        (stC ad38 (Value.bool b71) w224 fun w225 =>
                         stC (ad38.add 1) s115.v w225 fun w226 =>
                         stC (ad38.add 2) s116.v w226 fun w227 =>
                         stC ad39 (Value.bool b72) w227 fun w228 =>
                         stC (ad39.add 1) s117.v w228 fun w229 =>
                         stC (ad39.add 2) s118.v w229 fun w230 =>
                         K6 x5 ad1 ad2 ad38 ad39 w230)))) ∧
                     (newC w222 #[Value.bool false, (⟨none, 0, 0⟩ : Slc).v, (⟨none, 0, 0⟩ : Slc).v] 34 fun ad40 w231 =>
                      Bar (V2 0) w222 w231 ∧
                      (Bar (V2 2) w222 w231 ∧
                       (Calls Tryz.prog 9 #[Value.agg #[Value.bool b8, s8.v, Value.int .i64 x7]] w231 fun e50 w232 =>
                        ∃ b73 : Bool, ∃ s119 : Slc, ∃ s120 : Slc, e50 = .returned (Value.agg #[Value.bool b73, s119.v, s120.v]) ∧
                        (stC ad38 (Value.bool b71) w232 fun w233 =>
                         stC (ad38.add 1) s115.v w233 fun w234 =>
                         stC (ad38.add 2) s116.v w234 fun w235 =>
                         stC ad40 (Value.bool b73) w235 fun w236 =>
                         stC (ad40.add 1) s119.v w236 fun w237 =>
                         stC (ad40.add 2) s120.v w237 fun w238 =>
                         K6 x5 ad1 ad2 ad38 ad40 w238))))))) ∧
                  (newC w221 #[Value.bool false, (⟨none, 0, 0⟩ : Slc).v, (⟨none, 0, 0⟩ : Slc).v] 34 fun ad41 w239 =>
                   Bar (V2 0) w221 w239 ∧
                   (Bar (V2 2) w221 w239 ∧
                    (Calls Tryz.prog 9 #[Value.agg #[Value.bool b7, s7.v, Value.int .i64 x6]] w239 fun e51 w240 =>
                     ∃ b74 : Bool, ∃ s121 : Slc, ∃ s122 : Slc, e51 = .returned (Value.agg #[Value.bool b74, s121.v, s122.v]) ∧
                     (Bar (V2 2) w239 w240 ∧
                      (Calls Tryz.prog 9 #[Value.agg #[Value.bool b8, s8.v, Value.int .i64 x7]] w240 fun e52 w241 =>
                       ∃ b75 : Bool, ∃ s123 : Slc, ∃ s124 : Slc, e52 = .returned (Value.agg #[Value.bool b75, s123.v, s124.v]) ∧
                       (stC ad38 (Value.bool b74) w241 fun w242 =>
                        stC (ad38.add 1) s121.v w242 fun w243 =>
                        stC (ad38.add 2) s122.v w243 fun w244 =>
                        stC ad41 (Value.bool b75) w244 fun w245 =>
                        stC (ad41.add 1) s123.v w245 fun w246 =>
                        stC (ad41.add 2) s124.v w246 fun w247 =>
                        K6 x5 ad1 ad2 ad38 ad41 w247))))))))) ∧
               (newC w14.drew #[Value.bool false, (⟨none, 0, 0⟩ : Slc).v, (⟨none, 0, 0⟩ : Slc).v] 34 fun ad42 w248 =>
                Bar (V2 0) w14.drew w248 ∧
                (Bar (V2 2) w14.drew w248 ∧
                 ((Calls Tryz.prog 9 #[Value.agg #[Value.bool b7, s7.v, Value.int .i64 x6]] w248 fun e53 w249 =>
                   ∃ b76 : Bool, ∃ s125 : Slc, ∃ s126 : Slc, e53 = .returned (Value.agg #[Value.bool b76, s125.v, s126.v]) ∧
                   (Bar (V2 2) w248 w249 ∧
                    ((Calls Tryz.prog 9 #[Value.agg #[Value.bool b8, s8.v, Value.int .i64 x7]] w249 fun e54 w250 =>
                      ∃ b77 : Bool, ∃ s127 : Slc, ∃ s128 : Slc, e54 = .returned (Value.agg #[Value.bool b77, s127.v, s128.v]) ∧
                      (newC w250 #[Value.bool false, (⟨none, 0, 0⟩ : Slc).v, (⟨none, 0, 0⟩ : Slc).v] 34 fun ad43 w251 =>
                       Bar (V2 0) w250 w251 ∧
                       (Bar (V2 2) w250 w251 ∧
                        (stC ad43 (Value.bool b76) w251 fun w252 =>
                         stC (ad43.add 1) s125.v w252 fun w253 =>
                         stC (ad43.add 2) s126.v w253 fun w254 =>
                         stC ad42 (Value.bool b77) w254 fun w255 =>
                         stC (ad42.add 1) s127.v w255 fun w256 =>
                         stC (ad42.add 2) s128.v w256 fun w257 =>
                         K6 x5 ad1 ad2 ad43 ad42 w257)))) ∧
                     (newC w249 #[Value.bool false, (⟨none, 0, 0⟩ : Slc).v, (⟨none, 0, 0⟩ : Slc).v] 34 fun ad44 w258 =>
                      Bar (V2 0) w249 w258 ∧
                      (Bar (V2 2) w249 w258 ∧
                       (Calls Tryz.prog 9 #[Value.agg #[Value.bool b8, s8.v, Value.int .i64 x7]] w258 fun e55 w259 =>
                        ∃ b78 : Bool, ∃ s129 : Slc, ∃ s130 : Slc, e55 = .returned (Value.agg #[Value.bool b78, s129.v, s130.v]) ∧
                        (stC ad44 (Value.bool b76) w259 fun w260 =>
                         stC (ad44.add 1) s125.v w260 fun w261 =>
                         stC (ad44.add 2) s126.v w261 fun w262 =>
                         stC ad42 (Value.bool b78) w262 fun w263 =>
                         stC (ad42.add 1) s129.v w263 fun w264 =>
                         stC (ad42.add 2) s130.v w264 fun w265 =>
                         K6 x5 ad1 ad2 ad44 ad42 w265))))))) ∧
                  (newC w248 #[Value.bool false, (⟨none, 0, 0⟩ : Slc).v, (⟨none, 0, 0⟩ : Slc).v] 34 fun ad45 w266 =>
                   Bar (V2 0) w248 w266 ∧
                   (Bar (V2 2) w248 w266 ∧
                    (Calls Tryz.prog 9 #[Value.agg #[Value.bool b7, s7.v, Value.int .i64 x6]] w266 fun e56 w267 =>
                     ∃ b79 : Bool, ∃ s131 : Slc, ∃ s132 : Slc, e56 = .returned (Value.agg #[Value.bool b79, s131.v, s132.v]) ∧
                     (Bar (V2 2) w266 w267 ∧
                      (Calls Tryz.prog 9 #[Value.agg #[Value.bool b8, s8.v, Value.int .i64 x7]] w267 fun e57 w268 =>
                       ∃ b80 : Bool, ∃ s133 : Slc, ∃ s134 : Slc, e57 = .returned (Value.agg #[Value.bool b80, s133.v, s134.v]) ∧
                       (stC ad45 (Value.bool b79) w268 fun w269 =>
                        stC (ad45.add 1) s131.v w269 fun w270 =>
                        stC (ad45.add 2) s132.v w270 fun w271 =>
                        stC ad42 (Value.bool b80) w271 fun w272 =>
                        stC (ad42.add 1) s133.v w272 fun w273 =>
                        stC (ad42.add 2) s134.v w273 fun w274 =>
                        K6 x5 ad1 ad2 ad45 ad42 w274)))))))))))))))))))))
    (h3000006 : ∀ (t2 : Int) (t3 : Addr) (t4 : Addr) (t7 : Addr) (t8 : Addr) (w_ : World), K6 t2 t3 t4 t7 t8 w_ → 
    ldB t8 w_ fun b11 =>
    ldS (t8.add 1) w_ fun s13 =>
    ldS (t8.add 2) w_ fun s14 =>
    Calls Tryz.prog 10 #[Value.agg #[Value.bool b11, s13.v, s14.v]] w_ fun e8 w25 =>
    ∃ x8 : Int, e8 = .returned (Value.int .i64 x8) ∧
    (br (x8 != 0)
     (ldB t3 w25 fun b12 =>
      ldS (t3.add 1) w25 fun s15 =>
      ldI .i64 (t3.add 2) w25 fun x9 =>
      ldB t4 w25 fun b13 =>
      ldS (t4.add 1) w25 fun s16 =>
      ldI .i64 (t4.add 2) w25 fun x10 =>
      Calls Tryz.prog 11 #[Value.agg #[Value.bool b12, s15.v, Value.int .i64 x9], Value.agg #[Value.bool b13, s16.v, Value.int .i64 x10], Value.int .i64 t2, Value.int .i64 0] w25 fun e9 w26 =>
      ∃ b14 : Bool, ∃ s17 : Slc, ∃ x11 : Int, ∃ x12 : Int, e9 = .returned (Value.tuple #[Value.agg #[Value.bool b14, s17.v, Value.int .i64 x11], Value.int .i64 x12]) ∧
      (newC w26 #[Value.bool false, (⟨none, 0, 0⟩ : Slc).v, Value.int .i64 0] 27 fun ad6 w27 =>
       stC ad6 (Value.bool b14) w27 fun w28 =>
       stC (ad6.add 1) s17.v w28 fun w29 =>
       stC (ad6.add 2) (Value.int .i64 x11) w29 fun w30 =>
       ldB t3 w30 fun b15 =>
       ldS (t3.add 1) w30 fun s18 =>
       ldI .i64 (t3.add 2) w30 fun x13 =>
       ldB t4 w30 fun b16 =>
       ldS (t4.add 1) w30 fun s19 =>
       ldI .i64 (t4.add 2) w30 fun x14 =>
       Calls Tryz.prog 11 #[Value.agg #[Value.bool b15, s18.v, Value.int .i64 x13], Value.agg #[Value.bool b16, s19.v, Value.int .i64 x14], Value.int .i64 t2, Value.int .i64 1] w30 fun e10 w31 =>
       ∃ b17 : Bool, ∃ s20 : Slc, ∃ x15 : Int, ∃ x16 : Int, e10 = .returned (Value.tuple #[Value.agg #[Value.bool b17, s20.v, Value.int .i64 x15], Value.int .i64 x16]) ∧
       (newC w31 #[Value.bool false, (⟨none, 0, 0⟩ : Slc).v, Value.int .i64 0] 27 fun ad7 w32 =>
        stC ad7 (Value.bool b17) w32 fun w33 =>
        stC (ad7.add 1) s20.v w33 fun w34 =>
        stC (ad7.add 2) (Value.int .i64 x15) w34 fun w35 =>
        ldB t7 w35 fun b18 =>
        ldS (t7.add 1) w35 fun s21 =>
        ldS (t7.add 2) w35 fun s22 =>
        ldB t8 w35 fun b19 =>
        ldS (t8.add 1) w35 fun s23 =>
        ldS (t8.add 2) w35 fun s24 =>
        Calls Tryz.prog 12 #[Value.agg #[Value.bool b18, s21.v, s22.v], Value.agg #[Value.bool b19, s23.v, s24.v]] w35 fun e11 w36 =>
        ∃ b20 : Bool, ∃ s25 : Slc, ∃ s26 : Slc, e11 = .returned (Value.agg #[Value.bool b20, s25.v, s26.v]) ∧
        (newC w36 #[Value.bool false, (⟨none, 0, 0⟩ : Slc).v, (⟨none, 0, 0⟩ : Slc).v] 34 fun ad8 w37 =>
         stC ad8 (Value.bool b20) w37 fun w38 =>
         stC (ad8.add 1) s25.v w38 fun w39 =>
         stC (ad8.add 2) s26.v w39 fun w40 =>
         br (x12 != 0)
         (R (.returned (Value.bool false)) w40.drew)
         (br (x16 != 0)
          (R (.returned (Value.bool false)) w40.drew)
          (ldB ad6 w40.drew fun b21 =>
           ldS (ad6.add 1) w40.drew fun s27 =>
           ldI .i64 (ad6.add 2) w40.drew fun x17 =>
           ldB ad8 w40.drew fun b22 =>
           ldS (ad8.add 1) w40.drew fun s28 =>
           ldS (ad8.add 2) w40.drew fun s29 =>
           ldB ad7 w40.drew fun b23 =>
           ldS (ad7.add 1) w40.drew fun s30 =>
           ldI .i64 (ad7.add 2) w40.drew fun x18 =>
           Calls Tryz.prog 9 #[Value.agg #[Value.bool b21, s27.v, Value.int .i64 x17]] w40.drew fun e12 w41 =>
           ∃ b24 : Bool, ∃ s31 : Slc, ∃ s32 : Slc, e12 = .returned (Value.agg #[Value.bool b24, s31.v, s32.v]) ∧
           (Ahead w40.drew w41 ∧
            (Calls Tryz.prog 9 #[Value.agg #[Value.bool b23, s30.v, Value.int .i64 x18]] w41 fun e13 w42 =>
             ∃ b25 : Bool, ∃ s33 : Slc, ∃ s34 : Slc, e13 = .returned (Value.agg #[Value.bool b25, s33.v, s34.v]) ∧
             (Ahead w41 w42 ∧
              (Calls Tryz.prog 13 #[Value.agg #[Value.bool b24, s31.v, s32.v], Value.agg #[Value.bool b22, s28.v, s29.v], Value.agg #[Value.bool b25, s33.v, s34.v], Value.int .i64 t2] w42 fun e14 w43 =>
               ∃ b26 : Bool, e14 = .returned (Value.bool b26) ∧
               (Ahead w42 w43 ∧
                (br (!b26)
                 (R (.returned (Value.bool false)) w43)
                 (K12 t2 t4 t8 w43)))))))))))))
     (K12 t2 t4 t8 w25)))
    (h3000012 : ∀ (t2 : Int) (t4 : Addr) (t8 : Addr) (w_ : World), K12 t2 t4 t8 w_ → 
    stC t4 (Value.bool false) w_ fun w44 =>
    ldB t4 w44 fun b27 =>
    ldS (t4.add 1) w44 fun s35 =>
    ldI .i64 (t4.add 2) w44 fun x19 =>
    Calls Tryz.prog 14 #[Value.agg #[Value.bool b27, s35.v, Value.int .i64 x19], Value.int .i64 t2, Value.int .i64 0] w44 fun e15 w45 =>
    ∃ b28 : Bool, ∃ s36 : Slc, ∃ x20 : Int, ∃ x21 : Int, e15 = .returned (Value.tuple #[Value.agg #[Value.bool b28, s36.v, Value.int .i64 x20], Value.int .i64 x21]) ∧
    (newC w45 #[Value.bool false, (⟨none, 0, 0⟩ : Slc).v, Value.int .i64 0] 27 fun ad9 w46 =>
     stC ad9 (Value.bool b28) w46 fun w47 =>
     stC (ad9.add 1) s36.v w47 fun w48 =>
     stC (ad9.add 2) (Value.int .i64 x20) w48 fun w49 =>
     ldB t4 w49 fun b29 =>
     ldS (t4.add 1) w49 fun s37 =>
     ldI .i64 (t4.add 2) w49 fun x22 =>
     Calls Tryz.prog 14 #[Value.agg #[Value.bool b29, s37.v, Value.int .i64 x22], Value.int .i64 t2, Value.int .i64 1] w49 fun e16 w50 =>
     ∃ b30 : Bool, ∃ s38 : Slc, ∃ x23 : Int, ∃ x24 : Int, e16 = .returned (Value.tuple #[Value.agg #[Value.bool b30, s38.v, Value.int .i64 x23], Value.int .i64 x24]) ∧
     (newC w50 #[Value.bool false, (⟨none, 0, 0⟩ : Slc).v, Value.int .i64 0] 27 fun ad10 w51 =>
      stC ad10 (Value.bool b30) w51 fun w52 =>
      stC (ad10.add 1) s38.v w52 fun w53 =>
      stC (ad10.add 2) (Value.int .i64 x23) w53 fun w54 =>
      ∃ V3 : Nat → Nat → Prop, Out (V3 0) ad9 (ldB ad9 w54.drew fun b31 =>
       ldS (ad9.add 1) w54.drew fun s39 =>
       ldI .i64 (ad9.add 2) w54.drew fun x25 =>
       Out (V3 2) ad10 (ldB ad10 w54.drew fun b32 =>
        ldS (ad10.add 1) w54.drew fun s40 =>
        ldI .i64 (ad10.add 2) w54.drew fun x26 =>
        (Calls Tryz.prog 9 #[Value.agg #[Value.bool b31, s39.v, Value.int .i64 x25]] w54.drew fun e17 w55 =>
         ∃ b33 : Bool, ∃ s41 : Slc, ∃ s42 : Slc, e17 = .returned (Value.agg #[Value.bool b33, s41.v, s42.v]) ∧
         (Bar (V3 2) w54.drew w55 ∧
          ((Calls Tryz.prog 9 #[Value.agg #[Value.bool b32, s40.v, Value.int .i64 x26]] w55 fun e18 w56 =>
            ∃ b34 : Bool, ∃ s43 : Slc, ∃ s44 : Slc, e18 = .returned (Value.agg #[Value.bool b34, s43.v, s44.v]) ∧
            ((newC w56 #[Value.bool false, (⟨none, 0, 0⟩ : Slc).v, (⟨none, 0, 0⟩ : Slc).v] 34 fun ad11 w57 =>
              Bar (V3 0) w56 w57 ∧
              (Bar (V3 2) w56 w57 ∧
               (newC w57 #[Value.bool false, (⟨none, 0, 0⟩ : Slc).v, (⟨none, 0, 0⟩ : Slc).v] 34 fun ad12 w58 =>
                Bar (V3 0) w57 w58 ∧
                (Bar (V3 2) w57 w58 ∧
                 (stC ad11 (Value.bool b33) w58 fun w59 =>
                  stC (ad11.add 1) s41.v w59 fun w60 =>
                  stC (ad11.add 2) s42.v w60 fun w61 =>
                  stC ad12 (Value.bool b34) w61 fun w62 =>
                  stC (ad12.add 1) s43.v w62 fun w63 =>
                  stC (ad12.add 2) s44.v w63 fun w64 =>
                  K16 t2 t8 x21 x24 ad11 ad12 w64))))) ∧
             (newC w56 #[Value.bool false, (⟨none, 0, 0⟩ : Slc).v, (⟨none, 0, 0⟩ : Slc).v] 34 fun ad14 w83 =>
              Bar (V3 0) w56 w83 ∧
              (Bar (V3 2) w56 w83 ∧
               (newC w83 #[Value.bool false, (⟨none, 0, 0⟩ : Slc).v, (⟨none, 0, 0⟩ : Slc).v] 34 fun ad15 w84 =>
                Bar (V3 0) w83 w84 ∧
                (Bar (V3 2) w83 w84 ∧
                 (stC ad15 (Value.bool b33) w84 fun w85 =>
                  stC (ad15.add 1) s41.v w85 fun w86 =>
                  stC (ad15.add 2) s42.v w86 fun w87 =>
                  stC ad14 (Value.bool b34) w87 fun w88 =>
                  stC (ad14.add 1) s43.v w88 fun w89 =>
                  stC (ad14.add 2) s44.v w89 fun w90 =>
                  K16 t2 t8 x21 x24 ad15 ad14 w90))))))) ∧
           ((newC w55 #[Value.bool false, (⟨none, 0, 0⟩ : Slc).v, (⟨none, 0, 0⟩ : Slc).v] 34 fun ad16 w91 =>
             Bar (V3 0) w55 w91 ∧
             (Bar (V3 2) w55 w91 ∧
              ((Calls Tryz.prog 9 #[Value.agg #[Value.bool b32, s40.v, Value.int .i64 x26]] w91 fun e30 w92 =>
                ∃ b53 : Bool, ∃ s79 : Slc, ∃ s80 : Slc, e30 = .returned (Value.agg #[Value.bool b53, s79.v, s80.v]) ∧
                (newC w92 #[Value.bool false, (⟨none, 0, 0⟩ : Slc).v, (⟨none, 0, 0⟩ : Slc).v] 34 fun ad17 w93 =>
                 Bar (V3 0) w92 w93 ∧
                 (Bar (V3 2) w92 w93 ∧
                  (stC ad16 (Value.bool b33) w93 fun w94 =>
                   stC (ad16.add 1) s41.v w94 fun w95 =>
                   stC (ad16.add 2) s42.v w95 fun w96 =>
                   stC ad17 (Value.bool b53) w96 fun w97 =>
                   stC (ad17.add 1) s79.v w97 fun w98 =>
                   stC (ad17.add 2) s80.v w98 fun w99 =>
                   K16 t2 t8 x21 x24 ad16 ad17 w99)))) ∧
               (newC w91 #[Value.bool false, (⟨none, 0, 0⟩ : Slc).v, (⟨none, 0, 0⟩ : Slc).v] 34 fun ad18 w100 =>
                Bar (V3 0) w91 w100 ∧
                (Bar (V3 2) w91 w100 ∧
                 (Calls Tryz.prog 9 #[Value.agg #[Value.bool b32, s40.v, Value.int .i64 x26]] w100 fun e31 w101 =>
                  ∃ b54 : Bool, ∃ s81 : Slc, ∃ s82 : Slc, e31 = .returned (Value.agg #[Value.bool b54, s81.v, s82.v]) ∧
                  (stC ad16 (Value.bool b33) w101 fun w102 =>
                   stC (ad16.add 1) s41.v w102 fun w103 =>
                   stC (ad16.add 2) s42.v w103 fun w104 =>
                   stC ad18 (Value.bool b54) w104 fun w105 =>
                   stC (ad18.add 1) s81.v w105 fun w106 =>
                   stC (ad18.add 2) s82.v w106 fun w107 =>
                   K16 t2 t8 x21 x24 ad16 ad18 w107))))))) ∧
            (newC w55 #[Value.bool false, (⟨none, 0, 0⟩ : Slc).v, (⟨none, 0, 0⟩ : Slc).v] 34 fun ad19 w108 =>
             Bar (V3 0) w55 w108 ∧
             (Bar (V3 2) w55 w108 ∧
              ((Calls Tryz.prog 9 #[Value.agg #[Value.bool b32, s40.v, Value.int .i64 x26]] w108 fun e32 w109 =>
                ∃ b55 : Bool, ∃ s83 : Slc, ∃ s84 : Slc, e32 = .returned (Value.agg #[Value.bool b55, s83.v, s84.v]) ∧
                (newC w109 #[Value.bool false, (⟨none, 0, 0⟩ : Slc).v, (⟨none, 0, 0⟩ : Slc).v] 34 fun ad20 w110 =>
                 Bar (V3 0) w109 w110 ∧
                 (Bar (V3 2) w109 w110 ∧
                  (stC ad20 (Value.bool b33) w110 fun w111 =>
                   stC (ad20.add 1) s41.v w111 fun w112 =>
                   stC (ad20.add 2) s42.v w112 fun w113 =>
                   stC ad19 (Value.bool b55) w113 fun w114 =>
                   stC (ad19.add 1) s83.v w114 fun w115 =>
                   stC (ad19.add 2) s84.v w115 fun w116 =>
                   K16 t2 t8 x21 x24 ad20 ad19 w116)))) ∧
               (newC w108 #[Value.bool false, (⟨none, 0, 0⟩ : Slc).v, (⟨none, 0, 0⟩ : Slc).v] 34 fun ad21 w117 =>
                Bar (V3 0) w108 w117 ∧
                (Bar (V3 2) w108 w117 ∧
                 (Calls Tryz.prog 9 #[Value.agg #[Value.bool b32, s40.v, Value.int .i64 x26]] w117 fun e33 w118 =>
                  ∃ b56 : Bool, ∃ s85 : Slc, ∃ s86 : Slc, e33 = .returned (Value.agg #[Value.bool b56, s85.v, s86.v]) ∧
                  (stC ad21 (Value.bool b33) w118 fun w119 =>
                   stC (ad21.add 1) s41.v w119 fun w120 =>
                   stC (ad21.add 2) s42.v w120 fun w121 =>
                   stC ad19 (Value.bool b56) w121 fun w122 =>
                   stC (ad19.add 1) s85.v w122 fun w123 =>
                   stC (ad19.add 2) s86.v w123 fun w124 =>
                   K16 t2 t8 x21 x24 ad21 ad19 w124))))))))))) ∧
        ((newC w54.drew #[Value.bool false, (⟨none, 0, 0⟩ : Slc).v, (⟨none, 0, 0⟩ : Slc).v] 34 fun ad22 w125 =>
          Bar (V3 0) w54.drew w125 ∧
          (Bar (V3 2) w54.drew w125 ∧
           ((Calls Tryz.prog 9 #[Value.agg #[Value.bool b31, s39.v, Value.int .i64 x25]] w125 fun e34 w126 =>
             ∃ b57 : Bool, ∃ s87 : Slc, ∃ s88 : Slc, e34 = .returned (Value.agg #[Value.bool b57, s87.v, s88.v]) ∧
             (Bar (V3 2) w125 w126 ∧
              ((Calls Tryz.prog 9 #[Value.agg #[Value.bool b32, s40.v, Value.int .i64 x26]] w126 fun e35 w127 =>
                ∃ b58 : Bool, ∃ s89 : Slc, ∃ s90 : Slc, e35 = .returned (Value.agg #[Value.bool b58, s89.v, s90.v]) ∧
                (newC w127 #[Value.bool false, (⟨none, 0, 0⟩ : Slc).v, (⟨none, 0, 0⟩ : Slc).v] 34 fun ad23 w128 =>
                 Bar (V3 0) w127 w128 ∧
                 (Bar (V3 2) w127 w128 ∧
                  (stC ad22 (Value.bool b57) w128 fun w129 =>
                   stC (ad22.add 1) s87.v w129 fun w130 =>
                   stC (ad22.add 2) s88.v w130 fun w131 =>
                   stC ad23 (Value.bool b58) w131 fun w132 =>
                   stC (ad23.add 1) s89.v w132 fun w133 =>
                   stC (ad23.add 2) s90.v w133 fun w134 =>
                   K16 t2 t8 x21 x24 ad22 ad23 w134)))) ∧
               (newC w126 #[Value.bool false, (⟨none, 0, 0⟩ : Slc).v, (⟨none, 0, 0⟩ : Slc).v] 34 fun ad24 w135 =>
                Bar (V3 0) w126 w135 ∧
                (Bar (V3 2) w126 w135 ∧
                 (Calls Tryz.prog 9 #[Value.agg #[Value.bool b32, s40.v, Value.int .i64 x26]] w135 fun e36 w136 =>
                  ∃ b59 : Bool, ∃ s91 : Slc, ∃ s92 : Slc, e36 = .returned (Value.agg #[Value.bool b59, s91.v, s92.v]) ∧
                  (stC ad22 (Value.bool b57) w136 fun w137 =>
                   stC (ad22.add 1) s87.v w137 fun w138 =>
                   stC (ad22.add 2) s88.v w138 fun w139 =>
                   stC ad24 (Value.bool b59) w139 fun w140 =>
                   stC (ad24.add 1) s91.v w140 fun w141 =>
                   stC (ad24.add 2) s92.v w141 fun w142 =>
                   K16 t2 t8 x21 x24 ad22 ad24 w142))))))) ∧
            (newC w125 #[Value.bool false, (⟨none, 0, 0⟩ : Slc).v, (⟨none, 0, 0⟩ : Slc).v] 34 fun ad25 w143 =>
             Bar (V3 0) w125 w143 ∧
             (Bar (V3 2) w125 w143 ∧
              (Calls Tryz.prog 9 #[Value.agg #[Value.bool b31, s39.v, Value.int .i64 x25]] w143 fun e37 w144 =>
               ∃ b60 : Bool, ∃ s93 : Slc, ∃ s94 : Slc, e37 = .returned (Value.agg #[Value.bool b60, s93.v, s94.v]) ∧
               (Bar (V3 2) w143 w144 ∧
                (Calls Tryz.prog 9 #[Value.agg #[Value.bool b32, s40.v, Value.int .i64 x26]] w144 fun e38 w145 =>
                 ∃ b61 : Bool, ∃ s95 : Slc, ∃ s96 : Slc, e38 = .returned (Value.agg #[Value.bool b61, s95.v, s96.v]) ∧
                 (stC ad22 (Value.bool b60) w145 fun w146 =>
                  stC (ad22.add 1) s93.v w146 fun w147 =>
                  stC (ad22.add 2) s94.v w147 fun w148 =>
                  stC ad25 (Value.bool b61) w148 fun w149 =>
                  stC (ad25.add 1) s95.v w149 fun w150 =>
                  stC (ad25.add 2) s96.v w150 fun w151 =>
                  K16 t2 t8 x21 x24 ad22 ad25 w151))))))))) ∧
         (newC w54.drew #[Value.bool false, (⟨none, 0, 0⟩ : Slc).v, (⟨none, 0, 0⟩ : Slc).v] 34 fun ad26 w152 =>
          Bar (V3 0) w54.drew w152 ∧
          (Bar (V3 2) w54.drew w152 ∧
           ((Calls Tryz.prog 9 #[Value.agg #[Value.bool b31, s39.v, Value.int .i64 x25]] w152 fun e39 w153 =>
             ∃ b62 : Bool, ∃ s97 : Slc, ∃ s98 : Slc, e39 = .returned (Value.agg #[Value.bool b62, s97.v, s98.v]) ∧
             (Bar (V3 2) w152 w153 ∧
              ((Calls Tryz.prog 9 #[Value.agg #[Value.bool b32, s40.v, Value.int .i64 x26]] w153 fun e40 w154 =>
                ∃ b63 : Bool, ∃ s99 : Slc, ∃ s100 : Slc, e40 = .returned (Value.agg #[Value.bool b63, s99.v, s100.v]) ∧
                (newC w154 #[Value.bool false, (⟨none, 0, 0⟩ : Slc).v, (⟨none, 0, 0⟩ : Slc).v] 34 fun ad27 w155 =>
                 Bar (V3 0) w154 w155 ∧
                 (Bar (V3 2) w154 w155 ∧
                  (stC ad27 (Value.bool b62) w155 fun w156 =>
                   stC (ad27.add 1) s97.v w156 fun w157 =>
                   stC (ad27.add 2) s98.v w157 fun w158 =>
                   stC ad26 (Value.bool b63) w158 fun w159 =>
                   stC (ad26.add 1) s99.v w159 fun w160 =>
                   stC (ad26.add 2) s100.v w160 fun w161 =>
                   K16 t2 t8 x21 x24 ad27 ad26 w161)))) ∧
               (newC w153 #[Value.bool false, (⟨none, 0, 0⟩ : Slc).v, (⟨none, 0, 0⟩ : Slc).v] 34 fun ad28 w162 =>
                Bar (V3 0) w153 w162 ∧
                (Bar (V3 2) w153 w162 ∧
                 (Calls Tryz.prog 9 #[Value.agg #[Value.bool b32, s40.v, Value.int .i64 x26]] w162 fun e41 w163 =>
                  ∃ b64 : Bool, ∃ s101 : Slc, ∃ s102 : Slc, e41 = .returned (Value.agg #[Value.bool b64, s101.v, s102.v]) ∧
                  (stC ad28 (Value.bool b62) w163 fun w164 =>
                   stC (ad28.add 1) s97.v w164 fun w165 =>
                   stC (ad28.add 2) s98.v w165 fun w166 =>
                   stC ad26 (Value.bool b64) w166 fun w167 =>
                   stC (ad26.add 1) s101.v w167 fun w168 =>
                   stC (ad26.add 2) s102.v w168 fun w169 =>
                   K16 t2 t8 x21 x24 ad28 ad26 w169))))))) ∧
            (newC w152 #[Value.bool false, (⟨none, 0, 0⟩ : Slc).v, (⟨none, 0, 0⟩ : Slc).v] 34 fun ad29 w170 =>
             Bar (V3 0) w152 w170 ∧
             (Bar (V3 2) w152 w170 ∧
              (Calls Tryz.prog 9 #[Value.agg #[Value.bool b31, s39.v, Value.int .i64 x25]] w170 fun e42 w171 =>
               ∃ b65 : Bool, ∃ s103 : Slc, ∃ s104 : Slc, e42 = .returned (Value.agg #[Value.bool b65, s103.v, s104.v]) ∧
               (Bar (V3 2) w170 w171 ∧
                (Calls Tryz.prog 9 #[Value.agg #[Value.bool b32, s40.v, Value.int .i64 x26]] w171 fun e43 w172 =>
                 ∃ b66 : Bool, ∃ s105 : Slc, ∃ s106 : Slc, e43 = .returned (Value.agg #[Value.bool b66, s105.v, s106.v]) ∧
                 (stC ad29 (Value.bool b65) w172 fun w173 =>
                  stC (ad29.add 1) s103.v w173 fun w174 =>
                  stC (ad29.add 2) s104.v w174 fun w175 =>
                  stC ad26 (Value.bool b66) w175 fun w176 =>
                  stC (ad26.add 1) s105.v w176 fun w177 =>
                  stC (ad26.add 2) s106.v w177 fun w178 =>
                  K16 t2 t8 x21 x24 ad29 ad26 w178)))))))))))))))
    (h3000016 : ∀ (t2 : Int) (t8 : Addr) (t15 : Int) (t17 : Int) (t18 : Addr) (t19 : Addr) (w_ : World), K16 t2 t8 t15 t17 t18 t19 w_ → 
    Calls Tryz.prog 16 #[Value.int .i64 1] w_ fun e19 w65 =>
    ∃ b35 : Bool, ∃ s45 : Slc, ∃ s46 : Slc, e19 = .returned (Value.agg #[Value.bool b35, s45.v, s46.v]) ∧
    (Calls Tryz.prog 15 #[Value.agg #[Value.bool b35, s45.v, s46.v], Value.int .i64 t2] w65 fun e20 w66 =>
     ∃ b36 : Bool, ∃ s47 : Slc, ∃ s48 : Slc, e20 = .returned (Value.agg #[Value.bool b36, s47.v, s48.v]) ∧
     (newC w66 #[Value.bool false, (⟨none, 0, 0⟩ : Slc).v, (⟨none, 0, 0⟩ : Slc).v] 34 fun ad13 w67 =>
      stC ad13 (Value.bool b36) w67 fun w68 =>
      stC (ad13.add 1) s47.v w68 fun w69 =>
      stC (ad13.add 2) s48.v w69 fun w70 =>
      ldB t8 w70 fun b37 =>
      ldS (t8.add 1) w70 fun s49 =>
      ldS (t8.add 2) w70 fun s50 =>
      Calls Tryz.prog 17 #[Value.agg #[Value.bool b37, s49.v, s50.v]] w70 fun e21 w71 =>
      ∃ b38 : Bool, ∃ s51 : Slc, ∃ s52 : Slc, e21 = .returned (Value.agg #[Value.bool b38, s51.v, s52.v]) ∧
      (stC t8 (Value.bool b38) w71 fun w72 =>
       stC (t8.add 1) s51.v w72 fun w73 =>
       stC (t8.add 2) s52.v w73 fun w74 =>
       br (t15 != 0)
       (R (.returned (Value.bool false)) w74.drew)
       (br (t17 != 0)
        (R (.returned (Value.bool false)) w74.drew)
        (ldB t18 w74.drew fun b39 =>
         ldS (t18.add 1) w74.drew fun s53 =>
         ldS (t18.add 2) w74.drew fun s54 =>
         Calls Tryz.prog 10 #[Value.agg #[Value.bool b39, s53.v, s54.v]] w74.drew fun e22 w75 =>
         ∃ x27 : Int, e22 = .returned (Value.int .i64 x27) ∧
         (Ahead w74.drew w75 ∧
          (br (decide (x27 < 0))
           (R (.returned (Value.bool false)) w75)
           (ldB t18 w75 fun b40 =>
            ldS (t18.add 1) w75 fun s55 =>
            ldS (t18.add 2) w75 fun s56 =>
            ldB t18 w75 fun b41 =>
            ldS (t18.add 1) w75 fun s57 =>
            ldS (t18.add 2) w75 fun s58 =>
            ldB t8 w75 fun b42 =>
            ldS (t8.add 1) w75 fun s59 =>
            ldS (t8.add 2) w75 fun s60 =>
            Calls Tryz.prog 19 #[Value.agg #[Value.bool b40, s55.v, s56.v], Value.agg #[Value.bool b41, s57.v, s58.v]] w75 fun e23 w76 =>
            ∃ b43 : Bool, ∃ s61 : Slc, ∃ s62 : Slc, e23 = .returned (Value.agg #[Value.bool b43, s61.v, s62.v]) ∧
            (Ahead w75 w76 ∧
             (Calls Tryz.prog 18 #[Value.agg #[Value.bool b43, s61.v, s62.v], Value.agg #[Value.bool b42, s59.v, s60.v]] w76 fun e24 w77 =>
              ∃ x28 : Int, e24 = .returned (Value.int .i64 x28) ∧
              (Ahead w76 w77 ∧
               (br (decide (x28 > 0))
                (R (.returned (Value.bool false)) w77)
                (ldB t19 w77 fun b44 =>
                 ldS (t19.add 1) w77 fun s63 =>
                 ldS (t19.add 2) w77 fun s64 =>
                 ldB t19 w77 fun b45 =>
                 ldS (t19.add 1) w77 fun s65 =>
                 ldS (t19.add 2) w77 fun s66 =>
                 ldB t8 w77 fun b46 =>
                 ldS (t8.add 1) w77 fun s67 =>
                 ldS (t8.add 2) w77 fun s68 =>
                 Calls Tryz.prog 19 #[Value.agg #[Value.bool b44, s63.v, s64.v], Value.agg #[Value.bool b45, s65.v, s66.v]] w77 fun e25 w78 =>
                 ∃ b47 : Bool, ∃ s69 : Slc, ∃ s70 : Slc, e25 = .returned (Value.agg #[Value.bool b47, s69.v, s70.v]) ∧
                 (Ahead w77 w78 ∧
                  (Calls Tryz.prog 18 #[Value.agg #[Value.bool b47, s69.v, s70.v], Value.agg #[Value.bool b46, s67.v, s68.v]] w78 fun e26 w79 =>
                   ∃ x29 : Int, e26 = .returned (Value.int .i64 x29) ∧
                   (Ahead w78 w79 ∧
                    (br (decide (x29 < 0))
                     (R (.returned (Value.bool false)) w79)
                     (ldB t19 w79.drew fun b48 =>
                      ldS (t19.add 1) w79.drew fun s71 =>
                      ldS (t19.add 2) w79.drew fun s72 =>
                      ldB t18 w79.drew fun b49 =>
                      ldS (t18.add 1) w79.drew fun s73 =>
                      ldS (t18.add 2) w79.drew fun s74 =>
                      ldB ad13 w79.drew fun b50 =>
                      ldS (ad13.add 1) w79.drew fun s75 =>
                      ldS (ad13.add 2) w79.drew fun s76 =>
                      Calls Tryz.prog 20 #[Value.agg #[Value.bool b48, s71.v, s72.v], Value.agg #[Value.bool b49, s73.v, s74.v]] w79.drew fun e27 w80 =>
                      ∃ b51 : Bool, ∃ s77 : Slc, ∃ s78 : Slc, e27 = .returned (Value.agg #[Value.bool b51, s77.v, s78.v]) ∧
                      (Ahead w79.drew w80 ∧
                       (Calls Tryz.prog 18 #[Value.agg #[Value.bool b51, s77.v, s78.v], Value.agg #[Value.bool b50, s75.v, s76.v]] w80 fun e28 w81 =>
                        ∃ x30 : Int, e28 = .returned (Value.int .i64 x30) ∧
                        (Ahead w80 w81 ∧
                         (br (decide (x30 ≤ 0))
                          (Calls Tryz.prog 6 #[] w81 fun e29 w82 =>
                           ∃ b52 : Bool, e29 = .returned (Value.bool b52) ∧
                           (Ahead w81 w82 ∧
                            (R (.returned (Value.bool b52)) w82)))
                          (R (.returned (Value.bool false)) w81)))))))))))))))))))))))) :
    Calls Tryz.prog 3 #[Value.agg #[Value.bool a0_0, a0_1.v, Value.int .i64 a0_2], Value.agg #[Value.bool a1_0, a1_1.v, Value.int .i64 a1_2], Value.int .i64 a2] w R := by
  refine calls_of_vc (marks [2000003, 2000004, 2000014] (surdtop_WholeRounds_cut K6 K12 K16)) (by kernel_rfl) Tryz.func3 rfl ?_ ?_
  · refine kcast h ?_; kernel_rfl
  · exact (obl_seq rfl (obl_reg (obl_seq rfl (obl_seq rfl (obl_reg (obl_cond (obl_seq rfl (obl_reg (obl_ret (obl_skip (obl_seq rfl (obl_store _ rfl (by kernel_rfl) (obl_join _ rfl (obl_store _ rfl (by kernel_rfl) trivial) (fun a_ w_ hL_ => (by
    obtain ⟨hz_, hd_, hL_⟩ := atSz_out hL_
    obtain ⟨t2, h2_, hL_⟩ := atI_out hL_
    obtain ⟨t3, h3_, hL_⟩ := atA_out hL_
    obtain ⟨t4, h4_, hL_⟩ := atA_out hL_
    obtain ⟨t7, h7_, hL_⟩ := atA_out hL_
    obtain ⟨t8, h8_, hL_⟩ := atA_out hL_
    obtain ⟨g3000006, rfl⟩ : ∃ g, a_ = Fr 136 [(2, Value.int .i64 t2), (3, Value.pointer (some t3)), (4, Value.pointer (some t4)), (7, Value.pointer (some t7)), (8, Value.pointer (some t8))] g := ⟨_, fr_of hz_ hd_ [(2, Value.int .i64 t2), (3, Value.pointer (some t3)), (4, Value.pointer (some t4)), (7, Value.pointer (some t7)), (8, Value.pointer (some t8))] (sel_cons h2_ (sel_cons h3_ (sel_cons h4_ (sel_cons h7_ (sel_cons h8_ sel_nil)))))⟩
    clear hz_ hd_ h2_ h3_ h4_ h7_ h8_
    have hJ3000006_ := hL_
    refine ⟨(marks [2000003, 2000004, 2000014] (surdtop_WholeRounds_cut K6 K12 K16)), kcast (h3000006 t2 t3 t4 t7 t8 w_ hJ3000006_) ?_, ?_⟩
    · kernel_rfl
    · exact (obl_join _ rfl (obl_seq rfl (obl_reg (obl_cond (obl_seq rfl (obl_reg (obl_seq rfl (obl_reg (obl_seq rfl (obl_reg (obl_seq rfl (obl_held (by kernel_rfl) (by kernel_rfl) (by kernel_rfl) (obl_cond (obl_seq rfl (obl_reg (obl_ret (obl_skip (obl_skip trivial))))))))))))))))) (fun a_ w_ hL_ => (by
      obtain ⟨hz_, hd_, hL_⟩ := atSz_out hL_
      obtain ⟨t2, h2_, hL_⟩ := atI_out hL_
      obtain ⟨t4, h4_, hL_⟩ := atA_out hL_
      obtain ⟨t8, h8_, hL_⟩ := atA_out hL_
      obtain ⟨g3000012, rfl⟩ : ∃ g, a_ = Fr 136 [(2, Value.int .i64 t2), (4, Value.pointer (some t4)), (8, Value.pointer (some t8))] g := ⟨_, fr_of hz_ hd_ [(2, Value.int .i64 t2), (4, Value.pointer (some t4)), (8, Value.pointer (some t8))] (sel_cons h2_ (sel_cons h4_ (sel_cons h8_ sel_nil)))⟩
      clear hz_ hd_ h2_ h4_ h8_
      have hJ3000012_ := hL_
      refine ⟨(marks [2000003, 2000004, 2000014] (surdtop_WholeRounds_cut K6 K12 K16)), kcast (h3000012 t2 t4 t8 w_ hJ3000012_) ?_, ?_⟩
      · kernel_rfl
      · exact (obl_seq rfl (obl_reg (obl_seq rfl (obl_reg (obl_seq rfl (obl_reg (obl_join _ rfl (obl_store _ rfl (by kernel_rfl) trivial) (fun a_ w_ hL_ => (by
        obtain ⟨hz_, hd_, hL_⟩ := atSz_out hL_
        obtain ⟨t2, h2_, hL_⟩ := atI_out hL_
        obtain ⟨t8, h8_, hL_⟩ := atA_out hL_
        obtain ⟨t15, h15_, hL_⟩ := atI_out hL_
        obtain ⟨t17, h17_, hL_⟩ := atI_out hL_
        obtain ⟨t18, h18_, hL_⟩ := atA_out hL_
        obtain ⟨t19, h19_, hL_⟩ := atA_out hL_
        obtain ⟨g3000016, rfl⟩ : ∃ g, a_ = Fr 136 [(2, Value.int .i64 t2), (8, Value.pointer (some t8)), (15, Value.int .i64 t15), (17, Value.int .i64 t17), (18, Value.pointer (some t18)), (19, Value.pointer (some t19))] g := ⟨_, fr_of hz_ hd_ [(2, Value.int .i64 t2), (8, Value.pointer (some t8)), (15, Value.int .i64 t15), (17, Value.int .i64 t17), (18, Value.pointer (some t18)), (19, Value.pointer (some t19))] (sel_cons h2_ (sel_cons h8_ (sel_cons h15_ (sel_cons h17_ (sel_cons h18_ (sel_cons h19_ sel_nil))))))⟩
        clear hz_ hd_ h2_ h8_ h15_ h17_ h18_ h19_
        have hJ3000016_ := hL_
        refine ⟨(marks [2000003, 2000004, 2000014] (surdtop_WholeRounds_cut K6 K12 K16)), kcast (h3000016 t2 t8 t15 t17 t18 t19 w_ hJ3000016_) ?_, ?_⟩
        · kernel_rfl
        · exact (obl_seq rfl (obl_reg (obl_seq rfl (obl_reg (obl_seq rfl (obl_seq rfl (obl_held (by kernel_rfl) (by kernel_rfl) (by kernel_rfl) (obl_cond (obl_seq rfl (obl_reg (obl_ret (obl_skip (obl_seq rfl (obl_held (by kernel_rfl) (by kernel_rfl) (by kernel_rfl) (obl_ret trivial))))))))))))))))))))))))))))))))))))))))))

def surdtop_small_cut (J0 : Int → Slc → Int → Int → World → Prop) (m0 : Int → Slc → Int → Int → World → Nat) : Nat → Option ((Act → World → Prop) × (Act → World → Nat))
  | 0 => some (fun a_ w_ => atSz a_ 19 (atI .i64 a_ 0 fun t0_most => atS a_ 7 fun t7 => atI .i64 a_ 8 fun t8 => atI .i64 a_ 9 fun t9 => J0 t0_most t7 t8 t9 w_), fun a_ w_ => mI a_ 0 fun t0_most => mS a_ 7 fun t7 => mI a_ 8 fun t8 => mI a_ 9 fun t9 => m0 t0_most t7 t8 t9 w_)
  | _ => none

set_option maxRecDepth 100000 in
/-- surd/surdtop.small: function 5. -/
theorem surdtop_small_vc (a0_most : Int) (a1_l : Slc) (w : World) (R : Ending → World → Prop)
    (J0 : Int → Slc → Int → Int → World → Prop) (m0 : Int → Slc → Int → Int → World → Nat)
    (h : J0 a0_most a1_l (a1_l.n : Int) 0 w)
    (h0 : ∀ (t0_most : Int) (t7 : Slc) (t8 : Int) (t9 : Int) (w_ : World), J0 t0_most t7 t8 t9 w_ → 
    br (decide (t9 < t8))
    (semA Tryz.prog (Instr.indexAt 62 t7.v (Value.int .i64 t9)) w_ fun ad1 w1 =>
     ldS ad1 w1 fun s1 =>
     Calls Tryz.prog 33 #[s1.v] w1 fun e1 w2 =>
     ∃ s2 : Slc, e1 = .returned s2.v ∧
     (Calls Tryz.prog 34 #[s2.v] w2 fun e2 w3 =>
      ∃ x1 : Int, e2 = .returned (Value.int .i64 x1) ∧
      (br (decide (x1 > t0_most))
       (R (.returned (Value.bool false)) w3)
       (J0 t0_most t7 t8 (IntKind.i64.wrap (t9 + 1)) w3 ∧
        m0 t0_most t7 t8 (IntKind.i64.wrap (t9 + 1)) w3 < m0 t0_most t7 t8 t9 w_))))
    (R (.returned (Value.bool true)) w_)) :
    Calls Tryz.prog 5 #[Value.int .i64 a0_most, a1_l.v] w R := by
  refine calls_of_vc (surdtop_small_cut J0 m0) (by kernel_rfl) Tryz.func5 rfl ?_ ?_
  · refine kcast h ?_; kernel_rfl
  · exact (obl_seq rfl (obl_reg (obl_seq rfl (obl_seq rfl (obl_reg (obl_loop _ rfl (fun a_ w_ hL_ => (by
    obtain ⟨hz_, hd_, hL_⟩ := atSz_out hL_
    obtain ⟨t0_most, h0_, hL_⟩ := atI_out hL_
    obtain ⟨t7, h7_, hL_⟩ := atS_out hL_
    obtain ⟨t8, h8_, hL_⟩ := atI_out hL_
    obtain ⟨t9, h9_, hL_⟩ := atI_out hL_
    obtain ⟨g0, rfl⟩ : ∃ g, a_ = Fr 19 [(0, Value.int .i64 t0_most), (7, t7.v), (8, Value.int .i64 t8), (9, Value.int .i64 t9)] g := ⟨_, fr_of hz_ hd_ [(0, Value.int .i64 t0_most), (7, t7.v), (8, Value.int .i64 t8), (9, Value.int .i64 t9)] (sel_cons h0_ (sel_cons h7_ (sel_cons h8_ (sel_cons h9_ sel_nil))))⟩
    clear hz_ hd_ h0_ h7_ h8_ h9_
    have hJ0_ := hL_
    refine ⟨(fun _ => none), kcast (h0 t0_most t7 t8 t9 w_ hJ0_) ?_, ?_⟩
    · kernel_rfl
    · exact (obl_seq rfl (obl_reg (obl_seq rfl (obl_cond (obl_skip (obl_exit (obl_seq rfl (obl_blk rfl (obl_seq rfl (obl_reg (obl_seq rfl (obl_reg (obl_cond (obl_seq rfl (obl_reg (obl_ret (obl_skip (obl_reg trivial)))))))))))))))))))) (obl_seq rfl (obl_reg (obl_ret trivial)))))))))

set_option maxRecDepth 100000 in
/-- surd/surdtop.worksTen: function 6. -/
theorem surdtop_worksTen_vc  (w : World) (R : Ending → World → Prop)
    
    (h : newC w #[Value.int .u64 1] 65 fun ad1 w1 =>
    newC w1 #[Value.int .u64 3] 65 fun ad2 w2 =>
    Calls Tryz.prog 35 #[Value.agg #[Value.bool false, (⟨some ad1, 1, 1⟩ : Slc).v, (⟨some ad2, 1, 1⟩ : Slc).v], Value.int .i64 (-4)] w2 fun e1 w3 =>
    ∃ b1 : Bool, ∃ s1 : Slc, ∃ x1 : Int, ∃ b2 : Bool, ∃ s2 : Slc, ∃ x2 : Int, ∃ x3 : Int, e1 = .returned (Value.tuple #[Value.agg #[Value.bool b1, s1.v, Value.int .i64 x1, Value.bool b2, s2.v, Value.int .i64 x2], Value.int .i64 x3]) ∧
    (newC w3 #[Value.bool false, (⟨none, 0, 0⟩ : Slc).v, Value.int .i64 0, Value.bool false, (⟨none, 0, 0⟩ : Slc).v, Value.int .i64 0] 50 fun ad3 w4 =>
     stC ad3 (Value.bool b1) w4 fun w5 =>
     stC (ad3.add 1) s1.v w5 fun w6 =>
     stC (ad3.add 2) (Value.int .i64 x1) w6 fun w7 =>
     stC (ad3.add 3) (Value.bool b2) w7 fun w8 =>
     stC (ad3.add 4) s2.v w8 fun w9 =>
     stC (ad3.add 5) (Value.int .i64 x2) w9 fun w10 =>
     Calls Tryz.prog 36 #[] w10 fun e2 w11 =>
     ∃ b3 : Bool, e2 = .returned (Value.bool b3) ∧
     (br b3
      (br (x3 == 0)
       (ldB ad3 w11 fun b4 =>
        ldS (ad3.add 1) w11 fun s3 =>
        ldI .i64 (ad3.add 2) w11 fun x4 =>
        Calls Tryz.prog 37 #[Value.agg #[Value.bool b4, s3.v, Value.int .i64 x4]] w11 fun e3 w12 =>
        ∃ x5 : Int, e3 = .returned (Value.int .i64 x5) ∧
        (br (x5 == 1)
         (ldI .i64 (ad3.add 2) w12 fun x6 =>
          br (x6 == (-4))
          (Calls Tryz.prog 38 #[Value.int .i64 5] w12 fun e4 w13 =>
           ∃ b5 : Bool, ∃ s4 : Slc, ∃ s5 : Slc, e4 = .returned (Value.agg #[Value.bool b5, s4.v, s5.v]) ∧
           (semA Tryz.prog (Instr.indexAt 23 s4.v (Value.int .i64 0)) w13 fun ad4 w14 =>
            ldI .u64 ad4 w14 fun x7 =>
            R (.returned (Value.bool (x7 == 5))) w14))
          (R (.returned (Value.bool false)) w12))
         (R (.returned (Value.bool false)) w12)))
       (R (.returned (Value.bool false)) w11))
      (R (.returned (Value.bool false)) w11)))) :
    Calls Tryz.prog 6 #[] w R := by
  refine calls_of_vc (fun _ => none) (by kernel_rfl) Tryz.func6 rfl ?_ ?_
  · refine kcast h ?_; kernel_rfl
  · exact (obl_seq rfl (obl_reg (obl_seq rfl (obl_reg (obl_seq rfl (obl_reg (obl_ret trivial)))))))

set_option maxRecDepth 100000 in
/-- surd/surdtop.tame: function 7. -/
theorem surdtop_tame_vc (a0_d_0 : Bool) (a0_d_1 : Slc) (a0_d_2 : Int) (w : World) (R : Ending → World → Prop)
    
    (h : newC w #[Value.bool a0_d_0, a0_d_1.v, Value.int .i64 a0_d_2] 27 fun ad1 w1 =>
    newC w1 #[Value.bool false, (⟨none, 0, 0⟩ : Slc).v, Value.int .i64 0] 27 fun ad2 w2 =>
    ldI .i64 (ad1.add 2) w2 fun x1 =>
    Calls Tryz.prog 8 #[Value.int .i64 x1, Value.int .i64 (-99), Value.int .i64 99] w2 fun e1 w3 =>
    ∃ x2 : Int, e1 = .returned (Value.int .i64 x2) ∧
    (stC (ad1.add 2) (Value.int .i64 x2) w3 fun w4 =>
     ldB ad1 w4 fun b1 =>
     ldS (ad1.add 1) w4 fun s1 =>
     ldI .i64 (ad1.add 2) w4 fun x3 =>
     stC ad2 (Value.bool b1) w4 fun w5 =>
     stC (ad2.add 1) s1.v w5 fun w6 =>
     stC (ad2.add 2) (Value.int .i64 x3) w6 fun w7 =>
     ldB ad2 w7 fun b2 =>
     ldS (ad2.add 1) w7 fun s2 =>
     ldI .i64 (ad2.add 2) w7 fun x4 =>
     R (.returned (Value.agg #[Value.bool b2, s2.v, Value.int .i64 x4])) w7)) :
    Calls Tryz.prog 7 #[Value.agg #[Value.bool a0_d_0, a0_d_1.v, Value.int .i64 a0_d_2]] w R := by
  refine calls_of_vc (fun _ => none) (by kernel_rfl) Tryz.func7 rfl ?_ ?_
  · refine kcast h ?_; kernel_rfl
  · exact (obl_seq rfl (obl_reg (obl_seq rfl (obl_reg (obl_seq rfl (obl_reg (obl_ret trivial)))))))

set_option maxRecDepth 100000 in
/-- surd/surdtop.put: function 8. -/
theorem surdtop_put_vc (a0_n : Int) (a1_lo : Int) (a2_hi : Int) (w : World) (R : Ending → World → Prop)
    
    (h : semI Tryz.prog .i64 (binOp .rem 3 (Value.int .i64 a0_n) (Value.int .i64 (IntKind.i64.wrap ((IntKind.i64.wrap (a2_hi - a1_lo)) + 1)))) w fun x1 w1 =>
    br (decide (x1 < 0))
    (R (.returned (Value.int .i64 (IntKind.i64.wrap (a1_lo + (IntKind.i64.wrap (x1 + (IntKind.i64.wrap ((IntKind.i64.wrap (a2_hi - a1_lo)) + 1)))))))) w1)
    (R (.returned (Value.int .i64 (IntKind.i64.wrap (a1_lo + x1)))) w1)) :
    Calls Tryz.prog 8 #[Value.int .i64 a0_n, Value.int .i64 a1_lo, Value.int .i64 a2_hi] w R := by
  refine calls_of_vc (fun _ => none) (by kernel_rfl) Tryz.func8 rfl ?_ ?_
  · refine kcast h ?_; kernel_rfl
  · exact (obl_seq rfl (obl_reg (obl_seq rfl (obl_reg (obl_seq rfl (obl_seq rfl (obl_reg (obl_cond (obl_reg (obl_skip (obl_seq rfl (obl_reg (obl_ret trivial)))))))))))))

set_option maxRecDepth 100000 in
/-- surd/surdtop.dyadicOf: function 9. -/
theorem surdtop_dyadicOf_vc (a0_d_0 : Bool) (a0_d_1 : Slc) (a0_d_2 : Int) (w : World) (R : Ending → World → Prop)
    
    (h : newC w #[Value.bool a0_d_0, a0_d_1.v, Value.int .i64 a0_d_2] 27 fun ad1 w1 =>
    newC w1 #[Value.bool false, (⟨none, 0, 0⟩ : Slc).v, (⟨none, 0, 0⟩ : Slc).v] 34 fun ad2 w2 =>
    ldB ad1 w2.drew fun b1 =>
    ldS (ad1.add 1) w2.drew fun s1 =>
    ldI .i64 (ad1.add 2) w2.drew fun x1 =>
    Calls Tryz.prog 39 #[Value.bool b1, s1.v] w2.drew fun e1 w3 =>
    ∃ b2 : Bool, ∃ s2 : Slc, ∃ s3 : Slc, e1 = .returned (Value.agg #[Value.bool b2, s2.v, s3.v]) ∧
    (Ahead w2.drew w3 ∧
     (Calls Tryz.prog 15 #[Value.agg #[Value.bool b2, s2.v, s3.v], Value.int .i64 x1] w3 fun e2 w4 =>
      ∃ b3 : Bool, ∃ s4 : Slc, ∃ s5 : Slc, e2 = .returned (Value.agg #[Value.bool b3, s4.v, s5.v]) ∧
      (Ahead w3 w4 ∧
       (stC ad2 (Value.bool b3) w4 fun w5 =>
        stC (ad2.add 1) s4.v w5 fun w6 =>
        stC (ad2.add 2) s5.v w6 fun w7 =>
        ldB ad2 w7 fun b4 =>
        ldS (ad2.add 1) w7 fun s6 =>
        ldS (ad2.add 2) w7 fun s7 =>
        R (.returned (Value.agg #[Value.bool b4, s6.v, s7.v])) w7))))) :
    Calls Tryz.prog 9 #[Value.agg #[Value.bool a0_d_0, a0_d_1.v, Value.int .i64 a0_d_2]] w R := by
  refine calls_of_vc (fun _ => none) (by kernel_rfl) Tryz.func9 rfl ?_ ?_
  · refine kcast h ?_; kernel_rfl
  · exact (obl_seq rfl (obl_reg (obl_seq rfl (obl_held (by kernel_rfl) (by kernel_rfl) (by kernel_rfl) (obl_ret trivial)))))

set_option maxRecDepth 100000 in
/-- surd/surdtop.between: function 13. -/
theorem surdtop_between_vc (a0_lo_0 : Bool) (a0_lo_1 : Slc) (a0_lo_2 : Slc) (a1_q_0 : Bool) (a1_q_1 : Slc) (a1_q_2 : Slc) (a2_hi_0 : Bool) (a2_hi_1 : Slc) (a2_hi_2 : Slc) (a3_pos : Int) (w : World) (R : Ending → World → Prop)
    
    (h : newC w #[Value.bool a0_lo_0, a0_lo_1.v, a0_lo_2.v] 34 fun ad1 w1 =>
    newC w1 #[Value.bool a1_q_0, a1_q_1.v, a1_q_2.v] 34 fun ad2 w2 =>
    newC w2 #[Value.bool a2_hi_0, a2_hi_1.v, a2_hi_2.v] 34 fun ad3 w3 =>
    ldB ad3 w3 fun b1 =>
    ldS (ad3.add 1) w3 fun s1 =>
    ldS (ad3.add 2) w3 fun s2 =>
    ldB ad1 w3 fun b2 =>
    ldS (ad1.add 1) w3 fun s3 =>
    ldS (ad1.add 2) w3 fun s4 =>
    Calls Tryz.prog 20 #[Value.agg #[Value.bool b1, s1.v, s2.v], Value.agg #[Value.bool b2, s3.v, s4.v]] w3 fun e1 w4 =>
    ∃ b3 : Bool, ∃ s5 : Slc, ∃ s6 : Slc, e1 = .returned (Value.agg #[Value.bool b3, s5.v, s6.v]) ∧
    (Calls Tryz.prog 15 #[Value.agg #[Value.bool b3, s5.v, s6.v], Value.int .i64 (IntKind.i64.wrap (0 - a3_pos))] w4 fun e2 w5 =>
     ∃ b4 : Bool, ∃ s7 : Slc, ∃ s8 : Slc, e2 = .returned (Value.agg #[Value.bool b4, s7.v, s8.v]) ∧
     (newC w5 #[Value.bool false, (⟨none, 0, 0⟩ : Slc).v, (⟨none, 0, 0⟩ : Slc).v] 34 fun ad4 w6 =>
      stC ad4 (Value.bool b4) w6 fun w7 =>
      stC (ad4.add 1) s7.v w7 fun w8 =>
      stC (ad4.add 2) s8.v w8 fun w9 =>
      ldB ad1 w9 fun b5 =>
      ldS (ad1.add 1) w9 fun s9 =>
      ldS (ad1.add 2) w9 fun s10 =>
      ldB ad2 w9 fun b6 =>
      ldS (ad2.add 1) w9 fun s11 =>
      ldS (ad2.add 2) w9 fun s12 =>
      Calls Tryz.prog 18 #[Value.agg #[Value.bool b5, s9.v, s10.v], Value.agg #[Value.bool b6, s11.v, s12.v]] w9 fun e3 w10 =>
      ∃ x1 : Int, e3 = .returned (Value.int .i64 x1) ∧
      (br (x1 == 0)
       (ldB ad4 w10 fun b7 =>
        ldS (ad4.add 1) w10 fun s13 =>
        ldS (ad4.add 2) w10 fun s14 =>
        Calls Tryz.prog 10 #[Value.agg #[Value.bool b7, s13.v, s14.v]] w10 fun e4 w11 =>
        ∃ x2 : Int, e4 = .returned (Value.int .i64 x2) ∧
        (R (.returned (Value.bool (x2 == 0))) w11))
       (ldB ad1 w10.drew fun b8 =>
        ldS (ad1.add 1) w10.drew fun s15 =>
        ldS (ad1.add 2) w10.drew fun s16 =>
        ldB ad2 w10.drew fun b9 =>
        ldS (ad2.add 1) w10.drew fun s17 =>
        ldS (ad2.add 2) w10.drew fun s18 =>
        Calls Tryz.prog 18 #[Value.agg #[Value.bool b8, s15.v, s16.v], Value.agg #[Value.bool b9, s17.v, s18.v]] w10.drew fun e5 w12 =>
        ∃ x3 : Int, e5 = .returned (Value.int .i64 x3) ∧
        (Ahead w10.drew w12 ∧
         (br (decide (x3 < 0))
          (ldB ad2 w12 fun b10 =>
           ldS (ad2.add 1) w12 fun s19 =>
           ldS (ad2.add 2) w12 fun s20 =>
           ldB ad3 w12 fun b11 =>
           ldS (ad3.add 1) w12 fun s21 =>
           ldS (ad3.add 2) w12 fun s22 =>
           Calls Tryz.prog 18 #[Value.agg #[Value.bool b10, s19.v, s20.v], Value.agg #[Value.bool b11, s21.v, s22.v]] w12 fun e6 w13 =>
           ∃ x4 : Int, e6 = .returned (Value.int .i64 x4) ∧
           (Ahead w12 w13 ∧
            (br (decide (x4 < 0))
             (ldB ad4 w13 fun b12 =>
              ldS (ad4.add 1) w13 fun s23 =>
              ldS (ad4.add 2) w13 fun s24 =>
              Calls Tryz.prog 16 #[Value.int .i64 1] w13 fun e7 w14 =>
              ∃ b13 : Bool, ∃ s25 : Slc, ∃ s26 : Slc, e7 = .returned (Value.agg #[Value.bool b13, s25.v, s26.v]) ∧
              (Ahead w13 w14 ∧
               (Calls Tryz.prog 18 #[Value.agg #[Value.bool b12, s23.v, s24.v], Value.agg #[Value.bool b13, s25.v, s26.v]] w14 fun e8 w15 =>
                ∃ x5 : Int, e8 = .returned (Value.int .i64 x5) ∧
                (Ahead w14 w15 ∧
                 (R (.returned (Value.bool (x5 == 0))) w15)))))
             (R (.returned (Value.bool false)) w13))))
          (R (.returned (Value.bool false)) w12)))))))) :
    Calls Tryz.prog 13 #[Value.agg #[Value.bool a0_lo_0, a0_lo_1.v, a0_lo_2.v], Value.agg #[Value.bool a1_q_0, a1_q_1.v, a1_q_2.v], Value.agg #[Value.bool a2_hi_0, a2_hi_1.v, a2_hi_2.v], Value.int .i64 a3_pos] w R := by
  refine calls_of_vc (fun _ => none) (by kernel_rfl) Tryz.func13 rfl ?_ ?_
  · refine kcast h ?_; kernel_rfl
  · exact (obl_seq rfl (obl_reg (obl_seq rfl (obl_reg (obl_seq rfl (obl_seq rfl (obl_reg (obl_cond (obl_seq rfl (obl_reg (obl_ret (obl_skip (obl_seq rfl (obl_held (by kernel_rfl) (by kernel_rfl) (by kernel_rfl) (obl_ret trivial)))))))))))))))

set_option maxRecDepth 100000 in
/-- surd/surdtop.rational: function 39. -/
theorem surdtop_rational_vc (a0_neg : Bool) (a1_limbs : Slc) (w : World) (R : Ending → World → Prop)
    
    (h : newC w #[Value.bool false, (⟨none, 0, 0⟩ : Slc).v, (⟨none, 0, 0⟩ : Slc).v] 34 fun ad1 w1 =>
    Calls Tryz.prog 33 #[a1_limbs.v] w1 fun e1 w2 =>
    ∃ s1 : Slc, e1 = .returned s1.v ∧
    (Calls Tryz.prog 56 #[Value.int .i64 1] w2 fun e2 w3 =>
     ∃ s2 : Slc, e2 = .returned s2.v ∧
     (Calls Tryz.prog 44 #[Value.bool a0_neg, s1.v, s2.v] w3 fun e3 w4 =>
      ∃ b1 : Bool, ∃ s3 : Slc, ∃ s4 : Slc, e3 = .returned (Value.agg #[Value.bool b1, s3.v, s4.v]) ∧
      (stC ad1 (Value.bool b1) w4 fun w5 =>
       stC (ad1.add 1) s3.v w5 fun w6 =>
       stC (ad1.add 2) s4.v w6 fun w7 =>
       ldB ad1 w7 fun b2 =>
       ldS (ad1.add 1) w7 fun s5 =>
       ldS (ad1.add 2) w7 fun s6 =>
       R (.returned (Value.agg #[Value.bool b2, s5.v, s6.v])) w7)))) :
    Calls Tryz.prog 39 #[Value.bool a0_neg, a1_limbs.v] w R := by
  refine calls_of_vc (fun _ => none) (by kernel_rfl) Tryz.func39 rfl ?_ ?_
  · refine kcast h ?_; kernel_rfl
  · exact (obl_seq rfl (obl_reg (obl_seq rfl (obl_reg (obl_ret trivial)))))

set_option maxRecDepth 100000 in
/-- surd/surdtop.works: function 36. -/
theorem surdtop_works_vc  (w : World) (R : Ending → World → Prop)
    
    (h : newC w #[Value.int .u64 6] 65 fun ad1 w1 =>
    newC w1 #[Value.int .u64 7] 65 fun ad2 w2 =>
    Calls Tryz.prog 79 #[(⟨some ad1, 1, 1⟩ : Slc).v, (⟨some ad2, 1, 1⟩ : Slc).v] w2 fun e1 w3 =>
    ∃ s1 : Slc, ∃ x1 : Int, e1 = .returned (Value.tuple #[s1.v, Value.int .i64 x1]) ∧
    (newC w3 #[Value.int .u64 49] 65 fun ad3 w4 =>
     Calls Tryz.prog 51 #[(⟨some ad3, 1, 1⟩ : Slc).v] w4 fun e2 w5 =>
     ∃ s2 : Slc, ∃ s3 : Slc, ∃ x2 : Int, e2 = .returned (Value.tuple #[s2.v, s3.v, Value.int .i64 x2]) ∧
     (Calls Tryz.prog 80 #[s1.v, Value.int .i64 10] w5 fun e3 w6 =>
      ∃ n1 : ByteArray, ∃ x3 : Int, e3 = .returned (Value.tuple #[Value.string n1, Value.int .i64 x3]) ∧
      (br (x1 == 0)
       (br (x2 == 0)
        (br (x3 == 0)
         (br (n1.toList == (⟨#[52, 50]⟩ : ByteArray).toList)
          (newC w6 #[Value.int .u64 7] 65 fun ad4 w7 =>
           Calls Tryz.prog 81 #[s2.v, (⟨some ad4, 1, 1⟩ : Slc).v] w7 fun e4 w8 =>
           ∃ x4 : Int, e4 = .returned (Value.int .i64 x4) ∧
           (br (x4 == 0)
            (newC w8 #[Value.int .u64 1] 65 fun ad5 w9 =>
             Calls Tryz.prog 82 #[Value.agg #[Value.bool true, (⟨some ad5, 1, 1⟩ : Slc).v]] w9 fun e5 w10 =>
             ∃ x5 : Int, e5 = .returned (Value.int .i64 x5) ∧
             (R (.returned (Value.bool (x5 == (-1)))) w10))
            (R (.returned (Value.bool false)) w8)))
          (R (.returned (Value.bool false)) w6))
         (R (.returned (Value.bool false)) w6))
        (R (.returned (Value.bool false)) w6))
       (R (.returned (Value.bool false)) w6))))) :
    Calls Tryz.prog 36 #[] w R := by
  refine calls_of_vc (fun _ => none) (by kernel_rfl) Tryz.func36 rfl ?_ ?_
  · refine kcast h ?_; kernel_rfl
  · exact (obl_seq rfl (obl_reg (obl_seq rfl (obl_reg (obl_seq rfl (obl_reg (obl_seq rfl (obl_reg (obl_seq rfl (obl_reg (obl_ret trivial)))))))))))

end Go.Proofs.YtbeiopoejdkheaaGreatDoor
namespace Go.Proofs.YtbeiopoejdkheaaGreatDoor
open Go Go.RowKit Eng L2
set_option linter.unusedVariables false
set_option maxHeartbeats 2000000
set_option maxRecDepth 100000

/-- surd/surdtop.WholeRounds: function 3, its local variables as values. -/
theorem surdtop_WholeRounds_v2 (a0_0 : Bool) (a0_1 : Slc) (a0_2 : Int) (a1_0 : Bool) (a1_1 : Slc) (a1_2 : Int) (a2 : Int) (w : World) (R : Ending → World → Prop)
    (K6 : Int → Bool → Slc → Int → Bool → Slc → Int → Bool → Slc → Slc → Bool → Slc → Slc → World → Prop) (K12 : Int → Bool → Slc → Int → Bool → Slc → Slc → World → Prop) (K16 : Int → Int → Int → Bool → Slc → Slc → Bool → Slc → Slc → Bool → Slc → Slc → World → Prop)
    (h : ∀ w1, Ext w w1 → Ahead w w1 →
    (newC w1 #[a0_1.v, a1_1.v] 22 fun ad1 w2 =>
     Calls Tryz.prog 5 #[Value.int .i64 4096, (⟨some ad1, 2, 2⟩ : Slc).v] w2 fun e1 w3 =>
     ∃ b1 : Bool, e1 = .returned (Value.bool b1) ∧ Ahead w2 w3 ∧
     (br (!b1)
      (Calls Tryz.prog 6 #[] w3 fun e2 w4 =>
       ∃ b2 : Bool, e2 = .returned (Value.bool b2) ∧ Ahead w3 w4 ∧
       (R (.returned (Value.bool b2)) w4))
      (∀ w5, Ext w3 w5 → Ahead w w5 →
       (Calls Tryz.prog 7 #[Value.agg #[Value.bool a0_0, a0_1.v, Value.int .i64 a0_2]] w5 fun e3 w6 =>
        ∃ b3 : Bool, ∃ s1 : Slc, ∃ x1 : Int, e3 = .returned (Value.agg #[Value.bool b3, s1.v, Value.int .i64 x1]) ∧ Ahead w5 w6 ∧
        (Calls Tryz.prog 7 #[Value.agg #[Value.bool a1_0, a1_1.v, Value.int .i64 a1_2]] w6 fun e4 w7 =>
         ∃ b4 : Bool, ∃ s2 : Slc, ∃ x2 : Int, e4 = .returned (Value.agg #[Value.bool b4, s2.v, Value.int .i64 x2]) ∧ Ahead w6 w7 ∧
         (Calls Tryz.prog 8 #[Value.int .i64 a2, Value.int .i64 (-150), Value.int .i64 50] w7 fun e5 w8 =>
          ∃ x3 : Int, e5 = .returned (Value.int .i64 x3) ∧ Ahead w7 w8 ∧
          (∀ w9, Ext w8 w9 → Ahead w w9 →
           (Calls Tryz.prog 9 #[Value.agg #[Value.bool b3, s1.v, Value.int .i64 x1]] w9 fun e6 w10 =>
            ∃ b5 : Bool, ∃ s3 : Slc, ∃ s4 : Slc, e6 = .returned (Value.agg #[Value.bool b5, s3.v, s4.v]) ∧ Ahead w9 w10 ∧
            (∀ w11, Ext w10 w11 → Ahead w w11 →
             (Calls Tryz.prog 9 #[Value.agg #[Value.bool b4, s2.v, Value.int .i64 x2]] w11 fun e7 w12 =>
              ∃ b6 : Bool, ∃ s5 : Slc, ∃ s6 : Slc, e7 = .returned (Value.agg #[Value.bool b6, s5.v, s6.v]) ∧ Ahead w11 w12 ∧
              (∀ w89, Ext w12 w89 → Ahead w w89 →
               (K6 x3 b3 s1 x1 b4 s2 x2 b5 s3 s4 b6 s5 s6 w89)))))))))))))
    (h3000006 : ∀ (t2 : Int) (t3_0 : Bool) (t3_1 : Slc) (t3_2 : Int) (t4_0 : Bool) (t4_1 : Slc) (t4_2 : Int) (t7_0 : Bool) (t7_1 : Slc) (t7_2 : Slc) (t8_0 : Bool) (t8_1 : Slc) (t8_2 : Slc) (w_ : World), Ahead w w_ → K6 t2 t3_0 t3_1 t3_2 t4_0 t4_1 t4_2 t7_0 t7_1 t7_2 t8_0 t8_1 t8_2 w_ → 
    Calls Tryz.prog 10 #[Value.agg #[Value.bool t8_0, t8_1.v, t8_2.v]] w_ fun e8 w13 =>
    ∃ x4 : Int, e8 = .returned (Value.int .i64 x4) ∧ Ahead w_ w13 ∧
    (br (x4 != 0)
     (Calls Tryz.prog 11 #[Value.agg #[Value.bool t3_0, t3_1.v, Value.int .i64 t3_2], Value.agg #[Value.bool t4_0, t4_1.v, Value.int .i64 t4_2], Value.int .i64 t2, Value.int .i64 0] w13 fun e9 w14 =>
      ∃ b7 : Bool, ∃ s7 : Slc, ∃ x5 : Int, ∃ x6 : Int, e9 = .returned (Value.tuple #[Value.agg #[Value.bool b7, s7.v, Value.int .i64 x5], Value.int .i64 x6]) ∧ Ahead w13 w14 ∧
      (∀ w15, Ext w14 w15 → Ahead w w15 →
       (Calls Tryz.prog 11 #[Value.agg #[Value.bool t3_0, t3_1.v, Value.int .i64 t3_2], Value.agg #[Value.bool t4_0, t4_1.v, Value.int .i64 t4_2], Value.int .i64 t2, Value.int .i64 1] w15 fun e10 w16 =>
        ∃ b8 : Bool, ∃ s8 : Slc, ∃ x7 : Int, ∃ x8 : Int, e10 = .returned (Value.tuple #[Value.agg #[Value.bool b8, s8.v, Value.int .i64 x7], Value.int .i64 x8]) ∧ Ahead w15 w16 ∧
        (∀ w17, Ext w16 w17 → Ahead w w17 →
         (Calls Tryz.prog 12 #[Value.agg #[Value.bool t7_0, t7_1.v, t7_2.v], Value.agg #[Value.bool t8_0, t8_1.v, t8_2.v]] w17 fun e11 w18 =>
          ∃ b9 : Bool, ∃ s9 : Slc, ∃ s10 : Slc, e11 = .returned (Value.agg #[Value.bool b9, s9.v, s10.v]) ∧ Ahead w17 w18 ∧
          (br (x6 != 0)
           (∀ w19, Ext w18 w19 → Ahead w w19 →
            (R (.returned (Value.bool false)) w19))
           (br (x8 != 0)
            (∀ w20, Ext w18 w20 → Ahead w w20 →
             (R (.returned (Value.bool false)) w20))
            (∀ w21, Ext w18 w21 → Ahead w w21 →
             (Calls Tryz.prog 9 #[Value.agg #[Value.bool b7, s7.v, Value.int .i64 x5]] w21 fun e12 w22 =>
              ∃ b10 : Bool, ∃ s11 : Slc, ∃ s12 : Slc, e12 = .returned (Value.agg #[Value.bool b10, s11.v, s12.v]) ∧ Ahead w21 w22 ∧
              (Calls Tryz.prog 9 #[Value.agg #[Value.bool b8, s8.v, Value.int .i64 x7]] w22 fun e13 w23 =>
               ∃ b11 : Bool, ∃ s13 : Slc, ∃ s14 : Slc, e13 = .returned (Value.agg #[Value.bool b11, s13.v, s14.v]) ∧ Ahead w22 w23 ∧
               (Calls Tryz.prog 13 #[Value.agg #[Value.bool b10, s11.v, s12.v], Value.agg #[Value.bool b9, s9.v, s10.v], Value.agg #[Value.bool b11, s13.v, s14.v], Value.int .i64 t2] w23 fun e14 w24 =>
                ∃ b12 : Bool, e14 = .returned (Value.bool b12) ∧ Ahead w23 w24 ∧
                (br (!b12)
                 (R (.returned (Value.bool false)) w24)
                 (K12 t2 t4_0 t4_1 t4_2 t8_0 t8_1 t8_2 w24)))))))))))))
     (K12 t2 t4_0 t4_1 t4_2 t8_0 t8_1 t8_2 w13)))
    (h3000012 : ∀ (t2 : Int) (t4_0 : Bool) (t4_1 : Slc) (t4_2 : Int) (t8_0 : Bool) (t8_1 : Slc) (t8_2 : Slc) (w_ : World), Ahead w w_ → K12 t2 t4_0 t4_1 t4_2 t8_0 t8_1 t8_2 w_ → 
    ∀ w25, Ext w_ w25 → Ahead w w25 →
    (Calls Tryz.prog 14 #[Value.agg #[Value.bool (false), t4_1.v, Value.int .i64 t4_2], Value.int .i64 t2, Value.int .i64 0] w25 fun e15 w26 =>
     ∃ b13 : Bool, ∃ s15 : Slc, ∃ x9 : Int, ∃ x10 : Int, e15 = .returned (Value.tuple #[Value.agg #[Value.bool b13, s15.v, Value.int .i64 x9], Value.int .i64 x10]) ∧ Ahead w25 w26 ∧
     (∀ w27, Ext w26 w27 → Ahead w w27 →
      (Calls Tryz.prog 14 #[Value.agg #[Value.bool (false), t4_1.v, Value.int .i64 t4_2], Value.int .i64 t2, Value.int .i64 1] w27 fun e16 w28 =>
       ∃ b14 : Bool, ∃ s16 : Slc, ∃ x11 : Int, ∃ x12 : Int, e16 = .returned (Value.tuple #[Value.agg #[Value.bool b14, s16.v, Value.int .i64 x11], Value.int .i64 x12]) ∧ Ahead w27 w28 ∧
       (∀ w29, Ext w28 w29 → Ahead w w29 →
        (Calls Tryz.prog 9 #[Value.agg #[Value.bool b13, s15.v, Value.int .i64 x9]] w29 fun e17 w30 =>
         ∃ b15 : Bool, ∃ s17 : Slc, ∃ s18 : Slc, e17 = .returned (Value.agg #[Value.bool b15, s17.v, s18.v]) ∧ Ahead w29 w30 ∧
         (∀ w31, Ext w30 w31 → Ahead w w31 →
          (Calls Tryz.prog 9 #[Value.agg #[Value.bool b14, s16.v, Value.int .i64 x11]] w31 fun e18 w32 =>
           ∃ b16 : Bool, ∃ s19 : Slc, ∃ s20 : Slc, e18 = .returned (Value.agg #[Value.bool b16, s19.v, s20.v]) ∧ Ahead w31 w32 ∧
           (∀ w49, Ext w32 w49 → Ahead w w49 →
            (K16 t2 x10 x12 t8_0 t8_1 t8_2 b15 s17 s18 b16 s19 s20 w49))))))))))
    (h3000016 : ∀ (t2 : Int) (t15 : Int) (t17 : Int) (t8_0 : Bool) (t8_1 : Slc) (t8_2 : Slc) (t18_0 : Bool) (t18_1 : Slc) (t18_2 : Slc) (t19_0 : Bool) (t19_1 : Slc) (t19_2 : Slc) (w_ : World), Ahead w w_ → K16 t2 t15 t17 t8_0 t8_1 t8_2 t18_0 t18_1 t18_2 t19_0 t19_1 t19_2 w_ → 
    Calls Tryz.prog 16 #[Value.int .i64 1] w_ fun e19 w33 =>
    ∃ b17 : Bool, ∃ s21 : Slc, ∃ s22 : Slc, e19 = .returned (Value.agg #[Value.bool b17, s21.v, s22.v]) ∧ Ahead w_ w33 ∧
    (Calls Tryz.prog 15 #[Value.agg #[Value.bool b17, s21.v, s22.v], Value.int .i64 t2] w33 fun e20 w34 =>
     ∃ b18 : Bool, ∃ s23 : Slc, ∃ s24 : Slc, e20 = .returned (Value.agg #[Value.bool b18, s23.v, s24.v]) ∧ Ahead w33 w34 ∧
     (∀ w35, Ext w34 w35 → Ahead w w35 →
      (Calls Tryz.prog 17 #[Value.agg #[Value.bool t8_0, t8_1.v, t8_2.v]] w35 fun e21 w36 =>
       ∃ b19 : Bool, ∃ s25 : Slc, ∃ s26 : Slc, e21 = .returned (Value.agg #[Value.bool b19, s25.v, s26.v]) ∧ Ahead w35 w36 ∧
       (br (t15 != 0)
        (∀ w37, Ext w36 w37 → Ahead w w37 →
         (R (.returned (Value.bool false)) w37))
        (br (t17 != 0)
         (∀ w38, Ext w36 w38 → Ahead w w38 →
          (R (.returned (Value.bool false)) w38))
         (∀ w39, Ext w36 w39 → Ahead w w39 →
          (Calls Tryz.prog 10 #[Value.agg #[Value.bool t18_0, t18_1.v, t18_2.v]] w39 fun e22 w40 =>
           ∃ x13 : Int, e22 = .returned (Value.int .i64 x13) ∧ Ahead w39 w40 ∧
           (br (decide (x13 < 0))
            (R (.returned (Value.bool false)) w40)
            (Calls Tryz.prog 19 #[Value.agg #[Value.bool t18_0, t18_1.v, t18_2.v], Value.agg #[Value.bool t18_0, t18_1.v, t18_2.v]] w40 fun e23 w41 =>
             ∃ b20 : Bool, ∃ s27 : Slc, ∃ s28 : Slc, e23 = .returned (Value.agg #[Value.bool b20, s27.v, s28.v]) ∧ Ahead w40 w41 ∧
             (Calls Tryz.prog 18 #[Value.agg #[Value.bool b20, s27.v, s28.v], Value.agg #[Value.bool b19, s25.v, s26.v]] w41 fun e24 w42 =>
              ∃ x14 : Int, e24 = .returned (Value.int .i64 x14) ∧ Ahead w41 w42 ∧
              (br (decide (x14 > 0))
               (R (.returned (Value.bool false)) w42)
               (Calls Tryz.prog 19 #[Value.agg #[Value.bool t19_0, t19_1.v, t19_2.v], Value.agg #[Value.bool t19_0, t19_1.v, t19_2.v]] w42 fun e25 w43 =>
                ∃ b21 : Bool, ∃ s29 : Slc, ∃ s30 : Slc, e25 = .returned (Value.agg #[Value.bool b21, s29.v, s30.v]) ∧ Ahead w42 w43 ∧
                (Calls Tryz.prog 18 #[Value.agg #[Value.bool b21, s29.v, s30.v], Value.agg #[Value.bool b19, s25.v, s26.v]] w43 fun e26 w44 =>
                 ∃ x15 : Int, e26 = .returned (Value.int .i64 x15) ∧ Ahead w43 w44 ∧
                 (br (decide (x15 < 0))
                  (R (.returned (Value.bool false)) w44)
                  (∀ w45, Ext w44 w45 → Ahead w w45 →
                   (Calls Tryz.prog 20 #[Value.agg #[Value.bool t19_0, t19_1.v, t19_2.v], Value.agg #[Value.bool t18_0, t18_1.v, t18_2.v]] w45 fun e27 w46 =>
                    ∃ b22 : Bool, ∃ s31 : Slc, ∃ s32 : Slc, e27 = .returned (Value.agg #[Value.bool b22, s31.v, s32.v]) ∧ Ahead w45 w46 ∧
                    (Calls Tryz.prog 18 #[Value.agg #[Value.bool b22, s31.v, s32.v], Value.agg #[Value.bool b18, s23.v, s24.v]] w46 fun e28 w47 =>
                     ∃ x16 : Int, e28 = .returned (Value.int .i64 x16) ∧ Ahead w46 w47 ∧
                     (br (decide (x16 ≤ 0))
                      (Calls Tryz.prog 6 #[] w47 fun e29 w48 =>
                       ∃ b23 : Bool, e29 = .returned (Value.bool b23) ∧ Ahead w47 w48 ∧
                       (R (.returned (Value.bool b23)) w48))
                      (R (.returned (Value.bool false)) w47)))))))))))))))))))) :
    Calls Tryz.prog 3 #[Value.agg #[Value.bool a0_0, a0_1.v, Value.int .i64 a0_2], Value.agg #[Value.bool a1_0, a1_1.v, Value.int .i64 a1_2], Value.int .i64 a2] w (fun e_ w_ => Ahead w w_ ∧ R e_ w_) := by
  refine surdtop_WholeRounds_vc a0_0 a0_1 a0_2 a1_0 a1_1 a1_2 a2 w _ (fun t2 t3 t4 t7 t8 w_ => ∃ c3_ : Nat, ∃ c4_ : Nat, ∃ c7_ : Nat, ∃ c8_ : Nat, ∃ t3_0 : Bool, ∃ t3_1 : Slc, ∃ t3_2 : Int, ∃ t4_0 : Bool, ∃ t4_1 : Slc, ∃ t4_2 : Int, ∃ t7_0 : Bool, ∃ t7_1 : Slc, ∃ t7_2 : Slc, ∃ t8_0 : Bool, ∃ t8_1 : Slc, ∃ t8_2 : Slc, t3 = ⟨c3_, 0, none⟩ ∧ Blt w_ c3_ 27 #[Value.bool t3_0, t3_1.v, Value.int .i64 t3_2] ∧ w.heap.size ≤ c3_ ∧ t4 = ⟨c4_, 0, none⟩ ∧ Blt w_ c4_ 27 #[Value.bool t4_0, t4_1.v, Value.int .i64 t4_2] ∧ w.heap.size ≤ c4_ ∧ t7 = ⟨c7_, 0, none⟩ ∧ Blt w_ c7_ 34 #[Value.bool t7_0, t7_1.v, t7_2.v] ∧ w.heap.size ≤ c7_ ∧ t8 = ⟨c8_, 0, none⟩ ∧ Blt w_ c8_ 34 #[Value.bool t8_0, t8_1.v, t8_2.v] ∧ w.heap.size ≤ c8_ ∧ c3_ ≠ c4_ ∧ c3_ ≠ c7_ ∧ c3_ ≠ c8_ ∧ c4_ ≠ c7_ ∧ c4_ ≠ c8_ ∧ c7_ ≠ c8_ ∧ Ahead w w_ ∧ K6 t2 t3_0 t3_1 t3_2 t4_0 t4_1 t4_2 t7_0 t7_1 t7_2 t8_0 t8_1 t8_2 w_) (fun t2 t4 t8 w_ => ∃ c4_ : Nat, ∃ c8_ : Nat, ∃ t4_0 : Bool, ∃ t4_1 : Slc, ∃ t4_2 : Int, ∃ t8_0 : Bool, ∃ t8_1 : Slc, ∃ t8_2 : Slc, t4 = ⟨c4_, 0, none⟩ ∧ Blt w_ c4_ 27 #[Value.bool t4_0, t4_1.v, Value.int .i64 t4_2] ∧ w.heap.size ≤ c4_ ∧ t8 = ⟨c8_, 0, none⟩ ∧ Blt w_ c8_ 34 #[Value.bool t8_0, t8_1.v, t8_2.v] ∧ w.heap.size ≤ c8_ ∧ c4_ ≠ c8_ ∧ Ahead w w_ ∧ K12 t2 t4_0 t4_1 t4_2 t8_0 t8_1 t8_2 w_) (fun t2 t8 t15 t17 t18 t19 w_ => ∃ c8_ : Nat, ∃ c18_ : Nat, ∃ c19_ : Nat, ∃ t8_0 : Bool, ∃ t8_1 : Slc, ∃ t8_2 : Slc, ∃ t18_0 : Bool, ∃ t18_1 : Slc, ∃ t18_2 : Slc, ∃ t19_0 : Bool, ∃ t19_1 : Slc, ∃ t19_2 : Slc, t8 = ⟨c8_, 0, none⟩ ∧ Blt w_ c8_ 34 #[Value.bool t8_0, t8_1.v, t8_2.v] ∧ w.heap.size ≤ c8_ ∧ t18 = ⟨c18_, 0, none⟩ ∧ Blt w_ c18_ 34 #[Value.bool t18_0, t18_1.v, t18_2.v] ∧ w.heap.size ≤ c18_ ∧ t19 = ⟨c19_, 0, none⟩ ∧ Blt w_ c19_ 34 #[Value.bool t19_0, t19_1.v, t19_2.v] ∧ w.heap.size ≤ c19_ ∧ c8_ ≠ c18_ ∧ c8_ ≠ c19_ ∧ c18_ ≠ c19_ ∧ Ahead w w_ ∧ K16 t2 t15 t17 t8_0 t8_1 t8_2 t18_0 t18_1 t18_2 t19_0 t19_1 t19_2 w_) ?_ ?_ ?_ ?_
  · have A : Ahead w w := Ahead.refl w
    have X : Ext w w := Ext.refl w
    refine newC_t fun bk1 u1 hb1 ha_u1 _ B1 => ?_
    have g1 := le_eq A.size hb1
    obtain ⟨A, X⟩ := axa2 ha_u1 A X
    refine newC_t fun bk2 u2 hb2 ha_u2 _ B2 => ?_
    have g2 := le_eq A.size hb2
    have l1_2 := lt1 hb2 B1
    replace B1 := B1.ahead ha_u2
    obtain ⟨A, X⟩ := axa2 ha_u2 A X
    refine ldS_t 1 B1 rfl ?_
    refine ldS_t 1 B2 rfl ?_
    replace h := h _ X A
    refine newC_map h fun ad1 w2 ha_w2 h_ => ?_
    clear h
    have h := h_
    clear h_
    obtain ⟨B1, B2⟩ := ah2 ha_w2 B1 B2
    obtain ⟨A, X⟩ := axa2 ha_w2 A X
    replace X : Ext w2 w2 := Ext.refl _
    refine Calls.mono h ?_
    clear h
    rintro e1 w3 ⟨b1, he_, ha_w3, h⟩
    refine ⟨b1, he_, ?_⟩
    clear he_
    obtain ⟨B1, B2⟩ := ah2 ha_w3 B1 B2
    obtain ⟨A, X⟩ := axa2 ha_w3 A X
    replace X : Ext w3 w3 := Ext.refl _
    refine br_map h (fun h_ => ?_) (fun h_ => ?_)
    ·clear h
     have h := h_
     clear h_
     refine Calls.mono h ?_
     clear h
     rintro e2 w4 ⟨b2, he_, ha_w4, h⟩
     refine ⟨b2, he_, ?_⟩
     clear he_
     obtain ⟨B1, B2⟩ := ah2 ha_w4 B1 B2
     obtain ⟨A, X⟩ := axa2 ha_w4 A X
     replace X : Ext w4 w4 := Ext.refl _
     exact ⟨A, h⟩
    ·clear h
     have h := h_
     clear h_
     have hd_ := Sp.Ahead.drew w3
     obtain ⟨B1, B2⟩ := ah2 hd_ B1 B2
     obtain ⟨A, X⟩ := axa2 hd_ A X
     clear hd_
     have z1 := B1.lt
     have z2 := B2.lt
     let V_ : Nat → Nat → Prop := fun (q_ k : Nat) => (k = bk1 ∨ k = bk2 ∨ w3.drew.heap.size ≤ k) ∧ ((q_ = 0) → k ≠ bk1) ∧ ((q_ = 2) → k ≠ bk2)
     refine ⟨V_, ?_⟩
     have Y_ : w3.drew.heap.size ≤ w3.drew.heap.size := Nat.le_refl _
     refine out_t (b := bk1) (i := 0) (by first | rfl | exact Sp.add_off) (fun hv_ => (by replace hv_ : _ ∧ _ := hv_; omega)) ?_
     refine ldB_t 0 B1 rfl ?_
     refine ldS_t 1 B1 rfl ?_
     refine ldI_t 2 B1 rfl ?_
     refine out_t (b := bk2) (i := 0) (by first | rfl | exact Sp.add_off) (fun hv_ => (by replace hv_ : _ ∧ _ := hv_; omega)) ?_
     refine ldB_t 0 B2 rfl ?_
     refine ldS_t 1 B2 rfl ?_
     refine ldI_t 2 B2 rfl ?_
     replace h := h _ X A
     refine Calls.mono h ?_
     clear h
     rintro e3 w6 ⟨b3, s1, x1, he_, ha_w6, h⟩
     refine ⟨b3, s1, x1, he_, ?_⟩
     clear he_
     obtain ⟨B1, B2⟩ := ah2 ha_w6 B1 B2
     obtain ⟨A, X, Y_⟩ := axa3 ha_w6 A X Y_
     replace X : Ext w6 w6 := Ext.refl _
     refine ⟨(Bar.of_ahead ha_w6), ?_⟩
     refine Calls.mono h ?_
     clear h
     rintro e4 w7 ⟨b4, s2, x2, he_, ha_w7, h⟩
     refine ⟨b4, s2, x2, he_, ?_⟩
     clear he_
     obtain ⟨B1, B2⟩ := ah2 ha_w7 B1 B2
     obtain ⟨A, X, Y_⟩ := axa3 ha_w7 A X Y_
     replace X : Ext w7 w7 := Ext.refl _
     refine Calls.mono h ?_
     clear h
     rintro e5 w8 ⟨x3, he_, ha_w8, h⟩
     refine ⟨x3, he_, ?_⟩
     clear he_
     obtain ⟨B1, B2⟩ := ah2 ha_w8 B1 B2
     obtain ⟨A, X, Y_⟩ := axa3 ha_w8 A X Y_
     replace X : Ext w8 w8 := Ext.refl _
     refine st3_t B1 rfl rfl rfl rfl fun u3 k_u3 B1 => ?_
     replace B2 := up1 k_u3 B2
     obtain ⟨A, X, Y_⟩ := axu3 k_u3 g1 A X Y_
     refine st3_t B2 rfl rfl rfl rfl fun u4 k_u4 B2 => ?_
     replace B1 := up1 k_u4 B1
     obtain ⟨A, X, Y_⟩ := axu3 k_u4 g2 A X Y_
     have hd_ := Sp.Ahead.drew u4
     obtain ⟨B1, B2⟩ := ah2 hd_ B1 B2
     obtain ⟨A, X⟩ := axa2 hd_ A X
     clear hd_
     have z1 := B1.lt
     have z2 := B2.lt
     let V_ : Nat → Nat → Prop := fun (q_ k : Nat) => (k < 0 ∨ u4.drew.heap.size ≤ k) ∧ 0 ≤ k
     refine ⟨V_, ?_⟩
     have Y_ : u4.drew.heap.size ≤ u4.drew.heap.size := Nat.le_refl _
     refine out_t (b := bk1) (i := 0) (by first | rfl | exact Sp.add_off) (fun hv_ => (by replace hv_ : _ ∧ _ := hv_; omega)) ?_
     refine ldB_t 0 B1 rfl ?_
     refine ldS_t 1 B1 rfl ?_
     refine ldI_t 2 B1 rfl ?_
     refine out_t (b := bk2) (i := 0) (by first | rfl | exact Sp.add_off) (fun hv_ => (by replace hv_ : _ ∧ _ := hv_; omega)) ?_
     refine ldB_t 0 B2 rfl ?_
     refine ldS_t 1 B2 rfl ?_
     refine ldI_t 2 B2 rfl ?_
     refine ⟨?_, ?_⟩
     ·replace h := h _ X A
      refine Calls.mono h ?_
      clear h
      rintro e6 w10 ⟨b5, s3, s4, he_, ha_w10, h⟩
      refine ⟨b5, s3, s4, he_, ?_⟩
      clear he_
      obtain ⟨B1, B2⟩ := ah2 ha_w10 B1 B2
      obtain ⟨A, X, Y_⟩ := axa3 ha_w10 A X Y_
      replace X : Ext w10 w10 := Ext.refl _
      refine ⟨(Bar.of_ahead ha_w10), ?_⟩
      refine ⟨?_, ?_⟩
      ·replace h := h _ X A
       refine Calls.mono h ?_
       clear h
       rintro e7 w12 ⟨b6, s5, s6, he_, ha_w12, h⟩
       refine ⟨b6, s5, s6, he_, ?_⟩
       clear he_
       obtain ⟨B1, B2⟩ := ah2 ha_w12 B1 B2
       obtain ⟨A, X, Y_⟩ := axa3 ha_w12 A X Y_
       replace X : Ext w12 w12 := Ext.refl _
       refine ⟨?_, ?_⟩
       ·refine newC_t fun bk3 u5 hb3 ha_u5 _ B3 => ?_
        have g3 := le_eq A.size hb3
        obtain ⟨_, _⟩ := lt2 hb3 B1 B2
        have y3 := le_eq Y_ hb3
        obtain ⟨B1, B2⟩ := ah2 ha_u5 B1 B2
        obtain ⟨A, X, Y_⟩ := axa3 ha_u5 A X Y_
        refine bb2 ha_u5 ?_
        refine newC_t fun bk4 u6 hb4 ha_u6 _ B4 => ?_
        have g4 := le_eq A.size hb4
        obtain ⟨_, _, _⟩ := lt3 hb4 B1 B2 B3
        have y4 := le_eq Y_ hb4
        obtain ⟨B1, B2, B3⟩ := ah3 ha_u6 B1 B2 B3
        obtain ⟨A, X, Y_⟩ := axa3 ha_u6 A X Y_
        refine bb2 ha_u6 ?_
        refine st3_t B3 rfl rfl rfl rfl fun u7 k_u7 B3 => ?_
        obtain ⟨B1, B2, B4⟩ := up3 k_u7 B1 B2 B4
        obtain ⟨A, X, Y_⟩ := axu3 k_u7 g3 A X Y_
        refine st3_t B4 rfl rfl rfl rfl fun u8 k_u8 B4 => ?_
        obtain ⟨B1, B2, B3⟩ := up3 k_u8 B1 B2 B3
        obtain ⟨A, X, Y_⟩ := axu3 k_u8 g4 A X Y_
        replace h := h _ X A
        refine ⟨bk1, bk2, bk3, bk4, b3, s1, x1, b4, s2, x2, b5, s3, s4, b6, s5, s6, rfl, B1, g1, rfl, B2, g2, rfl, B3, g3, rfl, B4, g4, ?_⟩
        iterate 6 refine nd ?_
        exact ⟨A, h⟩
       ·refine newC_t fun bk29 u65 hb29 ha_u65 _ B29 => ?_
        have g29 := le_eq A.size hb29
        obtain ⟨_, _⟩ := lt2 hb29 B1 B2
        have y29 := le_eq Y_ hb29
        obtain ⟨B1, B2⟩ := ah2 ha_u65 B1 B2
        obtain ⟨A, X, Y_⟩ := axa3 ha_u65 A X Y_
        refine bb2 ha_u65 ?_
        refine newC_t fun bk30 u66 hb30 ha_u66 _ B30 => ?_
        have g30 := le_eq A.size hb30
        obtain ⟨_, _, _⟩ := lt3 hb30 B1 B2 B29
        have y30 := le_eq Y_ hb30
        obtain ⟨B1, B2, B29⟩ := ah3 ha_u66 B1 B2 B29
        obtain ⟨A, X, Y_⟩ := axa3 ha_u66 A X Y_
        refine bb2 ha_u66 ?_
        refine st3_t B30 rfl rfl rfl rfl fun u67 k_u67 B30 => ?_
        obtain ⟨B1, B2, B29⟩ := up3 k_u67 B1 B2 B29
        obtain ⟨A, X, Y_⟩ := axu3 k_u67 g30 A X Y_
        refine st3_t B29 rfl rfl rfl rfl fun u68 k_u68 B29 => ?_
        obtain ⟨B1, B2, B30⟩ := up3 k_u68 B1 B2 B30
        obtain ⟨A, X, Y_⟩ := axu3 k_u68 g29 A X Y_
        replace h := h _ X A
        refine ⟨bk1, bk2, bk30, bk29, b3, s1, x1, b4, s2, x2, b5, s3, s4, b6, s5, s6, rfl, B1, g1, rfl, B2, g2, rfl, B30, g30, rfl, B29, g29, ?_⟩
        iterate 6 refine nd ?_
        exact ⟨A, h⟩
      ·refine ⟨?_, ?_⟩
       ·refine newC_t fun bk31 u69 hb31 ha_u69 _ B31 => ?_
        have g31 := le_eq A.size hb31
        obtain ⟨_, _⟩ := lt2 hb31 B1 B2
        have y31 := le_eq Y_ hb31
        obtain ⟨B1, B2⟩ := ah2 ha_u69 B1 B2
        obtain ⟨A, X, Y_⟩ := axa3 ha_u69 A X Y_
        refine bb2 ha_u69 ?_
        refine ⟨?_, ?_⟩
        ·replace h := h _ X A
         refine Calls.mono h ?_
         clear h
         rintro e44 w92 ⟨b38, s61, s62, he_, ha_w92, h⟩
         refine ⟨b38, s61, s62, he_, ?_⟩
         clear he_
         obtain ⟨B1, B2, B31⟩ := ah3 ha_w92 B1 B2 B31
         obtain ⟨A, X, Y_⟩ := axa3 ha_w92 A X Y_
         replace X : Ext w92 w92 := Ext.refl _
         refine newC_t fun bk32 u70 hb32 ha_u70 _ B32 => ?_
         have g32 := le_eq A.size hb32
         obtain ⟨_, _, _⟩ := lt3 hb32 B1 B2 B31
         have y32 := le_eq Y_ hb32
         obtain ⟨B1, B2, B31⟩ := ah3 ha_u70 B1 B2 B31
         obtain ⟨A, X, Y_⟩ := axa3 ha_u70 A X Y_
         refine bb2 ha_u70 ?_
         refine st3_t B31 rfl rfl rfl rfl fun u71 k_u71 B31 => ?_
         obtain ⟨B1, B2, B32⟩ := up3 k_u71 B1 B2 B32
         obtain ⟨A, X, Y_⟩ := axu3 k_u71 g31 A X Y_
         refine st3_t B32 rfl rfl rfl rfl fun u72 k_u72 B32 => ?_
         obtain ⟨B1, B2, B31⟩ := up3 k_u72 B1 B2 B31
         obtain ⟨A, X, Y_⟩ := axu3 k_u72 g32 A X Y_
         replace h := h _ X A
         refine ⟨bk1, bk2, bk31, bk32, b3, s1, x1, b4, s2, x2, b5, s3, s4, b38, s61, s62, rfl, B1, g1, rfl, B2, g2, rfl, B31, g31, rfl, B32, g32, ?_⟩
         iterate 6 refine nd ?_
         exact ⟨A, h⟩
        ·refine newC_t fun bk33 u73 hb33 ha_u73 _ B33 => ?_
         have g33 := le_eq A.size hb33
         obtain ⟨_, _, _⟩ := lt3 hb33 B1 B2 B31
         have y33 := le_eq Y_ hb33
         obtain ⟨B1, B2, B31⟩ := ah3 ha_u73 B1 B2 B31
         obtain ⟨A, X, Y_⟩ := axa3 ha_u73 A X Y_
         refine bb2 ha_u73 ?_
         replace h := h _ X A
         refine Calls.mono h ?_
         clear h
         rintro e45 w95 ⟨b39, s63, s64, he_, ha_w95, h⟩
         refine ⟨b39, s63, s64, he_, ?_⟩
         clear he_
         obtain ⟨B1, B2, B31, B33⟩ := ah4 ha_w95 B1 B2 B31 B33
         obtain ⟨A, X, Y_⟩ := axa3 ha_w95 A X Y_
         replace X : Ext w95 w95 := Ext.refl _
         refine st3_t B31 rfl rfl rfl rfl fun u74 k_u74 B31 => ?_
         obtain ⟨B1, B2, B33⟩ := up3 k_u74 B1 B2 B33
         obtain ⟨A, X, Y_⟩ := axu3 k_u74 g31 A X Y_
         refine st3_t B33 rfl rfl rfl rfl fun u75 k_u75 B33 => ?_
         obtain ⟨B1, B2, B31⟩ := up3 k_u75 B1 B2 B31
         obtain ⟨A, X, Y_⟩ := axu3 k_u75 g33 A X Y_
         replace h := h _ X A
         refine ⟨bk1, bk2, bk31, bk33, b3, s1, x1, b4, s2, x2, b5, s3, s4, b39, s63, s64, rfl, B1, g1, rfl, B2, g2, rfl, B31, g31, rfl, B33, g33, ?_⟩
         iterate 6 refine nd ?_
         exact ⟨A, h⟩
       ·refine newC_t fun bk34 u76 hb34 ha_u76 _ B34 => ?_
        have g34 := le_eq A.size hb34
        obtain ⟨_, _⟩ := lt2 hb34 B1 B2
        have y34 := le_eq Y_ hb34
        obtain ⟨B1, B2⟩ := ah2 ha_u76 B1 B2
        obtain ⟨A, X, Y_⟩ := axa3 ha_u76 A X Y_
        refine bb2 ha_u76 ?_
        refine ⟨?_, ?_⟩
        ·replace h := h _ X A
         refine Calls.mono h ?_
         clear h
         rintro e46 w98 ⟨b40, s65, s66, he_, ha_w98, h⟩
         refine ⟨b40, s65, s66, he_, ?_⟩
         clear he_
         obtain ⟨B1, B2, B34⟩ := ah3 ha_w98 B1 B2 B34
         obtain ⟨A, X, Y_⟩ := axa3 ha_w98 A X Y_
         replace X : Ext w98 w98 := Ext.refl _
         refine newC_t fun bk35 u77 hb35 ha_u77 _ B35 => ?_
         have g35 := le_eq A.size hb35
         obtain ⟨_, _, _⟩ := lt3 hb35 B1 B2 B34
         have y35 := le_eq Y_ hb35
         obtain ⟨B1, B2, B34⟩ := ah3 ha_u77 B1 B2 B34
         obtain ⟨A, X, Y_⟩ := axa3 ha_u77 A X Y_
         refine bb2 ha_u77 ?_
         refine st3_t B35 rfl rfl rfl rfl fun u78 k_u78 B35 => ?_
         obtain ⟨B1, B2, B34⟩ := up3 k_u78 B1 B2 B34
         obtain ⟨A, X, Y_⟩ := axu3 k_u78 g35 A X Y_
         refine st3_t B34 rfl rfl rfl rfl fun u79 k_u79 B34 => ?_
         obtain ⟨B1, B2, B35⟩ := up3 k_u79 B1 B2 B35
         obtain ⟨A, X, Y_⟩ := axu3 k_u79 g34 A X Y_
         replace h := h _ X A
         refine ⟨bk1, bk2, bk35, bk34, b3, s1, x1, b4, s2, x2, b5, s3, s4, b40, s65, s66, rfl, B1, g1, rfl, B2, g2, rfl, B35, g35, rfl, B34, g34, ?_⟩
         iterate 6 refine nd ?_
         exact ⟨A, h⟩
        ·refine newC_t fun bk36 u80 hb36 ha_u80 _ B36 => ?_
         have g36 := le_eq A.size hb36
         obtain ⟨_, _, _⟩ := lt3 hb36 B1 B2 B34
         have y36 := le_eq Y_ hb36
         obtain ⟨B1, B2, B34⟩ := ah3 ha_u80 B1 B2 B34
         obtain ⟨A, X, Y_⟩ := axa3 ha_u80 A X Y_
         refine bb2 ha_u80 ?_
         replace h := h _ X A
         refine Calls.mono h ?_
         clear h
         rintro e47 w101 ⟨b41, s67, s68, he_, ha_w101, h⟩
         refine ⟨b41, s67, s68, he_, ?_⟩
         clear he_
         obtain ⟨B1, B2, B34, B36⟩ := ah4 ha_w101 B1 B2 B34 B36
         obtain ⟨A, X, Y_⟩ := axa3 ha_w101 A X Y_
         replace X : Ext w101 w101 := Ext.refl _
         refine st3_t B36 rfl rfl rfl rfl fun u81 k_u81 B36 => ?_
         obtain ⟨B1, B2, B34⟩ := up3 k_u81 B1 B2 B34
         obtain ⟨A, X, Y_⟩ := axu3 k_u81 g36 A X Y_
         refine st3_t B34 rfl rfl rfl rfl fun u82 k_u82 B34 => ?_
         obtain ⟨B1, B2, B36⟩ := up3 k_u82 B1 B2 B36
         obtain ⟨A, X, Y_⟩ := axu3 k_u82 g34 A X Y_
         replace h := h _ X A
         refine ⟨bk1, bk2, bk36, bk34, b3, s1, x1, b4, s2, x2, b5, s3, s4, b41, s67, s68, rfl, B1, g1, rfl, B2, g2, rfl, B36, g36, rfl, B34, g34, ?_⟩
         iterate 6 refine nd ?_
         exact ⟨A, h⟩
     ·refine ⟨?_, ?_⟩
      ·refine newC_t fun bk37 u83 hb37 ha_u83 _ B37 => ?_
       have g37 := le_eq A.size hb37
       obtain ⟨_, _⟩ := lt2 hb37 B1 B2
       have y37 := le_eq Y_ hb37
       obtain ⟨B1, B2⟩ := ah2 ha_u83 B1 B2
       obtain ⟨A, X, Y_⟩ := axa3 ha_u83 A X Y_
       refine bb2 ha_u83 ?_
       refine ⟨?_, ?_⟩
       ·replace h := h _ X A
        refine Calls.mono h ?_
        clear h
        rintro e48 w104 ⟨b42, s69, s70, he_, ha_w104, h⟩
        refine ⟨b42, s69, s70, he_, ?_⟩
        clear he_
        obtain ⟨B1, B2, B37⟩ := ah3 ha_w104 B1 B2 B37
        obtain ⟨A, X, Y_⟩ := axa3 ha_w104 A X Y_
        replace X : Ext w104 w104 := Ext.refl _
        refine ⟨(Bar.of_ahead ha_w104), ?_⟩
        refine ⟨?_, ?_⟩
        ·replace h := h _ X A
         refine Calls.mono h ?_
         clear h
         rintro e49 w106 ⟨b43, s71, s72, he_, ha_w106, h⟩
         refine ⟨b43, s71, s72, he_, ?_⟩
         clear he_
         obtain ⟨B1, B2, B37⟩ := ah3 ha_w106 B1 B2 B37
         obtain ⟨A, X, Y_⟩ := axa3 ha_w106 A X Y_
         replace X : Ext w106 w106 := Ext.refl _
         refine newC_t fun bk38 u84 hb38 ha_u84 _ B38 => ?_
         have g38 := le_eq A.size hb38
         obtain ⟨_, _, _⟩ := lt3 hb38 B1 B2 B37
         have y38 := le_eq Y_ hb38
         obtain ⟨B1, B2, B37⟩ := ah3 ha_u84 B1 B2 B37
         obtain ⟨A, X, Y_⟩ := axa3 ha_u84 A X Y_
         refine bb2 ha_u84 ?_
         refine st3_t B37 rfl rfl rfl rfl fun u85 k_u85 B37 => ?_
         obtain ⟨B1, B2, B38⟩ := up3 k_u85 B1 B2 B38
         obtain ⟨A, X, Y_⟩ := axu3 k_u85 g37 A X Y_
         refine st3_t B38 rfl rfl rfl rfl fun u86 k_u86 B38 => ?_
         obtain ⟨B1, B2, B37⟩ := up3 k_u86 B1 B2 B37
         obtain ⟨A, X, Y_⟩ := axu3 k_u86 g38 A X Y_
         replace h := h _ X A
         refine ⟨bk1, bk2, bk37, bk38, b3, s1, x1, b4, s2, x2, b42, s69, s70, b43, s71, s72, rfl, B1, g1, rfl, B2, g2, rfl, B37, g37, rfl, B38, g38, ?_⟩
         iterate 6 refine nd ?_
         exact ⟨A, h⟩
        ·refine newC_t fun bk39 u87 hb39 ha_u87 _ B39 => ?_
         have g39 := le_eq A.size hb39
         obtain ⟨_, _, _⟩ := lt3 hb39 B1 B2 B37
         have y39 := le_eq Y_ hb39
         obtain ⟨B1, B2, B37⟩ := ah3 ha_u87 B1 B2 B37
         obtain ⟨A, X, Y_⟩ := axa3 ha_u87 A X Y_
         refine bb2 ha_u87 ?_
         replace h := h _ X A
         refine Calls.mono h ?_
         clear h
         rintro e50 w109 ⟨b44, s73, s74, he_, ha_w109, h⟩
         refine ⟨b44, s73, s74, he_, ?_⟩
         clear he_
         obtain ⟨B1, B2, B37, B39⟩ := ah4 ha_w109 B1 B2 B37 B39
         obtain ⟨A, X, Y_⟩ := axa3 ha_w109 A X Y_
         replace X : Ext w109 w109 := Ext.refl _
         refine st3_t B37 rfl rfl rfl rfl fun u88 k_u88 B37 => ?_
         obtain ⟨B1, B2, B39⟩ := up3 k_u88 B1 B2 B39
         obtain ⟨A, X, Y_⟩ := axu3 k_u88 g37 A X Y_
         refine st3_t B39 rfl rfl rfl rfl fun u89 k_u89 B39 => ?_
         obtain ⟨B1, B2, B37⟩ := up3 k_u89 B1 B2 B37
         obtain ⟨A, X, Y_⟩ := axu3 k_u89 g39 A X Y_
         replace h := h _ X A
         refine ⟨bk1, bk2, bk37, bk39, b3, s1, x1, b4, s2, x2, b42, s69, s70, b44, s73, s74, rfl, B1, g1, rfl, B2, g2, rfl, B37, g37, rfl, B39, g39, ?_⟩
         iterate 6 refine nd ?_
         exact ⟨A, h⟩
       ·refine newC_t fun bk40 u90 hb40 ha_u90 _ B40 => ?_
        have g40 := le_eq A.size hb40
        obtain ⟨_, _, _⟩ := lt3 hb40 B1 B2 B37
        have y40 := le_eq Y_ hb40
        obtain ⟨B1, B2, B37⟩ := ah3 ha_u90 B1 B2 B37
        obtain ⟨A, X, Y_⟩ := axa3 ha_u90 A X Y_
        refine bb2 ha_u90 ?_
        replace h := h _ X A
        refine Calls.mono h ?_
        clear h
        rintro e51 w112 ⟨b45, s75, s76, he_, ha_w112, h⟩
        refine ⟨b45, s75, s76, he_, ?_⟩
        clear he_
        obtain ⟨B1, B2, B37, B40⟩ := ah4 ha_w112 B1 B2 B37 B40
        obtain ⟨A, X, Y_⟩ := axa3 ha_w112 A X Y_
        replace X : Ext w112 w112 := Ext.refl _
        refine ⟨(Bar.of_ahead ha_w112), ?_⟩
        replace h := h _ X A
        refine Calls.mono h ?_
        clear h
        rintro e52 w114 ⟨b46, s77, s78, he_, ha_w114, h⟩
        refine ⟨b46, s77, s78, he_, ?_⟩
        clear he_
        obtain ⟨B1, B2, B37, B40⟩ := ah4 ha_w114 B1 B2 B37 B40
        obtain ⟨A, X, Y_⟩ := axa3 ha_w114 A X Y_
        replace X : Ext w114 w114 := Ext.refl _
        refine st3_t B37 rfl rfl rfl rfl fun u91 k_u91 B37 => ?_
        obtain ⟨B1, B2, B40⟩ := up3 k_u91 B1 B2 B40
        obtain ⟨A, X, Y_⟩ := axu3 k_u91 g37 A X Y_
        refine st3_t B40 rfl rfl rfl rfl fun u92 k_u92 B40 => ?_
        obtain ⟨B1, B2, B37⟩ := up3 k_u92 B1 B2 B37
        obtain ⟨A, X, Y_⟩ := axu3 k_u92 g40 A X Y_
        replace h := h _ X A
        refine ⟨bk1, bk2, bk37, bk40, b3, s1, x1, b4, s2, x2, b45, s75, s76, b46, s77, s78, rfl, B1, g1, rfl, B2, g2, rfl, B37, g37, rfl, B40, g40, ?_⟩
        iterate 6 refine nd ?_
        exact ⟨A, h⟩
      ·refine newC_t fun bk41 u93 hb41 ha_u93 _ B41 => ?_
       have g41 := le_eq A.size hb41
       obtain ⟨_, _⟩ := lt2 hb41 B1 B2
       have y41 := le_eq Y_ hb41
       obtain ⟨B1, B2⟩ := ah2 ha_u93 B1 B2
       obtain ⟨A, X, Y_⟩ := axa3 ha_u93 A X Y_
       refine bb2 ha_u93 ?_
       refine ⟨?_, ?_⟩
       ·replace h := h _ X A
        refine Calls.mono h ?_
        clear h
        rintro e53 w117 ⟨b47, s79, s80, he_, ha_w117, h⟩
        refine ⟨b47, s79, s80, he_, ?_⟩
        clear he_
        obtain ⟨B1, B2, B41⟩ := ah3 ha_w117 B1 B2 B41
        obtain ⟨A, X, Y_⟩ := axa3 ha_w117 A X Y_
        replace X : Ext w117 w117 := Ext.refl _
        refine ⟨(Bar.of_ahead ha_w117), ?_⟩
        refine ⟨?_, ?_⟩
        ·replace h := h _ X A
         refine Calls.mono h ?_
         clear h
         rintro e54 w119 ⟨b48, s81, s82, he_, ha_w119, h⟩
         refine ⟨b48, s81, s82, he_, ?_⟩
         clear he_
         obtain ⟨B1, B2, B41⟩ := ah3 ha_w119 B1 B2 B41
         obtain ⟨A, X, Y_⟩ := axa3 ha_w119 A X Y_
         replace X : Ext w119 w119 := Ext.refl _
         refine newC_t fun bk42 u94 hb42 ha_u94 _ B42 => ?_
         have g42 := le_eq A.size hb42
         obtain ⟨_, _, _⟩ := lt3 hb42 B1 B2 B41
         have y42 := le_eq Y_ hb42
         obtain ⟨B1, B2, B41⟩ := ah3 ha_u94 B1 B2 B41
         obtain ⟨A, X, Y_⟩ := axa3 ha_u94 A X Y_
         refine bb2 ha_u94 ?_
         refine st3_t B42 rfl rfl rfl rfl fun u95 k_u95 B42 => ?_
         obtain ⟨B1, B2, B41⟩ := up3 k_u95 B1 B2 B41
         obtain ⟨A, X, Y_⟩ := axu3 k_u95 g42 A X Y_
         refine st3_t B41 rfl rfl rfl rfl fun u96 k_u96 B41 => ?_
         obtain ⟨B1, B2, B42⟩ := up3 k_u96 B1 B2 B42
         obtain ⟨A, X, Y_⟩ := axu3 k_u96 g41 A X Y_
         replace h := h _ X A
         refine ⟨bk1, bk2, bk42, bk41, b3, s1, x1, b4, s2, x2, b47, s79, s80, b48, s81, s82, rfl, B1, g1, rfl, B2, g2, rfl, B42, g42, rfl, B41, g41, ?_⟩
         iterate 6 refine nd ?_
         exact ⟨A, h⟩
        ·refine newC_t fun bk43 u97 hb43 ha_u97 _ B43 => ?_
         have g43 := le_eq A.size hb43
         obtain ⟨_, _, _⟩ := lt3 hb43 B1 B2 B41
         have y43 := le_eq Y_ hb43
         obtain ⟨B1, B2, B41⟩ := ah3 ha_u97 B1 B2 B41
         obtain ⟨A, X, Y_⟩ := axa3 ha_u97 A X Y_
         refine bb2 ha_u97 ?_
         replace h := h _ X A
         refine Calls.mono h ?_
         clear h
         rintro e55 w122 ⟨b49, s83, s84, he_, ha_w122, h⟩
         refine ⟨b49, s83, s84, he_, ?_⟩
         clear he_
         obtain ⟨B1, B2, B41, B43⟩ := ah4 ha_w122 B1 B2 B41 B43
         obtain ⟨A, X, Y_⟩ := axa3 ha_w122 A X Y_
         replace X : Ext w122 w122 := Ext.refl _
         refine st3_t B43 rfl rfl rfl rfl fun u98 k_u98 B43 => ?_
         obtain ⟨B1, B2, B41⟩ := up3 k_u98 B1 B2 B41
         obtain ⟨A, X, Y_⟩ := axu3 k_u98 g43 A X Y_
         refine st3_t B41 rfl rfl rfl rfl fun u99 k_u99 B41 => ?_
         obtain ⟨B1, B2, B43⟩ := up3 k_u99 B1 B2 B43
         obtain ⟨A, X, Y_⟩ := axu3 k_u99 g41 A X Y_
         replace h := h _ X A
         refine ⟨bk1, bk2, bk43, bk41, b3, s1, x1, b4, s2, x2, b47, s79, s80, b49, s83, s84, rfl, B1, g1, rfl, B2, g2, rfl, B43, g43, rfl, B41, g41, ?_⟩
         iterate 6 refine nd ?_
         exact ⟨A, h⟩
       ·refine newC_t fun bk44 u100 hb44 ha_u100 _ B44 => ?_
        have g44 := le_eq A.size hb44
        obtain ⟨_, _, _⟩ := lt3 hb44 B1 B2 B41
        have y44 := le_eq Y_ hb44
        obtain ⟨B1, B2, B41⟩ := ah3 ha_u100 B1 B2 B41
        obtain ⟨A, X, Y_⟩ := axa3 ha_u100 A X Y_
        refine bb2 ha_u100 ?_
        replace h := h _ X A
        refine Calls.mono h ?_
        clear h
        rintro e56 w125 ⟨b50, s85, s86, he_, ha_w125, h⟩
        refine ⟨b50, s85, s86, he_, ?_⟩
        clear he_
        obtain ⟨B1, B2, B41, B44⟩ := ah4 ha_w125 B1 B2 B41 B44
        obtain ⟨A, X, Y_⟩ := axa3 ha_w125 A X Y_
        replace X : Ext w125 w125 := Ext.refl _
        refine ⟨(Bar.of_ahead ha_w125), ?_⟩
        replace h := h _ X A
        refine Calls.mono h ?_
        clear h
        rintro e57 w127 ⟨b51, s87, s88, he_, ha_w127, h⟩
        refine ⟨b51, s87, s88, he_, ?_⟩
        clear he_
        obtain ⟨B1, B2, B41, B44⟩ := ah4 ha_w127 B1 B2 B41 B44
        obtain ⟨A, X, Y_⟩ := axa3 ha_w127 A X Y_
        replace X : Ext w127 w127 := Ext.refl _
        refine st3_t B44 rfl rfl rfl rfl fun u101 k_u101 B44 => ?_
        obtain ⟨B1, B2, B41⟩ := up3 k_u101 B1 B2 B41
        obtain ⟨A, X, Y_⟩ := axu3 k_u101 g44 A X Y_
        refine st3_t B41 rfl rfl rfl rfl fun u102 k_u102 B41 => ?_
        obtain ⟨B1, B2, B44⟩ := up3 k_u102 B1 B2 B44
        obtain ⟨A, X, Y_⟩ := axu3 k_u102 g41 A X Y_
        replace h := h _ X A
        refine ⟨bk1, bk2, bk44, bk41, b3, s1, x1, b4, s2, x2, b50, s85, s86, b51, s87, s88, rfl, B1, g1, rfl, B2, g2, rfl, B44, g44, rfl, B41, g41, ?_⟩
        iterate 6 refine nd ?_
        exact ⟨A, h⟩
  · clear h
    rintro t2 t3 t4 t7 t8 w_ ⟨bk1, bk2, bk3, bk4, t3_0, t3_1, t3_2, t4_0, t4_1, t4_2, t7_0, t7_1, t7_2, t8_0, t8_1, t8_2, rfl, B1, g1, rfl, B2, g2, rfl, B3, g3, rfl, B4, g4, n1_2, n1_3, n1_4, n2_3, n2_4, n3_4, A, hJ3000006⟩
    have h := h3000006  t2 t3_0 t3_1 t3_2 t4_0 t4_1 t4_2 t7_0 t7_1 t7_2 t8_0 t8_1 t8_2 w_ A hJ3000006
    have X : Ext w_ w_ := Ext.refl _
    refine ldB_t 0 B4 rfl ?_
    refine ldS_t 1 B4 rfl ?_
    refine ldS_t 2 B4 rfl ?_
    refine Calls.mono h ?_
    clear h
    rintro e8 w13 ⟨x4, he_, ha_w13, h⟩
    refine ⟨x4, he_, ?_⟩
    clear he_
    obtain ⟨B1, B2, B3, B4⟩ := ah4 ha_w13 B1 B2 B3 B4
    obtain ⟨A, X⟩ := axa2 ha_w13 A X
    replace X : Ext w13 w13 := Ext.refl _
    refine br_map h (fun h_ => ?_) (fun h_ => ?_)
    ·clear h
     have h := h_
     clear h_
     refine ldB_t 0 B1 rfl ?_
     refine ldS_t 1 B1 rfl ?_
     refine ldI_t 2 B1 rfl ?_
     refine ldB_t 0 B2 rfl ?_
     refine ldS_t 1 B2 rfl ?_
     refine ldI_t 2 B2 rfl ?_
     refine Calls.mono h ?_
     clear h
     rintro e9 w14 ⟨b7, s7, x5, x6, he_, ha_w14, h⟩
     refine ⟨b7, s7, x5, x6, he_, ?_⟩
     clear he_
     obtain ⟨B1, B2, B3, B4⟩ := ah4 ha_w14 B1 B2 B3 B4
     obtain ⟨A, X⟩ := axa2 ha_w14 A X
     replace X : Ext w14 w14 := Ext.refl _
     refine newC_t fun bk5 u9 hb5 ha_u9 _ B5 => ?_
     have g5 := le_eq A.size hb5
     obtain ⟨_, _, _, _⟩ := lt4 hb5 B1 B2 B3 B4
     obtain ⟨B1, B2, B3, B4⟩ := ah4 ha_u9 B1 B2 B3 B4
     obtain ⟨A, X⟩ := axa2 ha_u9 A X
     refine st3_t B5 rfl rfl rfl rfl fun u10 k_u10 B5 => ?_
     obtain ⟨B1, B2, B3, B4⟩ := up4 k_u10 B1 B2 B3 B4
     obtain ⟨A, X⟩ := axu2 k_u10 g5 A X
     refine ldB_t 0 B1 rfl ?_
     refine ldS_t 1 B1 rfl ?_
     refine ldI_t 2 B1 rfl ?_
     refine ldB_t 0 B2 rfl ?_
     refine ldS_t 1 B2 rfl ?_
     refine ldI_t 2 B2 rfl ?_
     replace h := h _ X A
     refine Calls.mono h ?_
     clear h
     rintro e10 w16 ⟨b8, s8, x7, x8, he_, ha_w16, h⟩
     refine ⟨b8, s8, x7, x8, he_, ?_⟩
     clear he_
     obtain ⟨B1, B2, B3, B4, B5⟩ := ah5 ha_w16 B1 B2 B3 B4 B5
     obtain ⟨A, X⟩ := axa2 ha_w16 A X
     replace X : Ext w16 w16 := Ext.refl _
     refine newC_t fun bk6 u11 hb6 ha_u11 _ B6 => ?_
     have g6 := le_eq A.size hb6
     obtain ⟨_, _, _, _, _⟩ := lt5 hb6 B1 B2 B3 B4 B5
     obtain ⟨B1, B2, B3, B4, B5⟩ := ah5 ha_u11 B1 B2 B3 B4 B5
     obtain ⟨A, X⟩ := axa2 ha_u11 A X
     refine st3_t B6 rfl rfl rfl rfl fun u12 k_u12 B6 => ?_
     obtain ⟨B1, B2, B3, B4, B5⟩ := up5 k_u12 B1 B2 B3 B4 B5
     obtain ⟨A, X⟩ := axu2 k_u12 g6 A X
     refine ldB_t 0 B3 rfl ?_
     refine ldS_t 1 B3 rfl ?_
     refine ldS_t 2 B3 rfl ?_
     refine ldB_t 0 B4 rfl ?_
     refine ldS_t 1 B4 rfl ?_
     refine ldS_t 2 B4 rfl ?_
     replace h := h _ X A
     refine Calls.mono h ?_
     clear h
     rintro e11 w18 ⟨b9, s9, s10, he_, ha_w18, h⟩
     refine ⟨b9, s9, s10, he_, ?_⟩
     clear he_
     obtain ⟨B1, B2, B3, B4, B5, B6⟩ := ah6 ha_w18 B1 B2 B3 B4 B5 B6
     obtain ⟨A, X⟩ := axa2 ha_w18 A X
     replace X : Ext w18 w18 := Ext.refl _
     refine newC_t fun bk7 u13 hb7 ha_u13 _ B7 => ?_
     have g7 := le_eq A.size hb7
     obtain ⟨_, _, _, _, _, _⟩ := lt6 hb7 B1 B2 B3 B4 B5 B6
     obtain ⟨B1, B2, B3, B4, B5, B6⟩ := ah6 ha_u13 B1 B2 B3 B4 B5 B6
     obtain ⟨A, X⟩ := axa2 ha_u13 A X
     refine st3_t B7 rfl rfl rfl rfl fun u14 k_u14 B7 => ?_
     obtain ⟨B1, B2, B3, B4, B5, B6⟩ := up6 k_u14 B1 B2 B3 B4 B5 B6
     obtain ⟨A, X⟩ := axu2 k_u14 g7 A X
     have hd_ := Sp.Ahead.drew u14
     obtain ⟨B1, B2, B3, B4, B5, B6, B7⟩ := ah7 hd_ B1 B2 B3 B4 B5 B6 B7
     obtain ⟨A, X⟩ := axa2 hd_ A X
     clear hd_
     refine br_map h (fun h_ => ?_) (fun h_ => ?_)
     ·clear h
      have h := h_
      clear h_
      replace h := h _ X A
      exact ⟨A, h⟩
     ·clear h
      have h := h_
      clear h_
      refine br_map h (fun h_ => ?_) (fun h_ => ?_)
      ·clear h
       have h := h_
       clear h_
       replace h := h _ X A
       exact ⟨A, h⟩
      ·clear h
       have h := h_
       clear h_
       refine ldB_t 0 B5 rfl ?_
       refine ldS_t 1 B5 rfl ?_
       refine ldI_t 2 B5 rfl ?_
       refine ldB_t 0 B7 rfl ?_
       refine ldS_t 1 B7 rfl ?_
       refine ldS_t 2 B7 rfl ?_
       refine ldB_t 0 B6 rfl ?_
       refine ldS_t 1 B6 rfl ?_
       refine ldI_t 2 B6 rfl ?_
       replace h := h _ X A
       refine Calls.mono h ?_
       clear h
       rintro e12 w22 ⟨b10, s11, s12, he_, ha_w22, h⟩
       refine ⟨b10, s11, s12, he_, ?_⟩
       clear he_
       obtain ⟨B1, B2, B3, B4, B5, B6, B7⟩ := ah7 ha_w22 B1 B2 B3 B4 B5 B6 B7
       obtain ⟨A, X⟩ := axa2 ha_w22 A X
       replace X : Ext w22 w22 := Ext.refl _
       refine ⟨ha_w22, ?_⟩
       refine Calls.mono h ?_
       clear h
       rintro e13 w23 ⟨b11, s13, s14, he_, ha_w23, h⟩
       refine ⟨b11, s13, s14, he_, ?_⟩
       clear he_
       obtain ⟨B1, B2, B3, B4, B5, B6, B7⟩ := ah7 ha_w23 B1 B2 B3 B4 B5 B6 B7
       obtain ⟨A, X⟩ := axa2 ha_w23 A X
       replace X : Ext w23 w23 := Ext.refl _
       refine ⟨ha_w23, ?_⟩
       refine Calls.mono h ?_
       clear h
       rintro e14 w24 ⟨b12, he_, ha_w24, h⟩
       refine ⟨b12, he_, ?_⟩
       clear he_
       obtain ⟨B1, B2, B3, B4, B5, B6, B7⟩ := ah7 ha_w24 B1 B2 B3 B4 B5 B6 B7
       obtain ⟨A, X⟩ := axa2 ha_w24 A X
       replace X : Ext w24 w24 := Ext.refl _
       refine ⟨ha_w24, ?_⟩
       refine br_map h (fun h_ => ?_) (fun h_ => ?_)
       ·clear h
        have h := h_
        clear h_
        exact ⟨A, h⟩
       ·clear h
        have h := h_
        clear h_
        exact ⟨bk2, bk4, t4_0, t4_1, t4_2, t8_0, t8_1, t8_2, rfl, B2, g2, rfl, B4, g4, (by omega), A, h⟩
    ·clear h
     have h := h_
     clear h_
     exact ⟨bk2, bk4, t4_0, t4_1, t4_2, t8_0, t8_1, t8_2, rfl, B2, g2, rfl, B4, g4, (by omega), A, h⟩
  · clear h
    rintro t2 t4 t8 w_ ⟨bk2, bk4, t4_0, t4_1, t4_2, t8_0, t8_1, t8_2, rfl, B2, g2, rfl, B4, g4, n2_4, A, hJ3000012⟩
    have h := h3000012  t2 t4_0 t4_1 t4_2 t8_0 t8_1 t8_2 w_ A hJ3000012
    have X : Ext w_ w_ := Ext.refl _
    refine stC_t 0 B2 rfl rfl rfl fun u15 k_u15 B2_ => ?_
    replace B2 : Blt u15 bk2 27 #[Value.bool false, t4_1.v, Value.int .i64 t4_2] := B2_
    clear B2_
    replace B4 := up1 k_u15 B4
    obtain ⟨A, X⟩ := axu2 k_u15 g2 A X
    refine ldB_t 0 B2 rfl ?_
    refine ldS_t 1 B2 rfl ?_
    refine ldI_t 2 B2 rfl ?_
    replace h := h _ X A
    refine Calls.mono h ?_
    clear h
    rintro e15 w26 ⟨b13, s15, x9, x10, he_, ha_w26, h⟩
    refine ⟨b13, s15, x9, x10, he_, ?_⟩
    clear he_
    obtain ⟨B2, B4⟩ := ah2 ha_w26 B2 B4
    obtain ⟨A, X⟩ := axa2 ha_w26 A X
    replace X : Ext w26 w26 := Ext.refl _
    refine newC_t fun bk8 u16 hb8 ha_u16 _ B8 => ?_
    have g8 := le_eq A.size hb8
    obtain ⟨_, _⟩ := lt2 hb8 B2 B4
    obtain ⟨B2, B4⟩ := ah2 ha_u16 B2 B4
    obtain ⟨A, X⟩ := axa2 ha_u16 A X
    refine st3_t B8 rfl rfl rfl rfl fun u17 k_u17 B8 => ?_
    obtain ⟨B2, B4⟩ := up2 k_u17 B2 B4
    obtain ⟨A, X⟩ := axu2 k_u17 g8 A X
    refine ldB_t 0 B2 rfl ?_
    refine ldS_t 1 B2 rfl ?_
    refine ldI_t 2 B2 rfl ?_
    replace h := h _ X A
    refine Calls.mono h ?_
    clear h
    rintro e16 w28 ⟨b14, s16, x11, x12, he_, ha_w28, h⟩
    refine ⟨b14, s16, x11, x12, he_, ?_⟩
    clear he_
    obtain ⟨B2, B4, B8⟩ := ah3 ha_w28 B2 B4 B8
    obtain ⟨A, X⟩ := axa2 ha_w28 A X
    replace X : Ext w28 w28 := Ext.refl _
    refine newC_t fun bk9 u18 hb9 ha_u18 _ B9 => ?_
    have g9 := le_eq A.size hb9
    obtain ⟨_, _, _⟩ := lt3 hb9 B2 B4 B8
    obtain ⟨B2, B4, B8⟩ := ah3 ha_u18 B2 B4 B8
    obtain ⟨A, X⟩ := axa2 ha_u18 A X
    refine st3_t B9 rfl rfl rfl rfl fun u19 k_u19 B9 => ?_
    obtain ⟨B2, B4, B8⟩ := up3 k_u19 B2 B4 B8
    obtain ⟨A, X⟩ := axu2 k_u19 g9 A X
    have hd_ := Sp.Ahead.drew u19
    obtain ⟨B2, B4, B8, B9⟩ := ah4 hd_ B2 B4 B8 B9
    obtain ⟨A, X⟩ := axa2 hd_ A X
    clear hd_
    have z2 := B2.lt
    have z4 := B4.lt
    have z8 := B8.lt
    have z9 := B9.lt
    let V_ : Nat → Nat → Prop := fun (q_ k : Nat) => (k < 0 ∨ u19.drew.heap.size ≤ k) ∧ 0 ≤ k
    refine ⟨V_, ?_⟩
    have Y_ : u19.drew.heap.size ≤ u19.drew.heap.size := Nat.le_refl _
    refine out_t (b := bk8) (i := 0) (by first | rfl | exact Sp.add_off) (fun hv_ => (by replace hv_ : _ ∧ _ := hv_; omega)) ?_
    refine ldB_t 0 B8 rfl ?_
    refine ldS_t 1 B8 rfl ?_
    refine ldI_t 2 B8 rfl ?_
    refine out_t (b := bk9) (i := 0) (by first | rfl | exact Sp.add_off) (fun hv_ => (by replace hv_ : _ ∧ _ := hv_; omega)) ?_
    refine ldB_t 0 B9 rfl ?_
    refine ldS_t 1 B9 rfl ?_
    refine ldI_t 2 B9 rfl ?_
    refine ⟨?_, ?_⟩
    ·replace h := h _ X A
     refine Calls.mono h ?_
     clear h
     rintro e17 w30 ⟨b15, s17, s18, he_, ha_w30, h⟩
     refine ⟨b15, s17, s18, he_, ?_⟩
     clear he_
     obtain ⟨B2, B4, B8, B9⟩ := ah4 ha_w30 B2 B4 B8 B9
     obtain ⟨A, X, Y_⟩ := axa3 ha_w30 A X Y_
     replace X : Ext w30 w30 := Ext.refl _
     refine ⟨(Bar.of_ahead ha_w30), ?_⟩
     refine ⟨?_, ?_⟩
     ·replace h := h _ X A
      refine Calls.mono h ?_
      clear h
      rintro e18 w32 ⟨b16, s19, s20, he_, ha_w32, h⟩
      refine ⟨b16, s19, s20, he_, ?_⟩
      clear he_
      obtain ⟨B2, B4, B8, B9⟩ := ah4 ha_w32 B2 B4 B8 B9
      obtain ⟨A, X, Y_⟩ := axa3 ha_w32 A X Y_
      replace X : Ext w32 w32 := Ext.refl _
      refine ⟨?_, ?_⟩
      ·refine newC_t fun bk10 u20 hb10 ha_u20 _ B10 => ?_
       have g10 := le_eq A.size hb10
       obtain ⟨_, _, _, _⟩ := lt4 hb10 B2 B4 B8 B9
       have y10 := le_eq Y_ hb10
       obtain ⟨B2, B4, B8, B9⟩ := ah4 ha_u20 B2 B4 B8 B9
       obtain ⟨A, X, Y_⟩ := axa3 ha_u20 A X Y_
       refine bb2 ha_u20 ?_
       refine newC_t fun bk11 u21 hb11 ha_u21 _ B11 => ?_
       have g11 := le_eq A.size hb11
       obtain ⟨_, _, _, _, _⟩ := lt5 hb11 B2 B4 B8 B9 B10
       have y11 := le_eq Y_ hb11
       obtain ⟨B2, B4, B8, B9, B10⟩ := ah5 ha_u21 B2 B4 B8 B9 B10
       obtain ⟨A, X, Y_⟩ := axa3 ha_u21 A X Y_
       refine bb2 ha_u21 ?_
       refine st3_t B10 rfl rfl rfl rfl fun u22 k_u22 B10 => ?_
       obtain ⟨B2, B4, B8, B9, B11⟩ := up5 k_u22 B2 B4 B8 B9 B11
       obtain ⟨A, X, Y_⟩ := axu3 k_u22 g10 A X Y_
       refine st3_t B11 rfl rfl rfl rfl fun u23 k_u23 B11 => ?_
       obtain ⟨B2, B4, B8, B9, B10⟩ := up5 k_u23 B2 B4 B8 B9 B10
       obtain ⟨A, X, Y_⟩ := axu3 k_u23 g11 A X Y_
       replace h := h _ X A
       exact ⟨bk4, bk10, bk11, t8_0, t8_1, t8_2, b15, s17, s18, b16, s19, s20, rfl, B4, g4, rfl, B10, g10, rfl, B11, g11, (by omega), (by omega), (by omega), A, h⟩
      ·refine newC_t fun bk13 u27 hb13 ha_u27 _ B13 => ?_
       have g13 := le_eq A.size hb13
       obtain ⟨_, _, _, _⟩ := lt4 hb13 B2 B4 B8 B9
       have y13 := le_eq Y_ hb13
       obtain ⟨B2, B4, B8, B9⟩ := ah4 ha_u27 B2 B4 B8 B9
       obtain ⟨A, X, Y_⟩ := axa3 ha_u27 A X Y_
       refine bb2 ha_u27 ?_
       refine newC_t fun bk14 u28 hb14 ha_u28 _ B14 => ?_
       have g14 := le_eq A.size hb14
       obtain ⟨_, _, _, _, _⟩ := lt5 hb14 B2 B4 B8 B9 B13
       have y14 := le_eq Y_ hb14
       obtain ⟨B2, B4, B8, B9, B13⟩ := ah5 ha_u28 B2 B4 B8 B9 B13
       obtain ⟨A, X, Y_⟩ := axa3 ha_u28 A X Y_
       refine bb2 ha_u28 ?_
       refine st3_t B14 rfl rfl rfl rfl fun u29 k_u29 B14 => ?_
       obtain ⟨B2, B4, B8, B9, B13⟩ := up5 k_u29 B2 B4 B8 B9 B13
       obtain ⟨A, X, Y_⟩ := axu3 k_u29 g14 A X Y_
       refine st3_t B13 rfl rfl rfl rfl fun u30 k_u30 B13 => ?_
       obtain ⟨B2, B4, B8, B9, B14⟩ := up5 k_u30 B2 B4 B8 B9 B14
       obtain ⟨A, X, Y_⟩ := axu3 k_u30 g13 A X Y_
       replace h := h _ X A
       exact ⟨bk4, bk14, bk13, t8_0, t8_1, t8_2, b15, s17, s18, b16, s19, s20, rfl, B4, g4, rfl, B14, g14, rfl, B13, g13, (by omega), (by omega), (by omega), A, h⟩
     ·refine ⟨?_, ?_⟩
      ·refine newC_t fun bk15 u31 hb15 ha_u31 _ B15 => ?_
       have g15 := le_eq A.size hb15
       obtain ⟨_, _, _, _⟩ := lt4 hb15 B2 B4 B8 B9
       have y15 := le_eq Y_ hb15
       obtain ⟨B2, B4, B8, B9⟩ := ah4 ha_u31 B2 B4 B8 B9
       obtain ⟨A, X, Y_⟩ := axa3 ha_u31 A X Y_
       refine bb2 ha_u31 ?_
       refine ⟨?_, ?_⟩
       ·replace h := h _ X A
        refine Calls.mono h ?_
        clear h
        rintro e30 w52 ⟨b24, s33, s34, he_, ha_w52, h⟩
        refine ⟨b24, s33, s34, he_, ?_⟩
        clear he_
        obtain ⟨B2, B4, B8, B9, B15⟩ := ah5 ha_w52 B2 B4 B8 B9 B15
        obtain ⟨A, X, Y_⟩ := axa3 ha_w52 A X Y_
        replace X : Ext w52 w52 := Ext.refl _
        refine newC_t fun bk16 u32 hb16 ha_u32 _ B16 => ?_
        have g16 := le_eq A.size hb16
        obtain ⟨_, _, _, _, _⟩ := lt5 hb16 B2 B4 B8 B9 B15
        have y16 := le_eq Y_ hb16
        obtain ⟨B2, B4, B8, B9, B15⟩ := ah5 ha_u32 B2 B4 B8 B9 B15
        obtain ⟨A, X, Y_⟩ := axa3 ha_u32 A X Y_
        refine bb2 ha_u32 ?_
        refine st3_t B15 rfl rfl rfl rfl fun u33 k_u33 B15 => ?_
        obtain ⟨B2, B4, B8, B9, B16⟩ := up5 k_u33 B2 B4 B8 B9 B16
        obtain ⟨A, X, Y_⟩ := axu3 k_u33 g15 A X Y_
        refine st3_t B16 rfl rfl rfl rfl fun u34 k_u34 B16 => ?_
        obtain ⟨B2, B4, B8, B9, B15⟩ := up5 k_u34 B2 B4 B8 B9 B15
        obtain ⟨A, X, Y_⟩ := axu3 k_u34 g16 A X Y_
        replace h := h _ X A
        exact ⟨bk4, bk15, bk16, t8_0, t8_1, t8_2, b15, s17, s18, b24, s33, s34, rfl, B4, g4, rfl, B15, g15, rfl, B16, g16, (by omega), (by omega), (by omega), A, h⟩
       ·refine newC_t fun bk17 u35 hb17 ha_u35 _ B17 => ?_
        have g17 := le_eq A.size hb17
        obtain ⟨_, _, _, _, _⟩ := lt5 hb17 B2 B4 B8 B9 B15
        have y17 := le_eq Y_ hb17
        obtain ⟨B2, B4, B8, B9, B15⟩ := ah5 ha_u35 B2 B4 B8 B9 B15
        obtain ⟨A, X, Y_⟩ := axa3 ha_u35 A X Y_
        refine bb2 ha_u35 ?_
        replace h := h _ X A
        refine Calls.mono h ?_
        clear h
        rintro e31 w55 ⟨b25, s35, s36, he_, ha_w55, h⟩
        refine ⟨b25, s35, s36, he_, ?_⟩
        clear he_
        obtain ⟨B2, B4, B8, B9, B15, B17⟩ := ah6 ha_w55 B2 B4 B8 B9 B15 B17
        obtain ⟨A, X, Y_⟩ := axa3 ha_w55 A X Y_
        replace X : Ext w55 w55 := Ext.refl _
        refine st3_t B15 rfl rfl rfl rfl fun u36 k_u36 B15 => ?_
        obtain ⟨B2, B4, B8, B9, B17⟩ := up5 k_u36 B2 B4 B8 B9 B17
        obtain ⟨A, X, Y_⟩ := axu3 k_u36 g15 A X Y_
        refine st3_t B17 rfl rfl rfl rfl fun u37 k_u37 B17 => ?_
        obtain ⟨B2, B4, B8, B9, B15⟩ := up5 k_u37 B2 B4 B8 B9 B15
        obtain ⟨A, X, Y_⟩ := axu3 k_u37 g17 A X Y_
        replace h := h _ X A
        exact ⟨bk4, bk15, bk17, t8_0, t8_1, t8_2, b15, s17, s18, b25, s35, s36, rfl, B4, g4, rfl, B15, g15, rfl, B17, g17, (by omega), (by omega), (by omega), A, h⟩
      ·refine newC_t fun bk18 u38 hb18 ha_u38 _ B18 => ?_
       have g18 := le_eq A.size hb18
       obtain ⟨_, _, _, _⟩ := lt4 hb18 B2 B4 B8 B9
       have y18 := le_eq Y_ hb18
       obtain ⟨B2, B4, B8, B9⟩ := ah4 ha_u38 B2 B4 B8 B9
       obtain ⟨A, X, Y_⟩ := axa3 ha_u38 A X Y_
       refine bb2 ha_u38 ?_
       refine ⟨?_, ?_⟩
       ·replace h := h _ X A
        refine Calls.mono h ?_
        clear h
        rintro e32 w58 ⟨b26, s37, s38, he_, ha_w58, h⟩
        refine ⟨b26, s37, s38, he_, ?_⟩
        clear he_
        obtain ⟨B2, B4, B8, B9, B18⟩ := ah5 ha_w58 B2 B4 B8 B9 B18
        obtain ⟨A, X, Y_⟩ := axa3 ha_w58 A X Y_
        replace X : Ext w58 w58 := Ext.refl _
        refine newC_t fun bk19 u39 hb19 ha_u39 _ B19 => ?_
        have g19 := le_eq A.size hb19
        obtain ⟨_, _, _, _, _⟩ := lt5 hb19 B2 B4 B8 B9 B18
        have y19 := le_eq Y_ hb19
        obtain ⟨B2, B4, B8, B9, B18⟩ := ah5 ha_u39 B2 B4 B8 B9 B18
        obtain ⟨A, X, Y_⟩ := axa3 ha_u39 A X Y_
        refine bb2 ha_u39 ?_
        refine st3_t B19 rfl rfl rfl rfl fun u40 k_u40 B19 => ?_
        obtain ⟨B2, B4, B8, B9, B18⟩ := up5 k_u40 B2 B4 B8 B9 B18
        obtain ⟨A, X, Y_⟩ := axu3 k_u40 g19 A X Y_
        refine st3_t B18 rfl rfl rfl rfl fun u41 k_u41 B18 => ?_
        obtain ⟨B2, B4, B8, B9, B19⟩ := up5 k_u41 B2 B4 B8 B9 B19
        obtain ⟨A, X, Y_⟩ := axu3 k_u41 g18 A X Y_
        replace h := h _ X A
        exact ⟨bk4, bk19, bk18, t8_0, t8_1, t8_2, b15, s17, s18, b26, s37, s38, rfl, B4, g4, rfl, B19, g19, rfl, B18, g18, (by omega), (by omega), (by omega), A, h⟩
       ·refine newC_t fun bk20 u42 hb20 ha_u42 _ B20 => ?_
        have g20 := le_eq A.size hb20
        obtain ⟨_, _, _, _, _⟩ := lt5 hb20 B2 B4 B8 B9 B18
        have y20 := le_eq Y_ hb20
        obtain ⟨B2, B4, B8, B9, B18⟩ := ah5 ha_u42 B2 B4 B8 B9 B18
        obtain ⟨A, X, Y_⟩ := axa3 ha_u42 A X Y_
        refine bb2 ha_u42 ?_
        replace h := h _ X A
        refine Calls.mono h ?_
        clear h
        rintro e33 w61 ⟨b27, s39, s40, he_, ha_w61, h⟩
        refine ⟨b27, s39, s40, he_, ?_⟩
        clear he_
        obtain ⟨B2, B4, B8, B9, B18, B20⟩ := ah6 ha_w61 B2 B4 B8 B9 B18 B20
        obtain ⟨A, X, Y_⟩ := axa3 ha_w61 A X Y_
        replace X : Ext w61 w61 := Ext.refl _
        refine st3_t B20 rfl rfl rfl rfl fun u43 k_u43 B20 => ?_
        obtain ⟨B2, B4, B8, B9, B18⟩ := up5 k_u43 B2 B4 B8 B9 B18
        obtain ⟨A, X, Y_⟩ := axu3 k_u43 g20 A X Y_
        refine st3_t B18 rfl rfl rfl rfl fun u44 k_u44 B18 => ?_
        obtain ⟨B2, B4, B8, B9, B20⟩ := up5 k_u44 B2 B4 B8 B9 B20
        obtain ⟨A, X, Y_⟩ := axu3 k_u44 g18 A X Y_
        replace h := h _ X A
        exact ⟨bk4, bk20, bk18, t8_0, t8_1, t8_2, b15, s17, s18, b27, s39, s40, rfl, B4, g4, rfl, B20, g20, rfl, B18, g18, (by omega), (by omega), (by omega), A, h⟩
    ·refine ⟨?_, ?_⟩
     ·refine newC_t fun bk21 u45 hb21 ha_u45 _ B21 => ?_
      have g21 := le_eq A.size hb21
      obtain ⟨_, _, _, _⟩ := lt4 hb21 B2 B4 B8 B9
      have y21 := le_eq Y_ hb21
      obtain ⟨B2, B4, B8, B9⟩ := ah4 ha_u45 B2 B4 B8 B9
      obtain ⟨A, X, Y_⟩ := axa3 ha_u45 A X Y_
      refine bb2 ha_u45 ?_
      refine ⟨?_, ?_⟩
      ·replace h := h _ X A
       refine Calls.mono h ?_
       clear h
       rintro e34 w64 ⟨b28, s41, s42, he_, ha_w64, h⟩
       refine ⟨b28, s41, s42, he_, ?_⟩
       clear he_
       obtain ⟨B2, B4, B8, B9, B21⟩ := ah5 ha_w64 B2 B4 B8 B9 B21
       obtain ⟨A, X, Y_⟩ := axa3 ha_w64 A X Y_
       replace X : Ext w64 w64 := Ext.refl _
       refine ⟨(Bar.of_ahead ha_w64), ?_⟩
       refine ⟨?_, ?_⟩
       ·replace h := h _ X A
        refine Calls.mono h ?_
        clear h
        rintro e35 w66 ⟨b29, s43, s44, he_, ha_w66, h⟩
        refine ⟨b29, s43, s44, he_, ?_⟩
        clear he_
        obtain ⟨B2, B4, B8, B9, B21⟩ := ah5 ha_w66 B2 B4 B8 B9 B21
        obtain ⟨A, X, Y_⟩ := axa3 ha_w66 A X Y_
        replace X : Ext w66 w66 := Ext.refl _
        refine newC_t fun bk22 u46 hb22 ha_u46 _ B22 => ?_
        have g22 := le_eq A.size hb22
        obtain ⟨_, _, _, _, _⟩ := lt5 hb22 B2 B4 B8 B9 B21
        have y22 := le_eq Y_ hb22
        obtain ⟨B2, B4, B8, B9, B21⟩ := ah5 ha_u46 B2 B4 B8 B9 B21
        obtain ⟨A, X, Y_⟩ := axa3 ha_u46 A X Y_
        refine bb2 ha_u46 ?_
        refine st3_t B21 rfl rfl rfl rfl fun u47 k_u47 B21 => ?_
        obtain ⟨B2, B4, B8, B9, B22⟩ := up5 k_u47 B2 B4 B8 B9 B22
        obtain ⟨A, X, Y_⟩ := axu3 k_u47 g21 A X Y_
        refine st3_t B22 rfl rfl rfl rfl fun u48 k_u48 B22 => ?_
        obtain ⟨B2, B4, B8, B9, B21⟩ := up5 k_u48 B2 B4 B8 B9 B21
        obtain ⟨A, X, Y_⟩ := axu3 k_u48 g22 A X Y_
        replace h := h _ X A
        exact ⟨bk4, bk21, bk22, t8_0, t8_1, t8_2, b28, s41, s42, b29, s43, s44, rfl, B4, g4, rfl, B21, g21, rfl, B22, g22, (by omega), (by omega), (by omega), A, h⟩
       ·refine newC_t fun bk23 u49 hb23 ha_u49 _ B23 => ?_
        have g23 := le_eq A.size hb23
        obtain ⟨_, _, _, _, _⟩ := lt5 hb23 B2 B4 B8 B9 B21
        have y23 := le_eq Y_ hb23
        obtain ⟨B2, B4, B8, B9, B21⟩ := ah5 ha_u49 B2 B4 B8 B9 B21
        obtain ⟨A, X, Y_⟩ := axa3 ha_u49 A X Y_
        refine bb2 ha_u49 ?_
        replace h := h _ X A
        refine Calls.mono h ?_
        clear h
        rintro e36 w69 ⟨b30, s45, s46, he_, ha_w69, h⟩
        refine ⟨b30, s45, s46, he_, ?_⟩
        clear he_
        obtain ⟨B2, B4, B8, B9, B21, B23⟩ := ah6 ha_w69 B2 B4 B8 B9 B21 B23
        obtain ⟨A, X, Y_⟩ := axa3 ha_w69 A X Y_
        replace X : Ext w69 w69 := Ext.refl _
        refine st3_t B21 rfl rfl rfl rfl fun u50 k_u50 B21 => ?_
        obtain ⟨B2, B4, B8, B9, B23⟩ := up5 k_u50 B2 B4 B8 B9 B23
        obtain ⟨A, X, Y_⟩ := axu3 k_u50 g21 A X Y_
        refine st3_t B23 rfl rfl rfl rfl fun u51 k_u51 B23 => ?_
        obtain ⟨B2, B4, B8, B9, B21⟩ := up5 k_u51 B2 B4 B8 B9 B21
        obtain ⟨A, X, Y_⟩ := axu3 k_u51 g23 A X Y_
        replace h := h _ X A
        exact ⟨bk4, bk21, bk23, t8_0, t8_1, t8_2, b28, s41, s42, b30, s45, s46, rfl, B4, g4, rfl, B21, g21, rfl, B23, g23, (by omega), (by omega), (by omega), A, h⟩
      ·refine newC_t fun bk24 u52 hb24 ha_u52 _ B24 => ?_
       have g24 := le_eq A.size hb24
       obtain ⟨_, _, _, _, _⟩ := lt5 hb24 B2 B4 B8 B9 B21
       have y24 := le_eq Y_ hb24
       obtain ⟨B2, B4, B8, B9, B21⟩ := ah5 ha_u52 B2 B4 B8 B9 B21
       obtain ⟨A, X, Y_⟩ := axa3 ha_u52 A X Y_
       refine bb2 ha_u52 ?_
       replace h := h _ X A
       refine Calls.mono h ?_
       clear h
       rintro e37 w72 ⟨b31, s47, s48, he_, ha_w72, h⟩
       refine ⟨b31, s47, s48, he_, ?_⟩
       clear he_
       obtain ⟨B2, B4, B8, B9, B21, B24⟩ := ah6 ha_w72 B2 B4 B8 B9 B21 B24
       obtain ⟨A, X, Y_⟩ := axa3 ha_w72 A X Y_
       replace X : Ext w72 w72 := Ext.refl _
       refine ⟨(Bar.of_ahead ha_w72), ?_⟩
       replace h := h _ X A
       refine Calls.mono h ?_
       clear h
       rintro e38 w74 ⟨b32, s49, s50, he_, ha_w74, h⟩
       refine ⟨b32, s49, s50, he_, ?_⟩
       clear he_
       obtain ⟨B2, B4, B8, B9, B21, B24⟩ := ah6 ha_w74 B2 B4 B8 B9 B21 B24
       obtain ⟨A, X, Y_⟩ := axa3 ha_w74 A X Y_
       replace X : Ext w74 w74 := Ext.refl _
       refine st3_t B21 rfl rfl rfl rfl fun u53 k_u53 B21 => ?_
       obtain ⟨B2, B4, B8, B9, B24⟩ := up5 k_u53 B2 B4 B8 B9 B24
       obtain ⟨A, X, Y_⟩ := axu3 k_u53 g21 A X Y_
       refine st3_t B24 rfl rfl rfl rfl fun u54 k_u54 B24 => ?_
       obtain ⟨B2, B4, B8, B9, B21⟩ := up5 k_u54 B2 B4 B8 B9 B21
       obtain ⟨A, X, Y_⟩ := axu3 k_u54 g24 A X Y_
       replace h := h _ X A
       exact ⟨bk4, bk21, bk24, t8_0, t8_1, t8_2, b31, s47, s48, b32, s49, s50, rfl, B4, g4, rfl, B21, g21, rfl, B24, g24, (by omega), (by omega), (by omega), A, h⟩
     ·refine newC_t fun bk25 u55 hb25 ha_u55 _ B25 => ?_
      have g25 := le_eq A.size hb25
      obtain ⟨_, _, _, _⟩ := lt4 hb25 B2 B4 B8 B9
      have y25 := le_eq Y_ hb25
      obtain ⟨B2, B4, B8, B9⟩ := ah4 ha_u55 B2 B4 B8 B9
      obtain ⟨A, X, Y_⟩ := axa3 ha_u55 A X Y_
      refine bb2 ha_u55 ?_
      refine ⟨?_, ?_⟩
      ·replace h := h _ X A
       refine Calls.mono h ?_
       clear h
       rintro e39 w77 ⟨b33, s51, s52, he_, ha_w77, h⟩
       refine ⟨b33, s51, s52, he_, ?_⟩
       clear he_
       obtain ⟨B2, B4, B8, B9, B25⟩ := ah5 ha_w77 B2 B4 B8 B9 B25
       obtain ⟨A, X, Y_⟩ := axa3 ha_w77 A X Y_
       replace X : Ext w77 w77 := Ext.refl _
       refine ⟨(Bar.of_ahead ha_w77), ?_⟩
       refine ⟨?_, ?_⟩
       ·replace h := h _ X A
        refine Calls.mono h ?_
        clear h
        rintro e40 w79 ⟨b34, s53, s54, he_, ha_w79, h⟩
        refine ⟨b34, s53, s54, he_, ?_⟩
        clear he_
        obtain ⟨B2, B4, B8, B9, B25⟩ := ah5 ha_w79 B2 B4 B8 B9 B25
        obtain ⟨A, X, Y_⟩ := axa3 ha_w79 A X Y_
        replace X : Ext w79 w79 := Ext.refl _
        refine newC_t fun bk26 u56 hb26 ha_u56 _ B26 => ?_
        have g26 := le_eq A.size hb26
        obtain ⟨_, _, _, _, _⟩ := lt5 hb26 B2 B4 B8 B9 B25
        have y26 := le_eq Y_ hb26
        obtain ⟨B2, B4, B8, B9, B25⟩ := ah5 ha_u56 B2 B4 B8 B9 B25
        obtain ⟨A, X, Y_⟩ := axa3 ha_u56 A X Y_
        refine bb2 ha_u56 ?_
        refine st3_t B26 rfl rfl rfl rfl fun u57 k_u57 B26 => ?_
        obtain ⟨B2, B4, B8, B9, B25⟩ := up5 k_u57 B2 B4 B8 B9 B25
        obtain ⟨A, X, Y_⟩ := axu3 k_u57 g26 A X Y_
        refine st3_t B25 rfl rfl rfl rfl fun u58 k_u58 B25 => ?_
        obtain ⟨B2, B4, B8, B9, B26⟩ := up5 k_u58 B2 B4 B8 B9 B26
        obtain ⟨A, X, Y_⟩ := axu3 k_u58 g25 A X Y_
        replace h := h _ X A
        exact ⟨bk4, bk26, bk25, t8_0, t8_1, t8_2, b33, s51, s52, b34, s53, s54, rfl, B4, g4, rfl, B26, g26, rfl, B25, g25, (by omega), (by omega), (by omega), A, h⟩
       ·refine newC_t fun bk27 u59 hb27 ha_u59 _ B27 => ?_
        have g27 := le_eq A.size hb27
        obtain ⟨_, _, _, _, _⟩ := lt5 hb27 B2 B4 B8 B9 B25
        have y27 := le_eq Y_ hb27
        obtain ⟨B2, B4, B8, B9, B25⟩ := ah5 ha_u59 B2 B4 B8 B9 B25
        obtain ⟨A, X, Y_⟩ := axa3 ha_u59 A X Y_
        refine bb2 ha_u59 ?_
        replace h := h _ X A
        refine Calls.mono h ?_
        clear h
        rintro e41 w82 ⟨b35, s55, s56, he_, ha_w82, h⟩
        refine ⟨b35, s55, s56, he_, ?_⟩
        clear he_
        obtain ⟨B2, B4, B8, B9, B25, B27⟩ := ah6 ha_w82 B2 B4 B8 B9 B25 B27
        obtain ⟨A, X, Y_⟩ := axa3 ha_w82 A X Y_
        replace X : Ext w82 w82 := Ext.refl _
        refine st3_t B27 rfl rfl rfl rfl fun u60 k_u60 B27 => ?_
        obtain ⟨B2, B4, B8, B9, B25⟩ := up5 k_u60 B2 B4 B8 B9 B25
        obtain ⟨A, X, Y_⟩ := axu3 k_u60 g27 A X Y_
        refine st3_t B25 rfl rfl rfl rfl fun u61 k_u61 B25 => ?_
        obtain ⟨B2, B4, B8, B9, B27⟩ := up5 k_u61 B2 B4 B8 B9 B27
        obtain ⟨A, X, Y_⟩ := axu3 k_u61 g25 A X Y_
        replace h := h _ X A
        exact ⟨bk4, bk27, bk25, t8_0, t8_1, t8_2, b33, s51, s52, b35, s55, s56, rfl, B4, g4, rfl, B27, g27, rfl, B25, g25, (by omega), (by omega), (by omega), A, h⟩
      ·refine newC_t fun bk28 u62 hb28 ha_u62 _ B28 => ?_
       have g28 := le_eq A.size hb28
       obtain ⟨_, _, _, _, _⟩ := lt5 hb28 B2 B4 B8 B9 B25
       have y28 := le_eq Y_ hb28
       obtain ⟨B2, B4, B8, B9, B25⟩ := ah5 ha_u62 B2 B4 B8 B9 B25
       obtain ⟨A, X, Y_⟩ := axa3 ha_u62 A X Y_
       refine bb2 ha_u62 ?_
       replace h := h _ X A
       refine Calls.mono h ?_
       clear h
       rintro e42 w85 ⟨b36, s57, s58, he_, ha_w85, h⟩
       refine ⟨b36, s57, s58, he_, ?_⟩
       clear he_
       obtain ⟨B2, B4, B8, B9, B25, B28⟩ := ah6 ha_w85 B2 B4 B8 B9 B25 B28
       obtain ⟨A, X, Y_⟩ := axa3 ha_w85 A X Y_
       replace X : Ext w85 w85 := Ext.refl _
       refine ⟨(Bar.of_ahead ha_w85), ?_⟩
       replace h := h _ X A
       refine Calls.mono h ?_
       clear h
       rintro e43 w87 ⟨b37, s59, s60, he_, ha_w87, h⟩
       refine ⟨b37, s59, s60, he_, ?_⟩
       clear he_
       obtain ⟨B2, B4, B8, B9, B25, B28⟩ := ah6 ha_w87 B2 B4 B8 B9 B25 B28
       obtain ⟨A, X, Y_⟩ := axa3 ha_w87 A X Y_
       replace X : Ext w87 w87 := Ext.refl _
       refine st3_t B28 rfl rfl rfl rfl fun u63 k_u63 B28 => ?_
       obtain ⟨B2, B4, B8, B9, B25⟩ := up5 k_u63 B2 B4 B8 B9 B25
       obtain ⟨A, X, Y_⟩ := axu3 k_u63 g28 A X Y_
       refine st3_t B25 rfl rfl rfl rfl fun u64 k_u64 B25 => ?_
       obtain ⟨B2, B4, B8, B9, B28⟩ := up5 k_u64 B2 B4 B8 B9 B28
       obtain ⟨A, X, Y_⟩ := axu3 k_u64 g25 A X Y_
       replace h := h _ X A
       exact ⟨bk4, bk28, bk25, t8_0, t8_1, t8_2, b36, s57, s58, b37, s59, s60, rfl, B4, g4, rfl, B28, g28, rfl, B25, g25, (by omega), (by omega), (by omega), A, h⟩
  · clear h
    rintro t2 t8 t15 t17 t18 t19 w_ ⟨bk4, bk10, bk11, t8_0, t8_1, t8_2, t18_0, t18_1, t18_2, t19_0, t19_1, t19_2, rfl, B4, g4, rfl, B10, g10, rfl, B11, g11, n4_10, n4_11, n10_11, A, hJ3000016⟩
    have h := h3000016  t2 t15 t17 t8_0 t8_1 t8_2 t18_0 t18_1 t18_2 t19_0 t19_1 t19_2 w_ A hJ3000016
    have X : Ext w_ w_ := Ext.refl _
    refine Calls.mono h ?_
    clear h
    rintro e19 w33 ⟨b17, s21, s22, he_, ha_w33, h⟩
    refine ⟨b17, s21, s22, he_, ?_⟩
    clear he_
    obtain ⟨B4, B10, B11⟩ := ah3 ha_w33 B4 B10 B11
    obtain ⟨A, X⟩ := axa2 ha_w33 A X
    replace X : Ext w33 w33 := Ext.refl _
    refine Calls.mono h ?_
    clear h
    rintro e20 w34 ⟨b18, s23, s24, he_, ha_w34, h⟩
    refine ⟨b18, s23, s24, he_, ?_⟩
    clear he_
    obtain ⟨B4, B10, B11⟩ := ah3 ha_w34 B4 B10 B11
    obtain ⟨A, X⟩ := axa2 ha_w34 A X
    replace X : Ext w34 w34 := Ext.refl _
    refine newC_t fun bk12 u24 hb12 ha_u24 _ B12 => ?_
    have g12 := le_eq A.size hb12
    obtain ⟨_, _, _⟩ := lt3 hb12 B4 B10 B11
    obtain ⟨B4, B10, B11⟩ := ah3 ha_u24 B4 B10 B11
    obtain ⟨A, X⟩ := axa2 ha_u24 A X
    refine st3_t B12 rfl rfl rfl rfl fun u25 k_u25 B12 => ?_
    obtain ⟨B4, B10, B11⟩ := up3 k_u25 B4 B10 B11
    obtain ⟨A, X⟩ := axu2 k_u25 g12 A X
    refine ldB_t 0 B4 rfl ?_
    refine ldS_t 1 B4 rfl ?_
    refine ldS_t 2 B4 rfl ?_
    replace h := h _ X A
    refine Calls.mono h ?_
    clear h
    rintro e21 w36 ⟨b19, s25, s26, he_, ha_w36, h⟩
    refine ⟨b19, s25, s26, he_, ?_⟩
    clear he_
    obtain ⟨B4, B10, B11, B12⟩ := ah4 ha_w36 B4 B10 B11 B12
    obtain ⟨A, X⟩ := axa2 ha_w36 A X
    replace X : Ext w36 w36 := Ext.refl _
    refine st3_t B4 rfl rfl rfl rfl fun u26 k_u26 B4 => ?_
    obtain ⟨B10, B11, B12⟩ := up3 k_u26 B10 B11 B12
    obtain ⟨A, X⟩ := axu2 k_u26 g4 A X
    have hd_ := Sp.Ahead.drew u26
    obtain ⟨B4, B10, B11, B12⟩ := ah4 hd_ B4 B10 B11 B12
    obtain ⟨A, X⟩ := axa2 hd_ A X
    clear hd_
    refine br_map h (fun h_ => ?_) (fun h_ => ?_)
    ·clear h
     have h := h_
     clear h_
     replace h := h _ X A
     exact ⟨A, h⟩
    ·clear h
     have h := h_
     clear h_
     refine br_map h (fun h_ => ?_) (fun h_ => ?_)
     ·clear h
      have h := h_
      clear h_
      replace h := h _ X A
      exact ⟨A, h⟩
     ·clear h
      have h := h_
      clear h_
      refine ldB_t 0 B10 rfl ?_
      refine ldS_t 1 B10 rfl ?_
      refine ldS_t 2 B10 rfl ?_
      replace h := h _ X A
      refine Calls.mono h ?_
      clear h
      rintro e22 w40 ⟨x13, he_, ha_w40, h⟩
      refine ⟨x13, he_, ?_⟩
      clear he_
      obtain ⟨B4, B10, B11, B12⟩ := ah4 ha_w40 B4 B10 B11 B12
      obtain ⟨A, X⟩ := axa2 ha_w40 A X
      replace X : Ext w40 w40 := Ext.refl _
      refine ⟨ha_w40, ?_⟩
      refine br_map h (fun h_ => ?_) (fun h_ => ?_)
      ·clear h
       have h := h_
       clear h_
       exact ⟨A, h⟩
      ·clear h
       have h := h_
       clear h_
       refine ldB_t 0 B10 rfl ?_
       refine ldS_t 1 B10 rfl ?_
       refine ldS_t 2 B10 rfl ?_
       refine ldB_t 0 B10 rfl ?_
       refine ldS_t 1 B10 rfl ?_
       refine ldS_t 2 B10 rfl ?_
       refine ldB_t 0 B4 rfl ?_
       refine ldS_t 1 B4 rfl ?_
       refine ldS_t 2 B4 rfl ?_
       refine Calls.mono h ?_
       clear h
       rintro e23 w41 ⟨b20, s27, s28, he_, ha_w41, h⟩
       refine ⟨b20, s27, s28, he_, ?_⟩
       clear he_
       obtain ⟨B4, B10, B11, B12⟩ := ah4 ha_w41 B4 B10 B11 B12
       obtain ⟨A, X⟩ := axa2 ha_w41 A X
       replace X : Ext w41 w41 := Ext.refl _
       refine ⟨ha_w41, ?_⟩
       refine Calls.mono h ?_
       clear h
       rintro e24 w42 ⟨x14, he_, ha_w42, h⟩
       refine ⟨x14, he_, ?_⟩
       clear he_
       obtain ⟨B4, B10, B11, B12⟩ := ah4 ha_w42 B4 B10 B11 B12
       obtain ⟨A, X⟩ := axa2 ha_w42 A X
       replace X : Ext w42 w42 := Ext.refl _
       refine ⟨ha_w42, ?_⟩
       refine br_map h (fun h_ => ?_) (fun h_ => ?_)
       ·clear h
        have h := h_
        clear h_
        exact ⟨A, h⟩
       ·clear h
        have h := h_
        clear h_
        refine ldB_t 0 B11 rfl ?_
        refine ldS_t 1 B11 rfl ?_
        refine ldS_t 2 B11 rfl ?_
        refine ldB_t 0 B11 rfl ?_
        refine ldS_t 1 B11 rfl ?_
        refine ldS_t 2 B11 rfl ?_
        refine ldB_t 0 B4 rfl ?_
        refine ldS_t 1 B4 rfl ?_
        refine ldS_t 2 B4 rfl ?_
        refine Calls.mono h ?_
        clear h
        rintro e25 w43 ⟨b21, s29, s30, he_, ha_w43, h⟩
        refine ⟨b21, s29, s30, he_, ?_⟩
        clear he_
        obtain ⟨B4, B10, B11, B12⟩ := ah4 ha_w43 B4 B10 B11 B12
        obtain ⟨A, X⟩ := axa2 ha_w43 A X
        replace X : Ext w43 w43 := Ext.refl _
        refine ⟨ha_w43, ?_⟩
        refine Calls.mono h ?_
        clear h
        rintro e26 w44 ⟨x15, he_, ha_w44, h⟩
        refine ⟨x15, he_, ?_⟩
        clear he_
        obtain ⟨B4, B10, B11, B12⟩ := ah4 ha_w44 B4 B10 B11 B12
        obtain ⟨A, X⟩ := axa2 ha_w44 A X
        replace X : Ext w44 w44 := Ext.refl _
        refine ⟨ha_w44, ?_⟩
        refine br_map h (fun h_ => ?_) (fun h_ => ?_)
        ·clear h
         have h := h_
         clear h_
         exact ⟨A, h⟩
        ·clear h
         have h := h_
         clear h_
         have hd_ := Sp.Ahead.drew w44
         obtain ⟨B4, B10, B11, B12⟩ := ah4 hd_ B4 B10 B11 B12
         obtain ⟨A, X⟩ := axa2 hd_ A X
         clear hd_
         refine ldB_t 0 B11 rfl ?_
         refine ldS_t 1 B11 rfl ?_
         refine ldS_t 2 B11 rfl ?_
         refine ldB_t 0 B10 rfl ?_
         refine ldS_t 1 B10 rfl ?_
         refine ldS_t 2 B10 rfl ?_
         refine ldB_t 0 B12 rfl ?_
         refine ldS_t 1 B12 rfl ?_
         refine ldS_t 2 B12 rfl ?_
         replace h := h _ X A
         refine Calls.mono h ?_
         clear h
         rintro e27 w46 ⟨b22, s31, s32, he_, ha_w46, h⟩
         refine ⟨b22, s31, s32, he_, ?_⟩
         clear he_
         obtain ⟨B4, B10, B11, B12⟩ := ah4 ha_w46 B4 B10 B11 B12
         obtain ⟨A, X⟩ := axa2 ha_w46 A X
         replace X : Ext w46 w46 := Ext.refl _
         refine ⟨ha_w46, ?_⟩
         refine Calls.mono h ?_
         clear h
         rintro e28 w47 ⟨x16, he_, ha_w47, h⟩
         refine ⟨x16, he_, ?_⟩
         clear he_
         obtain ⟨B4, B10, B11, B12⟩ := ah4 ha_w47 B4 B10 B11 B12
         obtain ⟨A, X⟩ := axa2 ha_w47 A X
         replace X : Ext w47 w47 := Ext.refl _
         refine ⟨ha_w47, ?_⟩
         refine br_map h (fun h_ => ?_) (fun h_ => ?_)
         ·clear h
          have h := h_
          clear h_
          refine Calls.mono h ?_
          clear h
          rintro e29 w48 ⟨b23, he_, ha_w48, h⟩
          refine ⟨b23, he_, ?_⟩
          clear he_
          obtain ⟨B4, B10, B11, B12⟩ := ah4 ha_w48 B4 B10 B11 B12
          obtain ⟨A, X⟩ := axa2 ha_w48 A X
          replace X : Ext w48 w48 := Ext.refl _
          refine ⟨ha_w48, ?_⟩
          exact ⟨A, h⟩
         ·clear h
          have h := h_
          clear h_
          exact ⟨A, h⟩

/-- surd/surdtop.worksTen: function 6, its local variables as values. -/
theorem surdtop_worksTen_v2  (w : World) (R : Ending → World → Prop)
    
    (h : newC w #[Value.int .u64 1] 65 fun ad1 w1 =>
    newC w1 #[Value.int .u64 3] 65 fun ad2 w2 =>
    Calls Tryz.prog 35 #[Value.agg #[Value.bool false, (⟨some ad1, 1, 1⟩ : Slc).v, (⟨some ad2, 1, 1⟩ : Slc).v], Value.int .i64 (-4)] w2 fun e1 w3 =>
    ∃ b1 : Bool, ∃ s1 : Slc, ∃ x1 : Int, ∃ b2 : Bool, ∃ s2 : Slc, ∃ x2 : Int, ∃ x3 : Int, e1 = .returned (Value.tuple #[Value.agg #[Value.bool b1, s1.v, Value.int .i64 x1, Value.bool b2, s2.v, Value.int .i64 x2], Value.int .i64 x3]) ∧ Ahead w2 w3 ∧
    (∀ w4, Ext w3 w4 → Ahead w w4 →
     (Calls Tryz.prog 36 #[] w4 fun e2 w5 =>
      ∃ b3 : Bool, e2 = .returned (Value.bool b3) ∧ Ahead w4 w5 ∧
      (br b3
       (br (x3 == 0)
        (Calls Tryz.prog 37 #[Value.agg #[Value.bool b1, s1.v, Value.int .i64 x1]] w5 fun e3 w6 =>
         ∃ x4 : Int, e3 = .returned (Value.int .i64 x4) ∧ Ahead w5 w6 ∧
         (br (x4 == 1)
          (br (x1 == (-4))
           (Calls Tryz.prog 38 #[Value.int .i64 5] w6 fun e4 w7 =>
            ∃ b4 : Bool, ∃ s3 : Slc, ∃ s4 : Slc, e4 = .returned (Value.agg #[Value.bool b4, s3.v, s4.v]) ∧ Ahead w6 w7 ∧
            (semA Tryz.prog (Instr.indexAt 23 s3.v (Value.int .i64 0)) w7 fun ad3 w8 => w8 = w7 ∧
             (ldI .u64 ad3 w7 fun x5 =>
              R (.returned (Value.bool (x5 == 5))) w7)))
           (R (.returned (Value.bool false)) w6))
          (R (.returned (Value.bool false)) w6)))
        (R (.returned (Value.bool false)) w5))
       (R (.returned (Value.bool false)) w5)))))
     :
    Calls Tryz.prog 6 #[] w (fun e_ w_ => Ahead w w_ ∧ R e_ w_) := by
  refine surdtop_worksTen_vc  w _  ?_
  · have A : Ahead w w := Ahead.refl w
    have X : Ext w w := Ext.refl w
    refine newC_map h fun ad1 w1 ha_w1 h_ => ?_
    clear h
    have h := h_
    clear h_
    obtain ⟨A, X⟩ := axa2 ha_w1 A X
    replace X : Ext w1 w1 := Ext.refl _
    refine newC_map h fun ad2 w2 ha_w2 h_ => ?_
    clear h
    have h := h_
    clear h_
    obtain ⟨A, X⟩ := axa2 ha_w2 A X
    replace X : Ext w2 w2 := Ext.refl _
    refine Calls.mono h ?_
    clear h
    rintro e1 w3 ⟨b1, s1, x1, b2, s2, x2, x3, he_, ha_w3, h⟩
    refine ⟨b1, s1, x1, b2, s2, x2, x3, he_, ?_⟩
    clear he_
    obtain ⟨A, X⟩ := axa2 ha_w3 A X
    replace X : Ext w3 w3 := Ext.refl _
    refine newC_t fun bk1 u1 hb1 ha_u1 _ B1 => ?_
    have g1 := le_eq A.size hb1
    obtain ⟨A, X⟩ := axa2 ha_u1 A X
    refine stC_t 0 B1 rfl rfl rfl fun u2 k_u2 B1_ => ?_
    replace B1 : Blt u2 bk1 50 #[Value.bool b1, (⟨none, 0, 0⟩ : Slc).v, Value.int .i64 0, Value.bool false, (⟨none, 0, 0⟩ : Slc).v, Value.int .i64 0] := B1_
    clear B1_
    refine stC_t 1 B1 rfl rfl rfl fun u3 k_u3 B1_ => ?_
    replace B1 : Blt u3 bk1 50 #[Value.bool b1, s1.v, Value.int .i64 0, Value.bool false, (⟨none, 0, 0⟩ : Slc).v, Value.int .i64 0] := B1_
    clear B1_
    refine stC_t 2 B1 rfl rfl rfl fun u4 k_u4 B1_ => ?_
    replace B1 : Blt u4 bk1 50 #[Value.bool b1, s1.v, Value.int .i64 x1, Value.bool false, (⟨none, 0, 0⟩ : Slc).v, Value.int .i64 0] := B1_
    clear B1_
    refine stC_t 3 B1 rfl rfl rfl fun u5 k_u5 B1_ => ?_
    replace B1 : Blt u5 bk1 50 #[Value.bool b1, s1.v, Value.int .i64 x1, Value.bool b2, (⟨none, 0, 0⟩ : Slc).v, Value.int .i64 0] := B1_
    clear B1_
    refine stC_t 4 B1 rfl rfl rfl fun u6 k_u6 B1_ => ?_
    replace B1 : Blt u6 bk1 50 #[Value.bool b1, s1.v, Value.int .i64 x1, Value.bool b2, s2.v, Value.int .i64 0] := B1_
    clear B1_
    refine stC_t 5 B1 rfl rfl rfl fun u7 k_u7 B1_ => ?_
    replace B1 : Blt u7 bk1 50 #[Value.bool b1, s1.v, Value.int .i64 x1, Value.bool b2, s2.v, Value.int .i64 x2] := B1_
    clear B1_
    have kk_u2 := (((((k_u2.trans k_u3).trans k_u4).trans k_u5).trans k_u6).trans k_u7)
    obtain ⟨A, X⟩ := axu2 kk_u2 g1 A X
    clear k_u7 k_u6 k_u5 k_u4 k_u3 k_u2
    replace h := h _ X A
    refine Calls.mono h ?_
    clear h
    rintro e2 w5 ⟨b3, he_, ha_w5, h⟩
    refine ⟨b3, he_, ?_⟩
    clear he_
    replace B1 := B1.ahead ha_w5
    obtain ⟨A, X⟩ := axa2 ha_w5 A X
    replace X : Ext w5 w5 := Ext.refl _
    refine br_map h (fun h_ => ?_) (fun h_ => ?_)
    ·clear h
     have h := h_
     clear h_
     refine br_map h (fun h_ => ?_) (fun h_ => ?_)
     ·clear h
      have h := h_
      clear h_
      refine ldB_t 0 B1 rfl ?_
      refine ldS_t 1 B1 rfl ?_
      refine ldI_t 2 B1 rfl ?_
      refine Calls.mono h ?_
      clear h
      rintro e3 w6 ⟨x4, he_, ha_w6, h⟩
      refine ⟨x4, he_, ?_⟩
      clear he_
      replace B1 := B1.ahead ha_w6
      obtain ⟨A, X⟩ := axa2 ha_w6 A X
      replace X : Ext w6 w6 := Ext.refl _
      refine br_map h (fun h_ => ?_) (fun h_ => ?_)
      ·clear h
       have h := h_
       clear h_
       refine ldI_t 2 B1 rfl ?_
       refine br_map h (fun h_ => ?_) (fun h_ => ?_)
       ·clear h
        have h := h_
        clear h_
        refine Calls.mono h ?_
        clear h
        rintro e4 w7 ⟨b4, s3, s4, he_, ha_w7, h⟩
        refine ⟨b4, s3, s4, he_, ?_⟩
        clear he_
        replace B1 := B1.ahead ha_w7
        obtain ⟨A, X⟩ := axa2 ha_w7 A X
        replace X : Ext w7 w7 := Ext.refl _
        refine semA_map h ?_
        clear h
        rintro ad3 _ ⟨rfl, h⟩
        obtain ⟨x5, hc_, h⟩ := h
        refine ⟨x5, hc_, ?_⟩
        clear hc_
        exact ⟨A, h⟩
       ·clear h
        have h := h_
        clear h_
        exact ⟨A, h⟩
      ·clear h
       have h := h_
       clear h_
       exact ⟨A, h⟩
     ·clear h
      have h := h_
      clear h_
      exact ⟨A, h⟩
    ·clear h
     have h := h_
     clear h_
     exact ⟨A, h⟩

/-- surd/surdtop.tame: function 7, its local variables as values. -/
theorem surdtop_tame_v2 (a0_d_0 : Bool) (a0_d_1 : Slc) (a0_d_2 : Int) (w : World) (R : Ending → World → Prop)
    
    (h : ∀ w1, Ext w w1 → Ahead w w1 →
    (Calls Tryz.prog 8 #[Value.int .i64 a0_d_2, Value.int .i64 (-99), Value.int .i64 99] w1 fun e1 w2 =>
     ∃ x1 : Int, e1 = .returned (Value.int .i64 x1) ∧ Ahead w1 w2 ∧
     (∀ w3, Ext w2 w3 → Ahead w w3 →
      (R (.returned (Value.agg #[Value.bool a0_d_0, a0_d_1.v, Value.int .i64 x1])) w3))))
     :
    Calls Tryz.prog 7 #[Value.agg #[Value.bool a0_d_0, a0_d_1.v, Value.int .i64 a0_d_2]] w (fun e_ w_ => Ahead w w_ ∧ R e_ w_) := by
  refine surdtop_tame_vc a0_d_0 a0_d_1 a0_d_2 w _  ?_
  · have A : Ahead w w := Ahead.refl w
    have X : Ext w w := Ext.refl w
    refine newC_t fun bk1 u1 hb1 ha_u1 _ B1 => ?_
    have g1 := le_eq A.size hb1
    obtain ⟨A, X⟩ := axa2 ha_u1 A X
    refine newC_t fun bk2 u2 hb2 ha_u2 _ B2 => ?_
    have g2 := le_eq A.size hb2
    have l1_2 := lt1 hb2 B1
    replace B1 := B1.ahead ha_u2
    obtain ⟨A, X⟩ := axa2 ha_u2 A X
    refine ldI_t 2 B1 rfl ?_
    replace h := h _ X A
    refine Calls.mono h ?_
    clear h
    rintro e1 w2 ⟨x1, he_, ha_w2, h⟩
    refine ⟨x1, he_, ?_⟩
    clear he_
    obtain ⟨B1, B2⟩ := ah2 ha_w2 B1 B2
    obtain ⟨A, X⟩ := axa2 ha_w2 A X
    replace X : Ext w2 w2 := Ext.refl _
    refine stC_t 2 B1 rfl rfl rfl fun u3 k_u3 B1_ => ?_
    replace B1 : Blt u3 bk1 27 #[Value.bool a0_d_0, a0_d_1.v, Value.int .i64 x1] := B1_
    clear B1_
    replace B2 := up1 k_u3 B2
    obtain ⟨A, X⟩ := axu2 k_u3 g1 A X
    refine ldB_t 0 B1 rfl ?_
    refine ldS_t 1 B1 rfl ?_
    refine ldI_t 2 B1 rfl ?_
    refine st3_t B2 rfl rfl rfl rfl fun u4 k_u4 B2 => ?_
    replace B1 := up1 k_u4 B1
    obtain ⟨A, X⟩ := axu2 k_u4 g2 A X
    refine ldB_t 0 B2 rfl ?_
    refine ldS_t 1 B2 rfl ?_
    refine ldI_t 2 B2 rfl ?_
    replace h := h _ X A
    exact ⟨A, h⟩

/-- surd/surdtop.dyadicOf: function 9, its local variables as values. -/
theorem surdtop_dyadicOf_v2 (a0_d_0 : Bool) (a0_d_1 : Slc) (a0_d_2 : Int) (w : World) (R : Ending → World → Prop)
    
    (h : ∀ w1, Ext w w1 → Ahead w w1 →
    (Calls Tryz.prog 39 #[Value.bool a0_d_0, a0_d_1.v] w1 fun e1 w2 =>
     ∃ b1 : Bool, ∃ s1 : Slc, ∃ s2 : Slc, e1 = .returned (Value.agg #[Value.bool b1, s1.v, s2.v]) ∧ Ahead w1 w2 ∧
     (Calls Tryz.prog 15 #[Value.agg #[Value.bool b1, s1.v, s2.v], Value.int .i64 a0_d_2] w2 fun e2 w3 =>
      ∃ b2 : Bool, ∃ s3 : Slc, ∃ s4 : Slc, e2 = .returned (Value.agg #[Value.bool b2, s3.v, s4.v]) ∧ Ahead w2 w3 ∧
      (∀ w4, Ext w3 w4 → Ahead w w4 →
       (R (.returned (Value.agg #[Value.bool b2, s3.v, s4.v])) w4)))))
     :
    Calls Tryz.prog 9 #[Value.agg #[Value.bool a0_d_0, a0_d_1.v, Value.int .i64 a0_d_2]] w (fun e_ w_ => Ahead w w_ ∧ R e_ w_) := by
  refine surdtop_dyadicOf_vc a0_d_0 a0_d_1 a0_d_2 w _  ?_
  · have A : Ahead w w := Ahead.refl w
    have X : Ext w w := Ext.refl w
    refine newC_t fun bk1 u1 hb1 ha_u1 _ B1 => ?_
    have g1 := le_eq A.size hb1
    obtain ⟨A, X⟩ := axa2 ha_u1 A X
    refine newC_t fun bk2 u2 hb2 ha_u2 _ B2 => ?_
    have g2 := le_eq A.size hb2
    have l1_2 := lt1 hb2 B1
    replace B1 := B1.ahead ha_u2
    obtain ⟨A, X⟩ := axa2 ha_u2 A X
    have hd_ := Sp.Ahead.drew u2
    obtain ⟨B1, B2⟩ := ah2 hd_ B1 B2
    obtain ⟨A, X⟩ := axa2 hd_ A X
    clear hd_
    refine ldB_t 0 B1 rfl ?_
    refine ldS_t 1 B1 rfl ?_
    refine ldI_t 2 B1 rfl ?_
    replace h := h _ X A
    refine Calls.mono h ?_
    clear h
    rintro e1 w2 ⟨b1, s1, s2, he_, ha_w2, h⟩
    refine ⟨b1, s1, s2, he_, ?_⟩
    clear he_
    obtain ⟨B1, B2⟩ := ah2 ha_w2 B1 B2
    obtain ⟨A, X⟩ := axa2 ha_w2 A X
    replace X : Ext w2 w2 := Ext.refl _
    refine ⟨ha_w2, ?_⟩
    refine Calls.mono h ?_
    clear h
    rintro e2 w3 ⟨b2, s3, s4, he_, ha_w3, h⟩
    refine ⟨b2, s3, s4, he_, ?_⟩
    clear he_
    obtain ⟨B1, B2⟩ := ah2 ha_w3 B1 B2
    obtain ⟨A, X⟩ := axa2 ha_w3 A X
    replace X : Ext w3 w3 := Ext.refl _
    refine ⟨ha_w3, ?_⟩
    refine st3_t B2 rfl rfl rfl rfl fun u3 k_u3 B2 => ?_
    replace B1 := up1 k_u3 B1
    obtain ⟨A, X⟩ := axu2 k_u3 g2 A X
    refine ldB_t 0 B2 rfl ?_
    refine ldS_t 1 B2 rfl ?_
    refine ldS_t 2 B2 rfl ?_
    replace h := h _ X A
    exact ⟨A, h⟩

/-- surd/surdtop.between: function 13, its local variables as values. -/
theorem surdtop_between_v2 (a0_lo_0 : Bool) (a0_lo_1 : Slc) (a0_lo_2 : Slc) (a1_q_0 : Bool) (a1_q_1 : Slc) (a1_q_2 : Slc) (a2_hi_0 : Bool) (a2_hi_1 : Slc) (a2_hi_2 : Slc) (a3_pos : Int) (w : World) (R : Ending → World → Prop)
    
    (h : ∀ w1, Ext w w1 → Ahead w w1 →
    (Calls Tryz.prog 20 #[Value.agg #[Value.bool a2_hi_0, a2_hi_1.v, a2_hi_2.v], Value.agg #[Value.bool a0_lo_0, a0_lo_1.v, a0_lo_2.v]] w1 fun e1 w2 =>
     ∃ b1 : Bool, ∃ s1 : Slc, ∃ s2 : Slc, e1 = .returned (Value.agg #[Value.bool b1, s1.v, s2.v]) ∧ Ahead w1 w2 ∧
     (Calls Tryz.prog 15 #[Value.agg #[Value.bool b1, s1.v, s2.v], Value.int .i64 (IntKind.i64.wrap (0 - a3_pos))] w2 fun e2 w3 =>
      ∃ b2 : Bool, ∃ s3 : Slc, ∃ s4 : Slc, e2 = .returned (Value.agg #[Value.bool b2, s3.v, s4.v]) ∧ Ahead w2 w3 ∧
      (∀ w4, Ext w3 w4 → Ahead w w4 →
       (Calls Tryz.prog 18 #[Value.agg #[Value.bool a0_lo_0, a0_lo_1.v, a0_lo_2.v], Value.agg #[Value.bool a1_q_0, a1_q_1.v, a1_q_2.v]] w4 fun e3 w5 =>
        ∃ x1 : Int, e3 = .returned (Value.int .i64 x1) ∧ Ahead w4 w5 ∧
        (br (x1 == 0)
         (Calls Tryz.prog 10 #[Value.agg #[Value.bool b2, s3.v, s4.v]] w5 fun e4 w6 =>
          ∃ x2 : Int, e4 = .returned (Value.int .i64 x2) ∧ Ahead w5 w6 ∧
          (R (.returned (Value.bool (x2 == 0))) w6))
         (∀ w7, Ext w5 w7 → Ahead w w7 →
          (Calls Tryz.prog 18 #[Value.agg #[Value.bool a0_lo_0, a0_lo_1.v, a0_lo_2.v], Value.agg #[Value.bool a1_q_0, a1_q_1.v, a1_q_2.v]] w7 fun e5 w8 =>
           ∃ x3 : Int, e5 = .returned (Value.int .i64 x3) ∧ Ahead w7 w8 ∧
           (br (decide (x3 < 0))
            (Calls Tryz.prog 18 #[Value.agg #[Value.bool a1_q_0, a1_q_1.v, a1_q_2.v], Value.agg #[Value.bool a2_hi_0, a2_hi_1.v, a2_hi_2.v]] w8 fun e6 w9 =>
             ∃ x4 : Int, e6 = .returned (Value.int .i64 x4) ∧ Ahead w8 w9 ∧
             (br (decide (x4 < 0))
              (Calls Tryz.prog 16 #[Value.int .i64 1] w9 fun e7 w10 =>
               ∃ b3 : Bool, ∃ s5 : Slc, ∃ s6 : Slc, e7 = .returned (Value.agg #[Value.bool b3, s5.v, s6.v]) ∧ Ahead w9 w10 ∧
               (Calls Tryz.prog 18 #[Value.agg #[Value.bool b2, s3.v, s4.v], Value.agg #[Value.bool b3, s5.v, s6.v]] w10 fun e8 w11 =>
                ∃ x5 : Int, e8 = .returned (Value.int .i64 x5) ∧ Ahead w10 w11 ∧
                (R (.returned (Value.bool (x5 == 0))) w11)))
              (R (.returned (Value.bool false)) w9)))
            (R (.returned (Value.bool false)) w8))))))))))
     :
    Calls Tryz.prog 13 #[Value.agg #[Value.bool a0_lo_0, a0_lo_1.v, a0_lo_2.v], Value.agg #[Value.bool a1_q_0, a1_q_1.v, a1_q_2.v], Value.agg #[Value.bool a2_hi_0, a2_hi_1.v, a2_hi_2.v], Value.int .i64 a3_pos] w (fun e_ w_ => Ahead w w_ ∧ R e_ w_) := by
  refine surdtop_between_vc a0_lo_0 a0_lo_1 a0_lo_2 a1_q_0 a1_q_1 a1_q_2 a2_hi_0 a2_hi_1 a2_hi_2 a3_pos w _  ?_
  · have A : Ahead w w := Ahead.refl w
    have X : Ext w w := Ext.refl w
    refine newC_t fun bk1 u1 hb1 ha_u1 _ B1 => ?_
    have g1 := le_eq A.size hb1
    obtain ⟨A, X⟩ := axa2 ha_u1 A X
    refine newC_t fun bk2 u2 hb2 ha_u2 _ B2 => ?_
    have g2 := le_eq A.size hb2
    have l1_2 := lt1 hb2 B1
    replace B1 := B1.ahead ha_u2
    obtain ⟨A, X⟩ := axa2 ha_u2 A X
    refine newC_t fun bk3 u3 hb3 ha_u3 _ B3 => ?_
    have g3 := le_eq A.size hb3
    obtain ⟨_, _⟩ := lt2 hb3 B1 B2
    obtain ⟨B1, B2⟩ := ah2 ha_u3 B1 B2
    obtain ⟨A, X⟩ := axa2 ha_u3 A X
    refine ldB_t 0 B3 rfl ?_
    refine ldS_t 1 B3 rfl ?_
    refine ldS_t 2 B3 rfl ?_
    refine ldB_t 0 B1 rfl ?_
    refine ldS_t 1 B1 rfl ?_
    refine ldS_t 2 B1 rfl ?_
    replace h := h _ X A
    refine Calls.mono h ?_
    clear h
    rintro e1 w2 ⟨b1, s1, s2, he_, ha_w2, h⟩
    refine ⟨b1, s1, s2, he_, ?_⟩
    clear he_
    obtain ⟨B1, B2, B3⟩ := ah3 ha_w2 B1 B2 B3
    obtain ⟨A, X⟩ := axa2 ha_w2 A X
    replace X : Ext w2 w2 := Ext.refl _
    refine Calls.mono h ?_
    clear h
    rintro e2 w3 ⟨b2, s3, s4, he_, ha_w3, h⟩
    refine ⟨b2, s3, s4, he_, ?_⟩
    clear he_
    obtain ⟨B1, B2, B3⟩ := ah3 ha_w3 B1 B2 B3
    obtain ⟨A, X⟩ := axa2 ha_w3 A X
    replace X : Ext w3 w3 := Ext.refl _
    refine newC_t fun bk4 u4 hb4 ha_u4 _ B4 => ?_
    have g4 := le_eq A.size hb4
    obtain ⟨_, _, _⟩ := lt3 hb4 B1 B2 B3
    obtain ⟨B1, B2, B3⟩ := ah3 ha_u4 B1 B2 B3
    obtain ⟨A, X⟩ := axa2 ha_u4 A X
    refine st3_t B4 rfl rfl rfl rfl fun u5 k_u5 B4 => ?_
    obtain ⟨B1, B2, B3⟩ := up3 k_u5 B1 B2 B3
    obtain ⟨A, X⟩ := axu2 k_u5 g4 A X
    refine ldB_t 0 B1 rfl ?_
    refine ldS_t 1 B1 rfl ?_
    refine ldS_t 2 B1 rfl ?_
    refine ldB_t 0 B2 rfl ?_
    refine ldS_t 1 B2 rfl ?_
    refine ldS_t 2 B2 rfl ?_
    replace h := h _ X A
    refine Calls.mono h ?_
    clear h
    rintro e3 w5 ⟨x1, he_, ha_w5, h⟩
    refine ⟨x1, he_, ?_⟩
    clear he_
    obtain ⟨B1, B2, B3, B4⟩ := ah4 ha_w5 B1 B2 B3 B4
    obtain ⟨A, X⟩ := axa2 ha_w5 A X
    replace X : Ext w5 w5 := Ext.refl _
    refine br_map h (fun h_ => ?_) (fun h_ => ?_)
    ·clear h
     have h := h_
     clear h_
     refine ldB_t 0 B4 rfl ?_
     refine ldS_t 1 B4 rfl ?_
     refine ldS_t 2 B4 rfl ?_
     refine Calls.mono h ?_
     clear h
     rintro e4 w6 ⟨x2, he_, ha_w6, h⟩
     refine ⟨x2, he_, ?_⟩
     clear he_
     obtain ⟨B1, B2, B3, B4⟩ := ah4 ha_w6 B1 B2 B3 B4
     obtain ⟨A, X⟩ := axa2 ha_w6 A X
     replace X : Ext w6 w6 := Ext.refl _
     exact ⟨A, h⟩
    ·clear h
     have h := h_
     clear h_
     have hd_ := Sp.Ahead.drew w5
     obtain ⟨B1, B2, B3, B4⟩ := ah4 hd_ B1 B2 B3 B4
     obtain ⟨A, X⟩ := axa2 hd_ A X
     clear hd_
     refine ldB_t 0 B1 rfl ?_
     refine ldS_t 1 B1 rfl ?_
     refine ldS_t 2 B1 rfl ?_
     refine ldB_t 0 B2 rfl ?_
     refine ldS_t 1 B2 rfl ?_
     refine ldS_t 2 B2 rfl ?_
     replace h := h _ X A
     refine Calls.mono h ?_
     clear h
     rintro e5 w8 ⟨x3, he_, ha_w8, h⟩
     refine ⟨x3, he_, ?_⟩
     clear he_
     obtain ⟨B1, B2, B3, B4⟩ := ah4 ha_w8 B1 B2 B3 B4
     obtain ⟨A, X⟩ := axa2 ha_w8 A X
     replace X : Ext w8 w8 := Ext.refl _
     refine ⟨ha_w8, ?_⟩
     refine br_map h (fun h_ => ?_) (fun h_ => ?_)
     ·clear h
      have h := h_
      clear h_
      refine ldB_t 0 B2 rfl ?_
      refine ldS_t 1 B2 rfl ?_
      refine ldS_t 2 B2 rfl ?_
      refine ldB_t 0 B3 rfl ?_
      refine ldS_t 1 B3 rfl ?_
      refine ldS_t 2 B3 rfl ?_
      refine Calls.mono h ?_
      clear h
      rintro e6 w9 ⟨x4, he_, ha_w9, h⟩
      refine ⟨x4, he_, ?_⟩
      clear he_
      obtain ⟨B1, B2, B3, B4⟩ := ah4 ha_w9 B1 B2 B3 B4
      obtain ⟨A, X⟩ := axa2 ha_w9 A X
      replace X : Ext w9 w9 := Ext.refl _
      refine ⟨ha_w9, ?_⟩
      refine br_map h (fun h_ => ?_) (fun h_ => ?_)
      ·clear h
       have h := h_
       clear h_
       refine ldB_t 0 B4 rfl ?_
       refine ldS_t 1 B4 rfl ?_
       refine ldS_t 2 B4 rfl ?_
       refine Calls.mono h ?_
       clear h
       rintro e7 w10 ⟨b3, s5, s6, he_, ha_w10, h⟩
       refine ⟨b3, s5, s6, he_, ?_⟩
       clear he_
       obtain ⟨B1, B2, B3, B4⟩ := ah4 ha_w10 B1 B2 B3 B4
       obtain ⟨A, X⟩ := axa2 ha_w10 A X
       replace X : Ext w10 w10 := Ext.refl _
       refine ⟨ha_w10, ?_⟩
       refine Calls.mono h ?_
       clear h
       rintro e8 w11 ⟨x5, he_, ha_w11, h⟩
       refine ⟨x5, he_, ?_⟩
       clear he_
       obtain ⟨B1, B2, B3, B4⟩ := ah4 ha_w11 B1 B2 B3 B4
       obtain ⟨A, X⟩ := axa2 ha_w11 A X
       replace X : Ext w11 w11 := Ext.refl _
       refine ⟨ha_w11, ?_⟩
       exact ⟨A, h⟩
      ·clear h
       have h := h_
       clear h_
       exact ⟨A, h⟩
     ·clear h
      have h := h_
      clear h_
      exact ⟨A, h⟩

/-- surd/surdtop.rational: function 39, its local variables as values. -/
theorem surdtop_rational_v2 (a0_neg : Bool) (a1_limbs : Slc) (w : World) (R : Ending → World → Prop)
    
    (h : ∀ w1, Ext w w1 → Ahead w w1 →
    (Calls Tryz.prog 33 #[a1_limbs.v] w1 fun e1 w2 =>
     ∃ s1 : Slc, e1 = .returned s1.v ∧ Ahead w1 w2 ∧
     (Calls Tryz.prog 56 #[Value.int .i64 1] w2 fun e2 w3 =>
      ∃ s2 : Slc, e2 = .returned s2.v ∧ Ahead w2 w3 ∧
      (Calls Tryz.prog 44 #[Value.bool a0_neg, s1.v, s2.v] w3 fun e3 w4 =>
       ∃ b1 : Bool, ∃ s3 : Slc, ∃ s4 : Slc, e3 = .returned (Value.agg #[Value.bool b1, s3.v, s4.v]) ∧ Ahead w3 w4 ∧
       (∀ w5, Ext w4 w5 → Ahead w w5 →
        (R (.returned (Value.agg #[Value.bool b1, s3.v, s4.v])) w5))))))
     :
    Calls Tryz.prog 39 #[Value.bool a0_neg, a1_limbs.v] w (fun e_ w_ => Ahead w w_ ∧ R e_ w_) := by
  refine surdtop_rational_vc a0_neg a1_limbs w _  ?_
  · have A : Ahead w w := Ahead.refl w
    have X : Ext w w := Ext.refl w
    refine newC_t fun bk1 u1 hb1 ha_u1 _ B1 => ?_
    have g1 := le_eq A.size hb1
    obtain ⟨A, X⟩ := axa2 ha_u1 A X
    replace h := h _ X A
    refine Calls.mono h ?_
    clear h
    rintro e1 w2 ⟨s1, he_, ha_w2, h⟩
    refine ⟨s1, he_, ?_⟩
    clear he_
    replace B1 := B1.ahead ha_w2
    obtain ⟨A, X⟩ := axa2 ha_w2 A X
    replace X : Ext w2 w2 := Ext.refl _
    refine Calls.mono h ?_
    clear h
    rintro e2 w3 ⟨s2, he_, ha_w3, h⟩
    refine ⟨s2, he_, ?_⟩
    clear he_
    replace B1 := B1.ahead ha_w3
    obtain ⟨A, X⟩ := axa2 ha_w3 A X
    replace X : Ext w3 w3 := Ext.refl _
    refine Calls.mono h ?_
    clear h
    rintro e3 w4 ⟨b1, s3, s4, he_, ha_w4, h⟩
    refine ⟨b1, s3, s4, he_, ?_⟩
    clear he_
    replace B1 := B1.ahead ha_w4
    obtain ⟨A, X⟩ := axa2 ha_w4 A X
    replace X : Ext w4 w4 := Ext.refl _
    refine st3_t B1 rfl rfl rfl rfl fun u2 k_u2 B1 => ?_
    obtain ⟨A, X⟩ := axu2 k_u2 g1 A X
    refine ldB_t 0 B1 rfl ?_
    refine ldS_t 1 B1 rfl ?_
    refine ldS_t 2 B1 rfl ?_
    replace h := h _ X A
    exact ⟨A, h⟩

/-- surd/surdtop.works: function 36, its local variables as values. -/
theorem surdtop_works_v2  (w : World) (R : Ending → World → Prop)
    
    (h : newC w #[Value.int .u64 6] 65 fun ad1 w1 =>
    newC w1 #[Value.int .u64 7] 65 fun ad2 w2 =>
    Calls Tryz.prog 79 #[(⟨some ad1, 1, 1⟩ : Slc).v, (⟨some ad2, 1, 1⟩ : Slc).v] w2 fun e1 w3 =>
    ∃ s1 : Slc, ∃ x1 : Int, e1 = .returned (Value.tuple #[s1.v, Value.int .i64 x1]) ∧ Ahead w2 w3 ∧
    (newC w3 #[Value.int .u64 49] 65 fun ad3 w4 =>
     Calls Tryz.prog 51 #[(⟨some ad3, 1, 1⟩ : Slc).v] w4 fun e2 w5 =>
     ∃ s2 : Slc, ∃ s3 : Slc, ∃ x2 : Int, e2 = .returned (Value.tuple #[s2.v, s3.v, Value.int .i64 x2]) ∧ Ahead w4 w5 ∧
     (Calls Tryz.prog 80 #[s1.v, Value.int .i64 10] w5 fun e3 w6 =>
      ∃ n1 : ByteArray, ∃ x3 : Int, e3 = .returned (Value.tuple #[Value.string n1, Value.int .i64 x3]) ∧ Ahead w5 w6 ∧
      (br (x1 == 0)
       (br (x2 == 0)
        (br (x3 == 0)
         (br (n1.toList == (⟨#[52, 50]⟩ : ByteArray).toList)
          (newC w6 #[Value.int .u64 7] 65 fun ad4 w7 =>
           Calls Tryz.prog 81 #[s2.v, (⟨some ad4, 1, 1⟩ : Slc).v] w7 fun e4 w8 =>
           ∃ x4 : Int, e4 = .returned (Value.int .i64 x4) ∧ Ahead w7 w8 ∧
           (br (x4 == 0)
            (newC w8 #[Value.int .u64 1] 65 fun ad5 w9 =>
             Calls Tryz.prog 82 #[Value.agg #[Value.bool true, (⟨some ad5, 1, 1⟩ : Slc).v]] w9 fun e5 w10 =>
             ∃ x5 : Int, e5 = .returned (Value.int .i64 x5) ∧ Ahead w9 w10 ∧
             (R (.returned (Value.bool (x5 == (-1)))) w10))
            (R (.returned (Value.bool false)) w8)))
          (R (.returned (Value.bool false)) w6))
         (R (.returned (Value.bool false)) w6))
        (R (.returned (Value.bool false)) w6))
       (R (.returned (Value.bool false)) w6)))))
     :
    Calls Tryz.prog 36 #[] w (fun e_ w_ => Ahead w w_ ∧ R e_ w_) := by
  refine surdtop_works_vc  w _  ?_
  · have A : Ahead w w := Ahead.refl w
    have X : Ext w w := Ext.refl w
    refine newC_map h fun ad1 w1 ha_w1 h_ => ?_
    clear h
    have h := h_
    clear h_
    obtain ⟨A, X⟩ := axa2 ha_w1 A X
    replace X : Ext w1 w1 := Ext.refl _
    refine newC_map h fun ad2 w2 ha_w2 h_ => ?_
    clear h
    have h := h_
    clear h_
    obtain ⟨A, X⟩ := axa2 ha_w2 A X
    replace X : Ext w2 w2 := Ext.refl _
    refine Calls.mono h ?_
    clear h
    rintro e1 w3 ⟨s1, x1, he_, ha_w3, h⟩
    refine ⟨s1, x1, he_, ?_⟩
    clear he_
    obtain ⟨A, X⟩ := axa2 ha_w3 A X
    replace X : Ext w3 w3 := Ext.refl _
    refine newC_map h fun ad3 w4 ha_w4 h_ => ?_
    clear h
    have h := h_
    clear h_
    obtain ⟨A, X⟩ := axa2 ha_w4 A X
    replace X : Ext w4 w4 := Ext.refl _
    refine Calls.mono h ?_
    clear h
    rintro e2 w5 ⟨s2, s3, x2, he_, ha_w5, h⟩
    refine ⟨s2, s3, x2, he_, ?_⟩
    clear he_
    obtain ⟨A, X⟩ := axa2 ha_w5 A X
    replace X : Ext w5 w5 := Ext.refl _
    refine Calls.mono h ?_
    clear h
    rintro e3 w6 ⟨n1, x3, he_, ha_w6, h⟩
    refine ⟨n1, x3, he_, ?_⟩
    clear he_
    obtain ⟨A, X⟩ := axa2 ha_w6 A X
    replace X : Ext w6 w6 := Ext.refl _
    refine br_map h (fun h_ => ?_) (fun h_ => ?_)
    ·clear h
     have h := h_
     clear h_
     refine br_map h (fun h_ => ?_) (fun h_ => ?_)
     ·clear h
      have h := h_
      clear h_
      refine br_map h (fun h_ => ?_) (fun h_ => ?_)
      ·clear h
       have h := h_
       clear h_
       refine br_map h (fun h_ => ?_) (fun h_ => ?_)
       ·clear h
        have h := h_
        clear h_
        refine newC_map h fun ad4 w7 ha_w7 h_ => ?_
        clear h
        have h := h_
        clear h_
        obtain ⟨A, X⟩ := axa2 ha_w7 A X
        replace X : Ext w7 w7 := Ext.refl _
        refine Calls.mono h ?_
        clear h
        rintro e4 w8 ⟨x4, he_, ha_w8, h⟩
        refine ⟨x4, he_, ?_⟩
        clear he_
        obtain ⟨A, X⟩ := axa2 ha_w8 A X
        replace X : Ext w8 w8 := Ext.refl _
        refine br_map h (fun h_ => ?_) (fun h_ => ?_)
        ·clear h
         have h := h_
         clear h_
         refine newC_map h fun ad5 w9 ha_w9 h_ => ?_
         clear h
         have h := h_
         clear h_
         obtain ⟨A, X⟩ := axa2 ha_w9 A X
         replace X : Ext w9 w9 := Ext.refl _
         refine Calls.mono h ?_
         clear h
         rintro e5 w10 ⟨x5, he_, ha_w10, h⟩
         refine ⟨x5, he_, ?_⟩
         clear he_
         obtain ⟨A, X⟩ := axa2 ha_w10 A X
         replace X : Ext w10 w10 := Ext.refl _
         exact ⟨A, h⟩
        ·clear h
         have h := h_
         clear h_
         exact ⟨A, h⟩
       ·clear h
        have h := h_
        clear h_
        exact ⟨A, h⟩
      ·clear h
       have h := h_
       clear h_
       exact ⟨A, h⟩
     ·clear h
      have h := h_
      clear h_
      exact ⟨A, h⟩
    ·clear h
     have h := h_
     clear h_
     exact ⟨A, h⟩

end Go.Proofs.YtbeiopoejdkheaaGreatDoor
namespace Go.Proofs.YtbeiopoejdkheaaGreatDoor
open Go Go.RowKit Eng Sp Dg L2
set_option linter.unusedVariables false
set_option linter.unusedSimpArgs false
set_option maxRecDepth 100000
namespace R7
open _root_.Go.Proofs.YtbeiopoejdkheaaGreatDoor.Ref (RN RN.ahead RN.ext RN.nil RN.n rMul_spec rDiv_spec zero_spec Of_spec Int_spec Add_spec Sub_spec Cmp_spec Shl_spec Shr_spec)
open _root_.Go.Proofs.YtbeiopoejdkheaaGreatDoor.Rt (rd_inj bl_add_le bl_one)
open _root_.Go.Proofs.YtbeiopoejdkheaaGreatDoor.Ro (bl_mul_le tz_dvd)
open _root_.Go.Proofs.YtbeiopoejdkheaaGreatDoor.Nat (Num Num.ahead)
open Dy

theorem Add_val {w : World} {a b : Bool} {s t u v : Slc} {p p' : Int} {q q' k k' : Nat} (h : RV w a s t p q k) (h' : RV w b u v p' q' k') (hk : k + k' + 1 ≤ 67108864) :
    Calls pr surdref07_Add_id #[.agg #[.bool a, s.v, t.v], .agg #[.bool b, u.v, v.v]] w fun e w' => Ahead w w' ∧ RA (p * (q' : Int) + p' * (q : Int)) (q * q') (k + k' + 1) e w' := by
  obtain ⟨hq, n, d, r1, r2, hd, b1, b2, hv⟩ := h
  obtain ⟨hq', n', d', r1', r2', hd', b1', b2', hv'⟩ := h'
  have hdd := Nat.mul_pos hd hd'
  have hqq := Nat.mul_pos hq hq'
  -- the value, however it was reckoned
  have val : ∀ (c : Bool) (m : Nat), sg c m = sg a (n * d') + sg b (n' * d) → sg c m * ((q * q' : Nat) : Int) = (p * (q' : Int) + p' * (q : Int)) * ((d * d' : Nat) : Int) := by
    intro c m hm
    rw [hm, sg_natMul, sg_natMul, Int.natCast_mul, Int.natCast_mul, Int.add_mul, Int.add_mul]
    congr 1
    · calc sg a n * (d' : Int) * ((q : Int) * (q' : Int)) = (sg a n * (q : Int)) * ((q' : Int) * (d' : Int)) := by ac_rfl
        _ = (p * (d : Int)) * ((q' : Int) * (d' : Int)) := by rw [hv]
        _ = p * (q' : Int) * ((d : Int) * (d' : Int)) := by ac_rfl
    · calc sg b n' * (d : Int) * ((q : Int) * (q' : Int)) = (sg b n' * (q' : Int)) * ((q : Int) * (d : Int)) := by ac_rfl
        _ = (p' * (d' : Int)) * ((q : Int) * (d : Int)) := by rw [hv']
        _ = p' * (q : Int) * ((d : Int) * (d' : Int)) := by ac_rfl
  refine surdref07_Add_v2 a s t b u v w (RA (p * (q' : Int) + p' * (q : Int)) (q * q') (k + k' + 1)) fun w1 x1 a1 => ?_
  refine Calls.mono (mul_sp (r1.ahead a1) (r2'.ahead a1) b1 b2' (by omega) (by omega)) ?_
  rintro e w2 ⟨h2, x, rfl, rx, bx⟩
  have a2 := a1.trans h2
  refine ⟨_, rfl, h2, Calls.mono (mul_sp (r1'.ahead a2) (r2.ahead a2) b1' b2 (by omega) (by omega)) ?_⟩
  rintro e w3 ⟨h3, y, rfl, ry, by'⟩
  have a3 := a2.trans h3
  refine ⟨_, rfl, h3, Calls.mono (mul_sp (r2.ahead a3) (r2'.ahead a3) b2 b2' (by omega) (by omega)) ?_⟩
  rintro e w4 ⟨h4, z, rfl, rz, bz⟩
  have rx4 := (rx.ahead h3).ahead h4
  have ry4 := ry.ahead h4
  have lx := l32 (N := n * d') (m := 2 ^ 22) (by omega)
  have ly := l32 (N := n' * d) (m := 2 ^ 22) (by omega)
  refine ⟨_, rfl, h4, br_intro (fun hab => ?_) (fun hab => ?_)⟩
  · have hab' : a = b := eq_of_beq hab
    subst hab'
    intro w5 x5 a5
    refine Calls.mono (Add_spec (rx4.ext x5) (ry4.ext x5) (by omega) (by omega)) ?_
    rintro e w6 ⟨h6, m, rfl, rm⟩
    have bm := bl_add_le (k := k + k') bx (show bl (n' * d) ≤ k + k' by omega)
    refine ⟨_, rfl, h6, Calls.mono (Make_spec (neg := a) rm ((rz.ext x5).ahead h6) hdd bm (by omega) hk) ?_⟩
    rintro e w7 ⟨h7, c, x2, y2, rfl, hr⟩
    refine ⟨_, _, _, rfl, h7, fun w8 x8 a8 => ⟨_, _, _, rfl, (hr.ext x8).conv hqq (val a _ ?_)⟩⟩
    cases a <;> simp [sg] <;> omega
  · have hab' : a ≠ b := fun h => by rw [h] at hab; simp at hab
    refine Calls.mono (Cmp_spec rx4 ry4 (by omega) (by omega)) ?_
    rintro e w9 ⟨h9, rfl⟩
    refine ⟨_, rfl, h9, br_intro (fun hge => ?_) (fun hlt => ?_)⟩
    · have hle : n' * d ≤ n * d' := by
        have h0 := of_decide_eq_true hge
        exact Nat.le_of_not_lt fun h => by have := cmpI_neg.2 h; omega
      intro w10 x10 a10
      refine Calls.mono (Sub_spec ((rx4.ahead h9).ext x10) ((ry4.ahead h9).ext x10) hle (by omega)) ?_
      rintro e w11 ⟨h11, m, rfl, rm⟩
      have bm := Nat.le_trans (bl_mono (Nat.sub_le (n * d') (n' * d))) bx
      refine ⟨_, rfl, h11, Calls.mono (Make_spec (neg := a) rm (((rz.ahead h9).ext x10).ahead h11) hdd (Nat.le_trans bm (Nat.le_succ _)) (by omega) hk) ?_⟩
      rintro e w12 ⟨h12, c, x2, y2, rfl, hr⟩
      refine ⟨_, _, _, rfl, h12, fun w13 x13 a13 => ⟨_, _, _, rfl, (hr.ext x13).conv hqq (val a _ ?_)⟩⟩
      cases a <;> cases b <;> simp [sg] at hab' ⊢ <;> omega
    · have hle : n * d' ≤ n' * d := by
        have h0 := of_decide_eq_false hlt
        have h1 : cmpI (n * d') (n' * d) < 0 := by omega
        exact Nat.le_of_lt (cmpI_neg.1 h1)
      intro w14 x14 a14
      refine Calls.mono (Sub_spec ((ry4.ahead h9).ext x14) ((rx4.ahead h9).ext x14) hle (by omega)) ?_
      rintro e w15 ⟨h15, m, rfl, rm⟩
      have bm := Nat.le_trans (bl_mono (Nat.sub_le (n' * d) (n * d'))) by'
      refine ⟨_, rfl, h15, Calls.mono (Make_spec (neg := b) rm (((rz.ahead h9).ext x14).ahead h15) hdd (k := k + k' + 1) (by omega) (by omega) hk) ?_⟩
      rintro e w16 ⟨h16, c, x2, y2, rfl, hr⟩
      refine ⟨_, _, _, rfl, h16, fun w17 x17 a17 => ⟨_, _, _, rfl, (hr.ext x17).conv hqq (val b _ ?_)⟩⟩
      cases a <;> cases b <;> simp [sg] at hab' ⊢ <;> omega
theorem Sub_val {w : World} {a b : Bool} {s t u v : Slc} {p p' : Int} {q q' k k' : Nat} (h : RV w a s t p q k) (h' : RV w b u v p' q' k') (hk : k + k' + 1 ≤ 67108864) :
    Calls pr surdref07_Sub_id #[.agg #[.bool a, s.v, t.v], .agg #[.bool b, u.v, v.v]] w fun e w' => Ahead w w' ∧ RA (p * (q' : Int) - p' * (q : Int)) (q * q') (k + k' + 1) e w' := by
  refine surdref07_Sub_v2 a s t b u v w (RA (p * (q' : Int) - p' * (q : Int)) (q * q') (k + k' + 1)) fun w1 x1 a1 => ?_
  refine Calls.mono (Neg_val (h'.ahead a1)) ?_
  rintro e w2 ⟨h2, c, x, y, rfl, hr⟩
  refine ⟨_, _, _, rfl, h2, Calls.mono (Add_val ((h.ahead a1).ahead h2) hr hk) ?_⟩
  rintro e w3 ⟨h3, c2, x2, y2, rfl, hr2⟩
  rw [Int.neg_mul, ← Int.sub_eq_add_neg] at hr2
  exact ⟨_, _, _, rfl, h3, fun w4 x4 a4 => ⟨_, _, _, rfl, hr2.ext x4⟩⟩

theorem Scale_val {w : World} {a : Bool} {s t : Slc} {p : Int} {q k : Nat} {n : Int} (h : RV w a s t p q k) (hn : -16777216 ≤ n ∧ n ≤ 16777216) (hk : k ≤ 16777216) :
    Calls pr surdref07_Scale_id #[.agg #[.bool a, s.v, t.v], .int .i64 n] w fun e w' => Ahead w w' ∧ RA (p * ((2 ^ n.toNat : Nat) : Int)) (q * 2 ^ (-n).toNat) (k + n.natAbs) e w' := by
  obtain ⟨hq, N, D, r1, r2, hd, b1, b2, hv⟩ := h
  have hq2 : 0 < q * 2 ^ (-n).toNat := Nat.mul_pos hq (Nat.pow_pos (by omega))
  have lN := l32 (N := N) (m := 2 ^ 20) (by omega)
  have lD := l32 (N := D) (m := 2 ^ 20) (by omega)
  have tN := tz_le N
  have tD := tz_le D
  refine surdref07_Scale_v2 a s t n w (RA (p * ((2 ^ n.toNat : Nat) : Int)) (q * 2 ^ (-n).toNat) (k + n.natAbs)) fun w1 x1 a1 => ?_
  refine Calls.mono (zero_spec (r1.ahead a1)) ?_
  rintro e w2 ⟨rfl, rfl⟩
  refine ⟨_, rfl, Ahead.refl _, br_intro (fun hz => ?_) (fun hz => ?_)⟩
  · have hN := of_decide_eq_true hz
    intro w3 x3 a3
    refine ⟨_, _, _, rfl, hq2, N, D, (r1.ahead a1).ext x3, (r2.ahead a1).ext x3, hd, by omega, by omega, ?_⟩
    have hp : p = 0 := by
      rw [hN, sg_zero, Int.zero_mul] at hv
      rcases Int.mul_eq_zero.1 hv.symm with h | h
      · exact h
      · omega
    rw [hN, sg_zero, hp, Int.zero_mul, Int.zero_mul, Int.zero_mul]
  · have hN := of_decide_eq_false hz
    -- up by i bits, the denominator down by j of n
    have up : ∀ (i j : Nat) (w3 w4 : World), n = (i : Int) + j → j ≤ tz D → Ext w2 w3 → Ahead w w3 → Ext w3 w4 → ∀ (u v : Slc), RN w4 u (N * 2 ^ i) → RN w4 v (D / 2 ^ j) → RV w4 a u v (p * ((2 ^ n.toNat : Nat) : Int)) (q * 2 ^ (-n).toNat) (k + n.natAbs) := by
      intro i j w3 w4 hij hj _ _ _ u v ru rv
      have hDj := tz_dvd hj
      refine ⟨hq2, _, _, ru, rv, ?_, Nat.le_trans (bl_mul_le _ _) (by omega), Nat.le_trans (bl_mono (Nat.div_le_self _ _)) (by omega), ?_⟩
      · rcases Nat.eq_zero_or_pos (D / 2 ^ j) with h0 | h0
        · rw [h0, Nat.zero_mul] at hDj; omega
        · exact h0
      · rw [show (-n).toNat = 0 by omega, Nat.pow_zero, Nat.mul_one, show n.toNat = i + j by omega, Nat.pow_add, Int.natCast_mul, sg_natMul]
        have e2 : (D : Int) = ((D / 2 ^ j : Nat) : Int) * ((2 ^ j : Nat) : Int) := by rw [← Int.natCast_mul, hDj]
        calc sg a N * ((2 ^ i : Nat) : Int) * (q : Int) = (sg a N * (q : Int)) * ((2 ^ i : Nat) : Int) := by ac_rfl
          _ = (p * (((D / 2 ^ j : Nat) : Int) * ((2 ^ j : Nat) : Int))) * ((2 ^ i : Nat) : Int) := by rw [hv, ← e2]
          _ = p * (((2 ^ i : Nat) : Int) * ((2 ^ j : Nat) : Int)) * ((D / 2 ^ j : Nat) : Int) := by ac_rfl
    have down : ∀ (i j : Nat) (w3 w4 : World), -n = (i : Int) + j → j ≤ tz N → Ext w2 w3 → Ahead w w3 → Ext w3 w4 → ∀ (u v : Slc), RN w4 u (N / 2 ^ j) → RN w4 v (D * 2 ^ i) → RV w4 a u v (p * ((2 ^ n.toNat : Nat) : Int)) (q * 2 ^ (-n).toNat) (k + n.natAbs) := by
      intro i j w3 w4 hij hj _ _ _ u v ru rv
      have hNj := tz_dvd hj
      refine ⟨hq2, _, _, ru, rv, Nat.mul_pos hd (Nat.pow_pos (by omega)), Nat.le_trans (bl_mono (Nat.div_le_self _ _)) (by omega), Nat.le_trans (bl_mul_le _ _) (by omega), ?_⟩
      have e0 : n.toNat = 0 := by omega
      rw [e0, Nat.pow_zero, show (-n).toNat = j + i by omega, Nat.pow_add, Int.natCast_mul, Int.natCast_mul, Int.natCast_mul]
      have e2 : sg a N = sg a (N / 2 ^ j) * ((2 ^ j : Nat) : Int) := by rw [← sg_natMul, hNj]
      calc sg a (N / 2 ^ j) * ((q : Int) * (((2 ^ j : Nat) : Int) * ((2 ^ i : Nat) : Int))) = (sg a (N / 2 ^ j) * ((2 ^ j : Nat) : Int)) * (q : Int) * ((2 ^ i : Nat) : Int) := by ac_rfl
        _ = sg a N * (q : Int) * ((2 ^ i : Nat) : Int) := by rw [← e2]
        _ = p * (D : Int) * ((2 ^ i : Nat) : Int) := by rw [hv]
        _ = p * ((1 : Nat) : Int) * ((D : Int) * ((2 ^ i : Nat) : Int)) := by simp [Int.mul_assoc]
    refine br_intro (fun hge => ?_) (fun hlt => ?_)
    · have hge' := of_decide_eq_true hge
      refine Calls.mono (rTail_spec (r2.ahead a1) (by omega)) ?_
      rintro e w4 ⟨rfl, rfl⟩
      refine ⟨_, rfl, Ahead.refl _, br_intro (fun hgt => ?_) (fun hle => ?_)⟩
      · have hgt' := of_decide_eq_true hgt
        intro w5 x5 a5
        rw [Int.sub_self, wrap_i64 (by omega) (by omega)]
        refine Calls.mono (Shl_spec (n := 0) ((r1.ahead a1).ext x5) (by omega) (by omega) (by simp; omega)) ?_
        rintro e w6 ⟨h6, u, rfl, ru⟩
        refine ⟨_, rfl, h6, Calls.mono (Shr_spec (n := n) (((r2.ahead a1).ext x5).ahead h6) (by omega) (by omega) (by omega)) ?_⟩
        rintro e w7 ⟨h7, v, rfl, rv⟩
        exact ⟨_, rfl, h7, fun w8 x8 a8 => ⟨_, _, _, rfl, up 0 n.toNat w5 w8 (by omega) (by omega) x5 a5 (((Ext.of_ahead h6).trans (Ext.of_ahead h7)).trans x8) u v ((ru.ahead h7).ext x8) (rv.ext x8)⟩⟩
      · have hle' := of_decide_eq_false hle
        intro w9 x9 a9
        rw [wrap_i64 (by omega) (by omega)]
        obtain ⟨i, hi⟩ : ∃ i : Nat, n - ((tz D : Nat) : Int) = (i : Int) := ⟨(n - tz D).toNat, by omega⟩
        rw [hi]
        refine Calls.mono (Shl_spec (n := (i : Int)) ((r1.ahead a1).ext x9) (by omega) (by omega) (by omega)) ?_
        rw [Int.toNat_natCast]
        rintro e w6 ⟨h6, u, rfl, ru⟩
        refine ⟨_, rfl, h6, Calls.mono (Shr_spec (n := ((tz D : Nat) : Int)) (((r2.ahead a1).ext x9).ahead h6) (by omega) (by omega) (by omega)) ?_⟩
        rw [Int.toNat_natCast]
        rintro e w7 ⟨h7, v, rfl, rv⟩
        exact ⟨_, rfl, h7, fun w8 x8 a8 => ⟨_, _, _, rfl, up i (tz D) w9 w8 (by omega) (Nat.le_refl _) x9 a9 (((Ext.of_ahead h6).trans (Ext.of_ahead h7)).trans x8) u v ((ru.ahead h7).ext x8) (rv.ext x8)⟩⟩
    · have hlt' := of_decide_eq_false hlt
      refine Calls.mono (rTail_spec (r1.ahead a1) (by omega)) ?_
      rintro e w4 ⟨rfl, rfl⟩
      have e0 : IntKind.i64.wrap (0 - n) = -n := by rw [wrap_i64 (by omega) (by omega)]; omega
      rw [e0]
      refine ⟨_, rfl, Ahead.refl _, br_intro (fun hgt => ?_) (fun hle => ?_)⟩
      · have hgt' := of_decide_eq_true hgt
        intro w5 x5 a5
        rw [Int.sub_self, wrap_i64 (by omega) (by omega)]
        refine Calls.mono (Shr_spec (n := -n) ((r1.ahead a1).ext x5) (by omega) (by omega) (by omega)) ?_
        rintro e w6 ⟨h6, u, rfl, ru⟩
        refine ⟨_, rfl, h6, Calls.mono (Shl_spec (n := 0) (((r2.ahead a1).ext x5).ahead h6) (by omega) (by omega) (by simp; omega)) ?_⟩
        rintro e w7 ⟨h7, v, rfl, rv⟩
        exact ⟨_, rfl, h7, fun w8 x8 a8 => ⟨_, _, _, rfl, down 0 (-n).toNat w5 w8 (by omega) (by omega) x5 a5 (((Ext.of_ahead h6).trans (Ext.of_ahead h7)).trans x8) u v ((ru.ahead h7).ext x8) (rv.ext x8)⟩⟩
      · have hle' := of_decide_eq_false hle
        intro w9 x9 a9
        rw [wrap_i64 (by omega) (by omega)]
        obtain ⟨i, hi⟩ : ∃ i : Nat, -n - ((tz N : Nat) : Int) = (i : Int) := ⟨(-n - tz N).toNat, by omega⟩
        rw [hi]
        refine Calls.mono (Shr_spec (n := ((tz N : Nat) : Int)) ((r1.ahead a1).ext x9) (by omega) (by omega) (by omega)) ?_
        rw [Int.toNat_natCast]
        rintro e w6 ⟨h6, u, rfl, ru⟩
        refine ⟨_, rfl, h6, Calls.mono (Shl_spec (n := (i : Int)) (((r2.ahead a1).ext x9).ahead h6) (by omega) (by omega) (by omega)) ?_⟩
        rw [Int.toNat_natCast]
        rintro e w7 ⟨h7, v, rfl, rv⟩
        exact ⟨_, rfl, h7, fun w8 x8 a8 => ⟨_, _, _, rfl, down i (tz N) w9 w8 (by omega) (Nat.le_refl _) x9 a9 (((Ext.of_ahead h6).trans (Ext.of_ahead h7)).trans x8) u v ((ru.ahead h7).ext x8) (rv.ext x8)⟩⟩

theorem rational_val {w : World} {neg : Bool} {s : Slc} {l : List Nat} (h : Rd .u64 w s (nn l)) (hl : l.length * 8 ≤ 140737488351232) (ol : ok B64 l) (hb : bl (val B64 l) ≤ 1048576) :
    Calls pr surdtop_rational_id #[.bool neg, s.v] w fun e w' => Ahead w w' ∧ RA (sg neg (val B64 l)) 1 1048576 e w' := by
  refine surdtop_rational_v2 neg s w (RA (sg neg (val B64 l)) 1 1048576) fun w1 x1 a1 => ?_
  refine Calls.mono (Of_spec (h.ahead a1) hl ol) ?_
  rintro e w2 ⟨h2, x, rfl, rx⟩
  refine ⟨_, rfl, h2, Calls.mono (Int_spec (v := 1) (by omega)) ?_⟩
  rintro e w3 ⟨h3, y, rfl, ry⟩
  refine ⟨_, rfl, h3, Calls.mono (Make_spec (rx.ahead h3) ry (by omega) hb (by rw [bl_one]; omega) (by omega)) ?_⟩
  rintro e w4 ⟨h4, c, x2, y2, rfl, hr⟩
  exact ⟨_, _, _, rfl, h4, fun w5 x5 a5 => ⟨_, _, _, rfl, hr.ext x5⟩⟩
theorem dyadicOf_val {w : World} {neg : Bool} {s : Slc} {l : List Nat} {e0 : Int} (h : Rd .u64 w s (nn l)) (hl : l.length * 8 ≤ 140737488351232) (ol : ok B64 l) (hb : bl (val B64 l) ≤ 1048576) (he : -1048576 ≤ e0 ∧ e0 ≤ 1048576) :
    Calls pr surdtop_dyadicOf_id #[.agg #[.bool neg, s.v, .int .i64 e0]] w fun e w' => Ahead w w' ∧ RA (sg neg (val B64 l) * ((2 ^ e0.toNat : Nat) : Int)) (2 ^ (-e0).toNat) 2097152 e w' := by
  refine surdtop_dyadicOf_v2 neg s e0 w (RA (sg neg (val B64 l) * ((2 ^ e0.toNat : Nat) : Int)) (2 ^ (-e0).toNat) 2097152) fun w1 x1 a1 => ?_
  refine Calls.mono (rational_val (h.ahead a1) hl ol hb) ?_
  rintro e w2 ⟨h2, c, x, y, rfl, hr⟩
  refine ⟨_, _, _, rfl, h2, Calls.mono (Scale_val hr (by omega) (by omega)) ?_⟩
  rintro e w3 ⟨h3, c2, x2, y2, rfl, hr2⟩
  rw [Nat.one_mul] at hr2
  exact ⟨_, _, _, rfl, h3, fun w4 x4 a4 => ⟨_, _, _, rfl, (hr2.ext x4).mono (by omega)⟩⟩
end R7
end Go.Proofs.YtbeiopoejdkheaaGreatDoor
namespace Go.Proofs.YtbeiopoejdkheaaGreatDoor
open Go Go.RowKit Eng Sp Dg Kd L2
set_option linter.unusedVariables false
set_option linter.unusedSimpArgs false
set_option maxRecDepth 100000
namespace Ro
open _root_.Go.Proofs.YtbeiopoejdkheaaGreatDoor.Nat (OwnNil OwnNil.rd OwnNil.ahead OwnNil.mono OwnNil.nil OwnNil.ext Num Num.ahead Num.ext Num.bl num_of Norm_spec From_spec len_num own_num Ret Ret.num cmp_num bigC bigC_ok digs_len_bl nBit_spec)
open _root_.Go.Proofs.YtbeiopoejdkheaaGreatDoor.Ref (len_mono)
open _root_.Go.Proofs.YtbeiopoejdkheaaGreatDoor.Rt (isR)
open Dy Sb

/-- The rounded quotient's mantissa. -/
def quQ (m : Int) (neg : Bool) (x y : Nat) (s : Int) : Nat := rdQ m neg (nu x s / de y s) (bhv (nu x s) (de y s))
theorem rdQuo_spec {w : World} {n1 n2 : Bool} {s1 s2 : Slc} {X Y : Nat} {e1 e2 pos m : Int} (hT : Tab w) (h1 : Num w s1 X) (h2 : Num w s2 Y) (hX : bl X ≤ 1048576) (hY : bl Y ≤ 1048576) (hY0 : Y ≠ 0)
    (he1 : -1048576 ≤ e1 ∧ e1 ≤ 1048576) (he2 : -1048576 ≤ e2 ∧ e2 ≤ 1048576) (hp : -1048576 ≤ pos ∧ pos ≤ 1048576) (hm : 0 ≤ m ∧ m ≤ 2) :
    Calls pr rounded_Quo_id #[.agg (c3 n1 s1 e1), .agg (c3 n2 s2 e2), .int .i64 pos, .int .i64 m] w
      (DOut w (tC (quQ m (!(nD n1 X == nD n2 Y)) (od X) (od Y) (eD X e1 - eD Y e2 - pos)) pos) (!(nD n1 X == nD n2 Y)) (quQ m (!(nD n1 X == nD n2 Y)) (od X) (od Y) (eD X e1 - eD Y e2 - pos)) pos) := by
  obtain ⟨Q, hQ⟩ : ∃ Q, Q = quQ m (!(nD n1 X == nD n2 Y)) (od X) (od Y) (eD X e1 - eD Y e2 - pos) := ⟨_, rfl⟩
  rw [← hQ]
  have wi1 : wi e1 := by unfold wi; omega
  have wi2 : wi e2 := by unfold wi; omega
  have wip : wi pos := by unfold wi; omega
  have oX := od_le X
  have oY := od_le Y
  have bX : bl (od X) ≤ 1048576 := Nat.le_trans (bl_mono oX) hX
  have bY : bl (od Y) ≤ 1048576 := Nat.le_trans (bl_mono oY) hY
  have lX := digs_len_bl (N := od X) (m := 2 ^ 15) (by omega)
  have lY := digs_len_bl (N := od Y) (m := 2 ^ 15) (by omega)
  have oY0 := od_ne hY0
  have tX := tz_le X
  have tY := tz_le Y
  have eX : -4000000 ≤ eD X e1 ∧ eD X e1 ≤ 2097152 := by unfold eD; split <;> omega
  have eY : -2097152 ≤ eD Y e2 ∧ eD Y e2 ≤ 2097152 := by unfold eD; split <;> omega
  have eX2 : -1048576 ≤ eD X e1 := by unfold eD; split <;> omega
  refine Calls.mono (rounded_Quo_v2 n1 s1 e1 n2 s2 e2 pos m w (fun en w' => ∃ s', en = .returned (.tuple #[.agg (c3 (if tC Q pos = 0 then nD (!(nD n1 X == nD n2 Y)) Q else false) s' (if tC Q pos = 0 then eD Q pos else 0)), .int .i64 (tC Q pos)]) ∧ OwnNil w.heap.size w' s' (if tC Q pos = 0 then digs B64 (od Q) else [])) ?_) fun en w' h => h
  intro w1 x1 a1
  refine Calls.mono (read_spec (hT.ahead a1) (h1.ahead a1) wi1) ?_
  rintro en w2 ⟨h2', sa, rfl, oa⟩
  refine ⟨_, _, _, _, rfl, h2', br_false rfl fun w4 x4 a4 => ?_⟩
  refine Calls.mono (read_spec (hT.ahead a4) (h2.ahead a4) wi2) ?_
  rintro en w5 ⟨h5, sb, rfl, ob⟩
  refine ⟨_, _, _, _, rfl, h5, br_false rfl fun w7 x7 a7 => ?_⟩
  refine Calls.mono (asked_spec wip hm) ?_
  rintro en w8 ⟨rfl, rfl⟩
  have oa8 := ((oa.ext x4).ahead h5).ext x7
  have ob8 := ob.ext x7
  refine ⟨_, rfl, Ahead.refl _, br_false rfl ?_⟩
  rw [len_zero ob8.rd]
  refine br_false (decide_eq_false oY0) ?_
  rw [wrap_i64 (by omega) (by omega)]
  have hq := quotE_spec (neg := !(nD n1 X == nD n2 Y)) (k := eD X e1 - eD Y e2) (pos := pos) (m := m) (hT.ahead a7) oa8.rd ob8.rd bX bY oY0 (by omega) (by omega)
  unfold quQ at hQ
  rw [← hQ] at hq
  refine Calls.mono hq ?_
  rintro en w11 ⟨h11, s', rfl, o'⟩
  exact ⟨_, _, _, _, rfl, h11, fun w12 x12 a12 => ⟨_, rfl, (o'.ext x12).mono a7.size⟩⟩

/-- What is known of a root's mantissa. -/
structure SqQ (m : Int) (x : Nat) (s : Int) (Q : Nat) : Prop where
  ex : ∃ q bh, Q = rdQ m false q bh ∧ q * q * de 1 s ≤ nu x s ∧ nu x s < (q + 1) * (q + 1) * de 1 s ∧ (bh = 0 → q * q * de 1 s = nu x s)

theorem sq_half {r : Nat} : 4 * (r / 2 * (r / 2)) ≤ r * r ∧ (r + 1) * (r + 1) ≤ 4 * ((r / 2 + 1) * (r / 2 + 1)) ∧ (r % 2 = 0 → r * r = 4 * (r / 2 * (r / 2))) := by
  have e : ∀ z, 4 * (z * z) = (2 * z) * (2 * z) := fun z => by rw [Nat.mul_mul_mul_comm]
  rw [e, e]
  refine ⟨Nat.mul_le_mul (by omega) (by omega), Nat.mul_le_mul (by omega) (by omega), fun h => ?_⟩
  rw [show 2 * (r / 2) = r by omega]
/-- The root of four times the number, halved. -/
theorem sq_facts {n N D r x bh : Nat} (hr : isR n r) (hx : x = n - r * r) (hN : n * D = 4 * N) (hD : 0 < D) (hb : bh = 0 → r % 2 = 0 ∧ x = 0) :
    r / 2 * (r / 2) * D ≤ N ∧ N < (r / 2 + 1) * (r / 2 + 1) * D ∧ (bh = 0 → r / 2 * (r / 2) * D = N) := by
  obtain ⟨h1, h2, h3⟩ := sq_half (r := r)
  have a1 : 4 * (r / 2 * (r / 2)) * D ≤ n * D := Nat.mul_le_mul_right _ (Nat.le_trans h1 hr.1)
  have a2 : n * D < 4 * ((r / 2 + 1) * (r / 2 + 1)) * D := (Nat.mul_lt_mul_right hD).2 (Nat.lt_of_lt_of_le hr.2 h2)
  rw [Nat.mul_assoc] at a1 a2
  refine ⟨by omega, by omega, fun h => ?_⟩
  obtain ⟨b1, b2⟩ := hb h
  have : n = 4 * (r / 2 * (r / 2)) := by have := h3 b1; have := hr.1; omega
  have a3 : n * D = 4 * (r / 2 * (r / 2) * D) := by rw [← Nat.mul_assoc, ← this]
  omega
theorem sq_facts2 {n N E r x bh : Nat} (hr : isR n r) (hx : x = n - r * r) (hn : n = N / E) (hE : 0 < E) (hb : bh = 0 → r % 2 = 0 ∧ x = 0 ∧ n * E = N) :
    r / 2 * (r / 2) * (4 * E) ≤ N ∧ N < (r / 2 + 1) * (r / 2 + 1) * (4 * E) ∧ (bh = 0 → r / 2 * (r / 2) * (4 * E) = N) := by
  obtain ⟨h1, h2, h3⟩ := sq_half (r := r)
  have e : ∀ z, z * z * (4 * E) = 4 * (z * z) * E := fun z => by rw [← Nat.mul_assoc, Nat.mul_comm (z * z) 4]
  rw [e, e]
  have hd1 : n * E ≤ N := by rw [hn]; exact Nat.div_mul_le_self _ _
  have hd2 : N < (n + 1) * E := by
    rw [hn]
    have := Nat.div_add_mod N E
    have := Nat.mod_lt N hE
    rw [Nat.add_mul, Nat.one_mul, Nat.mul_comm (N / E)]; omega
  have a1 : 4 * (r / 2 * (r / 2)) * E ≤ n * E := Nat.mul_le_mul_right _ (Nat.le_trans h1 hr.1)
  have a2 : (n + 1) * E ≤ 4 * ((r / 2 + 1) * (r / 2 + 1)) * E := Nat.mul_le_mul_right _ (Nat.le_trans hr.2 h2)
  refine ⟨by omega, by omega, fun h => ?_⟩
  obtain ⟨b1, b2, b3⟩ := hb h
  have : n = 4 * (r / 2 * (r / 2)) := by have := h3 b1; have := hr.1; omega
  rw [← this]; exact b3

theorem rdSqrt_spec {w : World} {n1 : Bool} {s1 : Slc} {X : Nat} {e1 pos m : Int} (hT : Tab w) (h1 : Num w s1 X) (hX : bl X ≤ 1048576) (hn : nD n1 X = false)
    (he1 : -1048576 ≤ e1 ∧ e1 ≤ 1048576) (hp : -1048576 ≤ pos ∧ pos ≤ 1048576) (hm : 0 ≤ m ∧ m ≤ 2) :
    Calls pr rounded_Sqrt_id #[.agg (c3 n1 s1 e1), .int .i64 pos, .int .i64 m] w fun en w' => ∃ Q, SqQ m (od X) (eD X e1 - 2 * pos) Q ∧ DOut w (tC Q pos) false Q pos en w' := by
  have hB := B64v
  have wi1 : wi e1 := by unfold wi; omega
  have wip : wi pos := by unfold wi; omega
  have oX := od_le X
  have bX : bl (od X) ≤ 1048576 := Nat.le_trans (bl_mono oX) hX
  have lX := digs_len_bl (N := od X) (m := 2 ^ 15) (by omega)
  have tX := tz_le X
  have eX : -1048576 ≤ eD X e1 ∧ eD X e1 ≤ 2097152 := by unfold eD; split <;> omega
  obtain ⟨S, hS⟩ : ∃ S, S = eD X e1 - 2 * pos := ⟨_, rfl⟩
  have hS1 : -3145728 ≤ S ∧ S ≤ 4194304 := by omega
  rw [← hS]
  -- the answer
  have ans : ∀ {w0 w' : World} {en : Ending} {Q : Nat}, SqQ m (od X) S Q → DOut w0 (tC Q pos) false Q pos en w' → w.heap.size ≤ w0.heap.size → ∃ (b : Bool) (s : Slc) (x c : Int), en = .returned (.tuple #[.agg (c3 b s x), .int .i64 c]) ∧ Ahead w0 w' ∧
      (∀ w3, Ext w' w3 → Ahead w w3 → ∃ Q, SqQ m (od X) S Q ∧ ∃ s', Ending.returned (.tuple #[.agg (c3 b s x), .int .i64 c]) = .returned (.tuple #[.agg (c3 (if tC Q pos = 0 then nD false Q else false) s' (if tC Q pos = 0 then eD Q pos else 0)), .int .i64 (tC Q pos)]) ∧ OwnNil w.heap.size w3 s' (if tC Q pos = 0 then digs B64 (od Q) else [])) := by
    rintro w0 w' en Q hq ⟨a0, s', rfl, o'⟩ hsz
    exact ⟨_, _, _, _, rfl, a0, fun w3 x3 a3 => ⟨Q, hq, s', rfl, (o'.ext x3).mono hsz⟩⟩
  refine Calls.mono (rounded_Sqrt_v2 n1 s1 e1 pos m w (fun en w' => ∃ Q, SqQ m (od X) S Q ∧ ∃ s', en = .returned (.tuple #[.agg (c3 (if tC Q pos = 0 then nD false Q else false) s' (if tC Q pos = 0 then eD Q pos else 0)), .int .i64 (tC Q pos)]) ∧ OwnNil w.heap.size w' s' (if tC Q pos = 0 then digs B64 (od Q) else []))
    (fun t1 t2 t12 t13 _ _ _ w' => pos = t1 ∧ m = t2 ∧ ∃ n : Nat, bl n ≤ 8388608 ∧ Rd .u64 w' t13 (nn (digs B64 n)) ∧ ∀ r bh, isR n r → (bh = 0 → r % 2 = 0 ∧ n - r * r = 0 ∧ t12 = false) → r / 2 * (r / 2) * de 1 S ≤ nu (od X) S ∧ nu (od X) S < (r / 2 + 1) * (r / 2 + 1) * de 1 S ∧ (bh = 0 → r / 2 * (r / 2) * de 1 S = nu (od X) S))
    (fun t1 t2 t14 t16 t17 _ _ _ w' => pos = t1 ∧ m = t2 ∧ ∃ r : Nat, bl r ≤ 8388608 ∧ Rd .u64 w' t14 (nn (digs B64 r)) ∧ Rd .u64 w' t16 (nn (digs B64 (r / 2))) ∧ ∀ bh, (bh = 0 → r % 2 = 0 ∧ t17 = false) → r / 2 * (r / 2) * de 1 S ≤ nu (od X) S ∧ nu (od X) S < (r / 2 + 1) * (r / 2 + 1) * de 1 S ∧ (bh = 0 → r / 2 * (r / 2) * de 1 S = nu (od X) S)) ?_ ?_ ?_) ?_
  · intro w1 x1 a1
    refine Calls.mono (read_spec (hT.ahead a1) (h1.ahead a1) wi1) ?_
    rw [hn]
    rintro en w2 ⟨h2, sa, rfl, oa⟩
    refine ⟨_, _, _, _, rfl, h2, br_false rfl fun w4 x4 a4 => ?_⟩
    refine Calls.mono (asked_spec wip hm) ?_
    rintro en w5 ⟨rfl, rfl⟩
    have o5 := oa.ext x4
    refine ⟨_, rfl, Ahead.refl _, br_false rfl ?_⟩
    rw [len_zero o5.rd]
    refine br_intro (fun h0 => ?_) (fun h0 => br_false rfl ?_)
    · have hx0 := of_decide_eq_true h0
      intro w7 x7 a7
      have hD : 0 < de 1 S := by unfold de; rw [Nat.one_mul]; exact Nat.pow_pos (by omega)
      refine ⟨0, ⟨0, 0, by unfold rdQ upB; split <;> simp_all, by simp, by rw [hx0]; simp [nu]; omega, fun _ => by simp [hx0, nu]⟩, ?_⟩
      have hc : tC 0 pos = 0 := by
        have e0 : bl (od 0) = 0 := by rw [od_zero, bl_zero]
        rw [tC, e0, if_neg (by omega), eD_zero, if_pos (by unfold wi; omega)]
      rw [hc, if_pos rfl, if_pos rfl, if_pos rfl, nD_zero, eD_zero, od_zero, digs_zero]
      exact ⟨_, rfl, OwnNil.nil⟩
    · have hx0 := of_decide_eq_false h0
      have hbx := bl_pos hx0
      have nx : Num w5 sa (od X) := own_num o5 (by omega)
      refine Calls.mono (len_num nx) ?_
      rintro en w9 ⟨rfl, rfl⟩
      have ws : IntKind.i64.wrap (eD X e1 - IntKind.i64.wrap (2 * pos)) = S := by rw [wrap_i64 (x := 2 * pos) (by omega) (by omega), wrap_i64 (by omega) (by omega), hS]
      refine ⟨_, rfl, Ahead.refl _, ?_⟩
      rw [ws, wrap_i64 (x := (bl (od X) : Int) + S) (by omega) (by omega)]
      refine br_false (decide_eq_false (by omega)) (Calls.mono (len_num nx) ?_)
      rintro en w11 ⟨rfl, rfl⟩
      refine ⟨_, rfl, Ahead.refl _, ?_⟩
      rw [wrap_i64 (x := (bl (od X) : Int) + S) (by omega) (by omega)]
      refine br_intro (fun hlow => ?_) (fun hlow => ?_)
      · have hlow' := of_decide_eq_true hlow
        have e0 : nu (od X) S = od X := by unfold nu; rw [show S.toNat = 0 by omega, Nat.pow_zero, Nat.mul_one]
        have hlt : od X < de 1 S := by
          unfold de; rw [Nat.one_mul]
          exact Nat.lt_of_lt_of_le (lt_bl (od X)) (Nat.pow_le_pow_right (by omega) (by omega))
        have b1 : bl (0 + 1) ≤ 1 := bl_le (by omega)
        have hf := finish_spec (neg := false) (q := 0) (bh := 1) (m := m) (pos := pos) (a := ⟨none, 0, 0⟩) (hT.ahead a4) (by rw [digs_zero]; exact Rd.nil) (by omega) wip
        refine Calls.mono hf fun en w12 hd => ?_
        exact ans ⟨0, 1, rfl, by simp, by rw [e0]; simpa using hlt, fun h => by omega⟩ hd a4.size
      · have hlow' := of_decide_eq_false hlow
        rw [wrap_i64 (x := S + 2) (by omega) (by omega)]
        refine br_intro (fun hge => ?_) (fun hlt => ?_)
        · have hge' := of_decide_eq_true hge
          obtain ⟨T, hT2⟩ := Int.eq_ofNat_of_zero_le hge'
          rw [hT2]
          refine Calls.mono (left_spec (n := T) o5.rd (by omega)) ?_
          rintro en w14 ⟨h14, s3, rfl, o3⟩
          refine ⟨_, rfl, h14, rfl, rfl, od X * 2 ^ T, Nat.le_trans (bl_mul_le _ _) (by omega), o3.rd, fun r bh hr hb => ?_⟩
          refine sq_facts hr rfl ?_ (by unfold de; rw [Nat.one_mul]; exact Nat.pow_pos (by omega)) (fun h => ⟨(hb h).1, (hb h).2.1⟩)
          unfold nu de
          rw [Nat.one_mul, Nat.mul_assoc, ← Nat.pow_add, show 4 = 2 ^ 2 from rfl, Nat.mul_left_comm, ← Nat.pow_add]
          congr 2
          omega
        · have hlt' := of_decide_eq_false hlt
          refine Calls.mono (Tail_spec (hT.ahead a4) o5.rd (by omega) (ok_digs two64 _)) ?_
          rw [val_digs two64]
          rintro en w35 ⟨rfl, rfl⟩
          obtain ⟨T, hT2⟩ : ∃ T : Nat, 0 - (S + 2) = (T : Int) := ⟨(0 - (S + 2)).toNat, by omega⟩
          rw [wrap_i64 (x := 0 - (S + 2)) (by omega) (by omega), hT2]
          refine ⟨_, rfl, Ahead.refl _, Calls.mono (right_spec (n := T) o5.rd (by omega) (ok_digs two64 _) (by omega)) ?_⟩
          rw [val_digs two64]
          rintro en w36 ⟨h36, s3, rfl, o3⟩
          refine ⟨_, rfl, h36, rfl, rfl, od X / 2 ^ T, Nat.le_trans (bl_mono (Nat.div_le_self _ _)) (by omega), o3.rd, fun r bh hr hb => ?_⟩
          have eD4 : de 1 S = 4 * 2 ^ T := by
            unfold de
            rw [Nat.one_mul, show 4 = 2 ^ 2 from rfl, ← Nat.pow_add]; congr 1; omega
          have eN : nu (od X) S = od X := by unfold nu; rw [show S.toNat = 0 by omega, Nat.pow_zero, Nat.mul_one]
          rw [eD4, eN]
          refine sq_facts2 hr rfl rfl (Nat.pow_pos (by omega)) (fun h => ⟨(hb h).1, (hb h).2.1, ?_⟩)
          have hc := of_decide_eq_false (hb h).2.2
          exact tz_dvd (by omega)
  · rintro t1 t2 t12 t13 b1 sx ex w1 a1 ⟨rfl, rfl, n, hbn, rn, hfacts⟩
    have ln := digs_len_bl (N := n) (m := 2 ^ 20) (by omega)
    refine Calls.mono (Rt.Sqrt_spec (num_digs rn (by omega)) (by omega)) ?_
    rintro en w15 ⟨h15, s4, s5, r, rfl, o4, o5, hr⟩
    have hrn : r ≤ n := by
      rcases Nat.eq_zero_or_pos r with h | h
      · omega
      · exact Nat.le_trans (Nat.le_mul_of_pos_left r h) hr.1
    have br' := bl_mono hrn
    have lr := digs_len_bl (N := r) (m := 2 ^ 20) (by omega)
    refine ⟨_, _, _, rfl, h15, br_false rfl (Calls.mono (right_spec (n := 1) o4.rd (by omega) (ok_digs two64 r) (by omega)) ?_)⟩
    rw [val_digs two64, Nat.pow_one]
    rintro en w17 ⟨h17, s6, rfl, o6⟩
    refine ⟨_, rfl, h17, br_intro (fun hcut => ?_) (fun hcut => ?_)⟩
    · exact ⟨rfl, rfl, r, by omega, (o4.ahead h17).rd, o6.rd, fun bh hb => hfacts r bh hr fun h => by have := (hb h).2; cases this⟩
    · refine ⟨rfl, rfl, r, by omega, (o4.ahead h17).rd, o6.rd, fun bh hb => hfacts r bh hr fun h => ?_⟩
      obtain ⟨b1', b2'⟩ := hb h
      refine ⟨b1', ?_, hcut⟩
      have h0 := of_decide_eq_false b2'
      have hn5 : s5.n = (digs B64 (n - r * r)).length := by rw [o5.rd.n, nn_length]
      rcases Nat.eq_zero_or_pos (n - r * r) with h2 | h2
      · exact h2
      · have := List.length_pos_iff.2 (digs_ne_nil two64 (show n - r * r ≠ 0 by omega)); omega
  · rintro t1 t2 t14 t16 t17 b1 sx ex w1 a1 ⟨rfl, rfl, r, hbr, r14, r16, hfacts⟩
    have lr := digs_len_bl (N := r) (m := 2 ^ 20) (by omega)
    have bq1 : bl (r / 2 + 1) ≤ 67108864 := Nat.le_trans (bl_mono (show r / 2 + 1 ≤ r + 1 by omega)) (Nat.le_trans (Rt.bl_add_le (k := 8388608) hbr (by rw [Rt.bl_one]; omega)) (by omega))
    have bit : ∀ {w2 : World} {K : Ending → World → Prop}, Ahead w1 w2 → K (.returned (.int .i64 ((r % 2 : Nat) : Int))) w2 → Calls pr nat_Bit_id #[t14.v, .int .i64 0] w2 K := by
      intro w2 K h hk
      have hb := nBit_spec (i := 0) (r14.ahead h) (by omega) (ok_digs two64 r) (by omega)
      refine Calls.mono hb ?_
      rintro e w3 ⟨rfl, rfl⟩
      rw [val_digs two64, Nat.pow_zero, Nat.div_one]
      exact hk
    have done : ∀ {w2 : World} (bh : Nat), Ahead w1 w2 → (bh = 0 → r % 2 = 0 ∧ t17 = false) → Calls pr rounded_finish_id #[.bool false, t16.v, .int .i64 (bh : Int), .int .i64 pos, .int .i64 m] w2 fun en w' => ∃ (b : Bool) (s : Slc) (x c : Int), en = .returned (.tuple #[.agg (c3 b s x), .int .i64 c]) ∧ Ahead w2 w' ∧
      (∀ w3, Ext w' w3 → Ahead w w3 → ∃ Q, SqQ m (od X) S Q ∧ ∃ s', Ending.returned (.tuple #[.agg (c3 b s x), .int .i64 c]) = .returned (.tuple #[.agg (c3 (if tC Q pos = 0 then nD false Q else false) s' (if tC Q pos = 0 then eD Q pos else 0)), .int .i64 (tC Q pos)]) ∧ OwnNil w.heap.size w3 s' (if tC Q pos = 0 then digs B64 (od Q) else [])) := by
      intro w2 bh h hb
      have hf := finish_spec (neg := false) (q := r / 2) (bh := bh) (m := m) (pos := pos) (hT.ahead (a1.trans h)) (r16.ahead h) bq1 wip
      obtain ⟨f1, f2, f3⟩ := hfacts bh hb
      exact Calls.mono hf fun en w12 hd => ans ⟨r / 2, bh, rfl, f1, f2, f3⟩ hd (a1.trans h).size
    have odd : ((r % 2 : Nat) : Int) == 1 → True := fun _ => trivial
    refine bit (Ahead.refl _) ⟨_, rfl, Ahead.refl _, br_intro (fun ho => br_intro (fun hm3 => done 3 (Ahead.refl _) (fun h => by omega)) (fun hm3 => ?_)) (fun ho => ?_)⟩
    · refine bit (Ahead.refl _) ⟨_, rfl, Ahead.refl _, br_true ho (done 2 (Ahead.refl _) (fun h => by omega))⟩
    · refine bit (Ahead.refl _) ⟨_, rfl, Ahead.refl _, br_false ho (br_intro (fun hmo => done 1 (Ahead.refl _) (fun h => by omega)) (fun hmo => done 0 (Ahead.refl _) (fun _ => ⟨?_, hmo⟩)))⟩
      have : ¬ r % 2 = 1 := fun h => by rw [h] at ho; simp at ho
      omega
  · rintro en w' ⟨a, Q, hq, s', rfl, o'⟩
    exact ⟨Q, hq, a, s', rfl, o'⟩
end Ro
end Go.Proofs.YtbeiopoejdkheaaGreatDoor
namespace Go.Proofs.YtbeiopoejdkheaaGreatDoor
open Go Go.RowKit Eng Sp Dg
set_option linter.unusedVariables false
set_option linter.unusedSimpArgs false
set_option maxRecDepth 100000
namespace Mm
open _root_.Go.Proofs.YtbeiopoejdkheaaGreatDoor.Ref (RN RN.ahead Lent Lent.whole Lent.ahead)

abbrev nilS : Slc := ⟨none, 0, 0⟩
def slcs (ss : List Slc) : List Value := ss.map Slc.v
theorem slcs_get {ss : List Slc} {i : Nat} (hi : i < ss.length) : (slcs ss)[i]? = some (ss.getD i nilS).v := by
  rw [slcs, List.getElem?_map, List.getD_eq_getElem?_getD, List.getElem?_eq_getElem hi]; rfl
/-- The slice reads as these slices. -/
structure RdL (w : World) (s : Slc) (ss : List Slc) : Prop where
  n : s.n = ss.length
  c : s.n ≤ s.c
  get : ∀ i, i < ss.length → ∃ ad, s.A = some ad ∧ w.cell? (ad.add i) = some (ss.getD i nilS).v
theorem RdL.ahead {w w' : World} {s : Slc} {ss : List Slc} (h : RdL w s ss) (ha : Ahead w w') : RdL w' s ss :=
  ⟨h.n, h.c, fun i hi => by obtain ⟨ad, e, hc⟩ := h.get i hi; exact ⟨ad, e, ha.cell hc⟩⟩
theorem RdL.take {w : World} {s : Slc} {ss : List Slc} (h : RdL w s ss) {m : Nat} (hm : m ≤ ss.length) : RdL w ⟨s.A, m, s.c⟩ (ss.take m) :=
  ⟨by simp; omega, by have := h.c; have := h.n; show m ≤ s.c; omega, fun i hi => by
    have hi' : i < m := by simp at hi; omega
    obtain ⟨ad, e, hh⟩ := h.get i (by omega)
    refine ⟨ad, e, ?_⟩
    rw [hh]; simp [List.getElem?_take, hi']⟩
theorem RdL.drop {w : World} {s : Slc} {ss : List Slc} (h : RdL w s ss) {m : Nat} (hm : m ≤ ss.length) : RdL w ⟨if s.c = m then s.A else s.A.map (·.add m), s.n - m, s.c - m⟩ (ss.drop m) :=
  ⟨by simp [h.n], by have := h.c; show s.n - m ≤ s.c - m; omega, fun i hi => by
    have hi' : m + i < ss.length := by simp at hi; omega
    obtain ⟨ad, e, hh⟩ := h.get (m + i) hi'
    have := h.c
    have := h.n
    refine ⟨ad.add m, ?_, ?_⟩
    · show (if s.c = m then s.A else _) = _
      rw [if_neg (by omega), e]; rfl
    · rw [add_add, hh]; simp⟩

/-- A type of slices of slices. -/
def slB (P : Program) (t e : TypeId) : Bool := match P.underlying t with
  | some (.slice e') => Nat.beq e' e && (match P.info? e with
    | some i => Nat.beq i.size 1 && Nat.beq i.bytes 24 && (match i.zero with
      | some (.slice none 0 0) => true
      | _ => false)
    | none => false)
  | _ => false
theorem slB_out {P : Program} {t e : TypeId} (h : slB P t e = true) : P.underlying t = some (.slice e) ∧ ∃ i, P.info? e = some i ∧ i.size = 1 ∧ i.bytes = 24 ∧ i.zero = some (.slice none 0 0) := by
  unfold slB at h
  split at h
  · rename_i e' hu
    simp only [Bool.and_eq_true] at h
    obtain ⟨h1, h2⟩ := h
    have : e' = e := Nat.eq_of_beq_eq_true h1
    subst this
    split at h2
    · rename_i i hi
      simp only [Bool.and_eq_true] at h2
      obtain ⟨⟨h3, h4⟩, h5⟩ := h2
      split at h5
      · rename_i hz
        exact ⟨hu, i, hi, Nat.eq_of_beq_eq_true h3, Nat.eq_of_beq_eq_true h4, hz⟩
      · cases h5
    · cases h2
  · cases h
/-- .. whatever its elements are called. -/
def slA (P : Program) (t : TypeId) : Bool := match P.underlying t with
  | some (.slice e) => slB P t e
  | _ => false
theorem slA_out {P : Program} {t : TypeId} (h : slA P t = true) : ∃ e, slB P t e = true := by
  unfold slA at h
  split at h
  · exact ⟨_, h⟩
  · cases h
theorem run_ixL {t : TypeId} (hT : slA pr t = true) (w : World) {s : Slc} {ss : List Slc} {ad : Addr} (hA : s.A = some ad) {i : Nat} (hi : i < s.n) : (Instr.indexAt t s.v (.int .i64 (i : Int))).run pr w = .ok (.pointer (some (ad.add i))) w := by
  obtain ⟨e, hT⟩ := slA_out hT
  obtain ⟨hu, inf, hinf, hs, _⟩ := slB_out hT
  obtain ⟨A, n, c⟩ := s
  simp only at hA hi
  subst hA
  simp only [Instr.indexAt, asIntOf, Slc.v, underlying, program, Sem.run_bind, Sem.run, Result.andThen, hu, Sem.run_pure]
  simp [hi, show (i : Int) < (n : Int) by omega, sizeOf, typeInfo, program, Sem.run, hinf, hs, hu]
theorem ixL {t : TypeId} {w : World} {s : Slc} {ss : List Slc} (h : RdL w s ss) {i : Nat} (hi : i < ss.length) {K : Slc → World → Prop} (hk : K (ss.getD i nilS) w) (hT : slA pr t = true := by kernel_rfl) :
    semA pr (Instr.indexAt t s.v (.int .i64 (i : Int))) w fun ad w1 => ldS ad w1 fun x => K x w1 := by
  obtain ⟨ad, hA, hc⟩ := h.get i hi
  unfold semA
  rw [Sem.wp_iff_run, run_ixL hT w (ss := ss) hA (by rw [h.n]; exact hi)]
  exact ⟨_, rfl, _, hc, hk⟩
theorem run_hiL {t : TypeId} (hT : slA pr t = true) (w : World) (s : Slc) {h : Int} (h0 : 0 ≤ h) (h1 : h ≤ s.c) :
    (Instr.sliceAt t s.v none (some (.int .i64 h)) none).run pr w = .ok (Slc.v ⟨s.A, h.toNat, s.c⟩) w := by
  obtain ⟨e, hT⟩ := slA_out hT
  obtain ⟨hu, inf, hi, hs, _⟩ := slB_out hT
  simp [Instr.sliceAt, Instr.slice, Instr.sliceBounds, Instr.sliceBound, run_underlying hu, asIntOf, h0, h1, sizeOf, typeInfo, hi, hs, Slc.v, map_add_zero]
/-- A row's first half. -/
theorem cutHi {t : TypeId} {w : World} {s : Slc} {ss : List Slc} (h : RdL w s ss) {m : Nat} (hm : m ≤ ss.length) {x : Int} (hx : x = (m : Int)) {K : Slc → Prop} (hk : ∀ s', RdL w s' (ss.take m) → K s') (hT : slA pr t = true := by kernel_rfl) :
    fixS pr (Instr.sliceAt t s.v none (some (.int .i64 x)) none) w K := by
  subst hx
  have h1 := h.n
  have h2 := h.c
  refine ⟨_, fun w' _ => run_hiL hT w' s (h := (m : Int)) (by omega) (by omega), ?_⟩
  rw [Int.toNat_natCast]
  exact hk _ (h.take hm)

def SRow (e : TypeId) (base : Nat) (w : World) (s : Slc) (ss : List Slc) : Prop := (s = nilS ∧ ss = []) ∨ (ss ≠ [] ∧ w.ownsRow base e 1 s.v ss.length (slcs ss))
theorem SRow.nil {e : TypeId} {base : Nat} {w : World} : SRow e base w nilS [] := .inl ⟨rfl, rfl⟩
theorem SRow.out {e : TypeId} {base : Nat} {w : World} {s : Slc} {ss : List Slc} (h : SRow e base w s ss) (hne : ss ≠ []) : ∃ g cap cur, s = ⟨some ⟨g, 0, none⟩, ss.length, cap⟩ ∧ base ≤ g ∧ w.heap[g]? = some (.cells cur e (0, 0)) ∧ ss.length ≤ cap ∧ cur.toList.take ss.length = slcs ss := by
  rcases h with ⟨_, rfl⟩ | ⟨_, _, h⟩
  · exact absurd rfl hne
  · rcases h with ⟨_, h0⟩ | ⟨g, cap, cur, hv, hg, hh, hc, _, _, ht⟩
    · exact absurd (List.eq_nil_of_length_eq_zero h0) hne
    · obtain ⟨A, n, c⟩ := s
      have := Value.slice.inj hv
      obtain ⟨rfl, rfl, rfl⟩ := this
      exact ⟨g, _, cur, rfl, hg, hh, hc, by simpa using ht⟩
theorem SRow.rd {e : TypeId} {base : Nat} {w : World} {s : Slc} {ss : List Slc} (h : SRow e base w s ss) : RdL w s ss := by
  by_cases hp : ss = []
  · rcases h with ⟨rfl, rfl⟩ | ⟨h, _⟩
    · exact ⟨rfl, Nat.le_refl _, fun i hi => by simp at hi⟩
    · exact absurd hp h
  · obtain ⟨g, cap, cur, rfl, _, hh, hc, ht⟩ := h.out hp
    refine ⟨rfl, hc, fun i hi => ⟨_, rfl, ?_⟩⟩
    rw [add_off]
    have : (cur.toList.take ss.length)[i]? = some (ss.getD i nilS).v := by rw [ht, slcs_get hi]
    rw [List.getElem?_take, if_pos hi] at this
    simp only [World.cell?, hh]
    simpa using this
/-- The row's block. -/
theorem SRow.at_ {e : TypeId} {base : Nat} {w : World} {s : Slc} {ss : List Slc} (h : SRow e base w s ss) {ad : Addr} (hA : s.A = some ad) : ∃ g cur, ad = ⟨g, 0, none⟩ ∧ base ≤ g ∧ w.heap[g]? = some (.cells cur e (0, 0)) := by
  by_cases hp : ss = []
  · rcases h with ⟨rfl, rfl⟩ | ⟨h, _⟩
    · cases hA
    · exact absurd hp h
  · obtain ⟨g, cap, cur, rfl, h1, h2, _⟩ := h.out hp
    exact ⟨g, cur, (Option.some.inj hA).symm, h1, h2⟩
theorem SRow.keep {e : TypeId} {base : Nat} {w w' : World} {s : Slc} {ss : List Slc} (h : SRow e base w s ss) (hk : ∀ g, s.A = some ⟨g, 0, none⟩ → w'.heap[g]? = w.heap[g]?) : SRow e base w' s ss := by
  rcases h with h | ⟨hne, hl, h⟩
  · exact .inl h
  · refine .inr ⟨hne, hl, ?_⟩
    rcases h with h | ⟨g, cap, cur, hv, hg, hh, hr⟩
    · exact .inl h
    · refine .inr ⟨g, cap, cur, hv, hg, ?_, hr⟩
      rw [hk g (by obtain ⟨A, n, c⟩ := s; exact (Value.slice.inj hv).1), hh]
theorem SRow.ahead {e : TypeId} {base : Nat} {w w' : World} {s : Slc} {ss : List Slc} (h : SRow e base w s ss) (ha : Ahead w w') : SRow e base w' s ss :=
  h.keep fun g hA => by
    obtain ⟨g', cur, e1, _, hh⟩ := h.at_ hA
    have : g = g' := congrArg Addr.block e1
    subst this
    exact Below.block ha g (Array.getElem?_eq_some_iff.1 hh).1
theorem SRow.block {e : TypeId} {base : Nat} {w : World} {s : Slc} {ss : List Slc} (h : SRow e base w s ss) {g : Nat} (hg : some g = s.v.ownBlock) : base ≤ g ∧ ∃ cur, w.heap[g]? = some (.cells cur e (0, 0)) := by
  obtain ⟨A, n, c⟩ := s
  cases A with
  | none => simp [Slc.v, Value.ownBlock] at hg
  | some ad =>
    obtain ⟨g', cur, rfl, h1, h2⟩ := h.at_ rfl
    simp [Slc.v, Value.ownBlock] at hg
    subst hg
    exact ⟨h1, cur, h2⟩

/-- Reads as limbs, out of a block of limbs. -/
structure RdT (w : World) (s : Slc) (l : List Int) : Prop where
  rd : Rd .u64 w s l
  ty : ∀ ad, s.A = some ad → ∃ cs m, w.heap[ad.block]? = some (.cells cs tU64 m)
theorem RdT.ahead {w w' : World} {s : Slc} {l : List Int} (h : RdT w s l) (ha : Ahead w w') : RdT w' s l :=
  ⟨h.rd.ahead ha, fun ad hA => by
    obtain ⟨cs, m, hh⟩ := h.ty ad hA
    exact ⟨cs, m, by rw [Below.block ha _ (Array.getElem?_eq_some_iff.1 hh).1]; exact hh⟩⟩
end Mm
end Go.Proofs.YtbeiopoejdkheaaGreatDoor
namespace Go.Proofs.YtbeiopoejdkheaaGreatDoor
open Go Go.RowKit Eng Sp Dg L2
set_option linter.unusedVariables false
set_option linter.unusedSimpArgs false
set_option maxRecDepth 100000
namespace Wr
open _root_.Go.Proofs.YtbeiopoejdkheaaGreatDoor.Ref (RN RN.ahead RN.ext Of_spec Len_spec)
open _root_.Go.Proofs.YtbeiopoejdkheaaGreatDoor.Nat (Num Num.ahead Num.ext Num.bl num_of OwnNil OwnNil.rd digs_len_bl)
open _root_.Go.Proofs.YtbeiopoejdkheaaGreatDoor.Mm (RdL ixL nilS slcs slcs_get)
open _root_.Go.Proofs.YtbeiopoejdkheaaGreatDoor.Ro (nu de bhv rdQ upB quQ SqQ rdQuo_spec)
open _root_.Go.Proofs.YtbeiopoejdkheaaGreatDoor.Rt (bl_add_le bl_one)
open R7
open Dy

theorem semRemI {x : Int} {n : Nat} {t : TypeId} {w : World} {K : Int → World → Prop} (hn : 0 < n) (h : K (Int.tmod x (n : Int)) w) : semI pr .i64 (binOp .rem t (.int .i64 x) (.int .i64 (n : Int))) w K := by
  have e : binOp .rem t (.int .i64 x) (.int .i64 (n : Int)) = pure (.int .i64 (Int.tmod x (n : Int))) := by
    unfold binOp
    simp only [Op.intDiv]
    rw [if_neg (by simp), if_neg (by omega)]
  unfold semI
  rw [e, Sem.wp_iff_run]
  exact ⟨_, rfl, h⟩
theorem put_spec {w : World} {n lo hi : Int} (h0 : -1048576 ≤ lo) (h1 : lo ≤ hi) (h2 : hi ≤ 1048576) :
    Calls pr surdtop_put_id #[.int .i64 n, .int .i64 lo, .int .i64 hi] w fun e w' => w' = w ∧ ∃ r, e = .returned (.int .i64 r) ∧ lo ≤ r ∧ r ≤ hi := by
  obtain ⟨M, hM⟩ : ∃ M : Nat, hi - lo + 1 = (M : Int) := ⟨(hi - lo + 1).toNat, by omega⟩
  have eM : IntKind.i64.wrap (IntKind.i64.wrap (hi - lo) + 1) = (M : Int) := by rw [wrap_i64 (x := hi - lo) (by omega) (by omega), wrap_i64 (by omega) (by omega)]; omega
  refine surdtop_put_vc n lo hi w _ ?_
  rw [eM]
  have t1 := Int.tmod_lt_of_pos n (show (0 : Int) < (M : Int) by omega)
  have t2 := Int.lt_tmod_of_pos n (show (0 : Int) < (M : Int) by omega)
  refine semRemI (by omega) (br_intro (fun hneg => ?_) (fun hneg => ?_))
  · have hneg' := of_decide_eq_true hneg
    rw [wrap_i64 (x := Int.tmod n (M : Int) + (M : Int)) (by omega) (by omega), wrap_i64 (by omega) (by omega)]
    exact ⟨rfl, _, rfl, by omega, by omega⟩
  · have hneg' := of_decide_eq_false hneg
    rw [wrap_i64 (by omega) (by omega)]
    exact ⟨rfl, _, rfl, by omega, by omega⟩
theorem tame_spec {w : World} {neg : Bool} {s : Slc} {e0 : Int} : Calls pr surdtop_tame_id #[.agg #[.bool neg, s.v, .int .i64 e0]] w fun e w' => Ahead w w' ∧ ∃ x, e = .returned (.agg #[.bool neg, s.v, .int .i64 x]) ∧ -99 ≤ x ∧ x ≤ 99 := by
  refine surdtop_tame_v2 neg s e0 w (fun e w' => ∃ x, e = .returned (.agg #[.bool neg, s.v, .int .i64 x]) ∧ -99 ≤ x ∧ x ≤ 99) fun w1 x1 a1 => ?_
  refine Calls.mono (put_spec (by omega) (by omega) (by omega)) ?_
  rintro e w2 ⟨rfl, r, rfl, h1, h2⟩
  exact ⟨_, rfl, Ahead.refl _, fun w3 x3 a3 => ⟨_, rfl, h1, h2⟩⟩

theorem rdL_lit (w : World) (t : TypeId) (ss : List Slc) : RdL (w.alloc (.cells (slcs ss).toArray t (0, 0))) ⟨some ⟨w.heap.size, 0, none⟩, ss.length, ss.length⟩ ss :=
  ⟨rfl, Nat.le_refl _, fun i hi => ⟨_, rfl, by
    rw [add_off]
    have := slcs_get hi
    simp only [World.cell?, get_alloc]
    simpa using this⟩⟩
/-- Numbers, by their slices. -/
def Lims (w : World) (ss : List Slc) (ls : List (List Nat)) : Prop := ss.length = ls.length ∧ ∀ i, i < ss.length → Rd .u64 w (ss.getD i nilS) (nn (ls.getD i [])) ∧ (ls.getD i []).length * 8 ≤ 140737488351232 ∧ ok B64 (ls.getD i [])
theorem Lims.ahead {w w' : World} {ss : List Slc} {ls : List (List Nat)} (h : Lims w ss ls) (a : Ahead w w') : Lims w' ss ls := ⟨h.1, fun i hi => by obtain ⟨h1, h2⟩ := h.2 i hi; exact ⟨h1.ahead a, h2⟩⟩
theorem small_spec {w : World} {s : Slc} {ss : List Slc} {ls : List (List Nat)} {most : Nat} (h : RdL w s ss) (hl : Lims w ss ls) (hm : most ≤ 1048576) (hn : ss.length ≤ 1000) :
    Calls pr surdtop_small_id #[.int .i64 (most : Int), s.v] w fun e w' => Ahead w w' ∧ ∃ b, e = .returned (.bool b) ∧ (b = true → ∀ i, i < ss.length → bl (val B64 (ls.getD i [])) ≤ most) := by
  refine surdtop_small_vc (most : Int) s w _ (fun t0 t7 t8 t9 w' => t0 = (most : Int) ∧ t7 = s ∧ t8 = (ss.length : Int) ∧ Ahead w w' ∧ ∃ i : Nat, t9 = (i : Int) ∧ i ≤ ss.length ∧ ∀ j, j < i → bl (val B64 (ls.getD j [])) ≤ most) (fun _ _ t8 t9 _ => (t8 - t9).toNat)
    ⟨rfl, rfl, by rw [h.n], Ahead.refl _, 0, rfl, Nat.zero_le _, fun j hj => by omega⟩ ?_
  rintro t0 t7 t8 t9 w1 ⟨rfl, rfl, rfl, h1, i, rfl, hi, hd⟩
  refine br_intro (fun hlt => ?_) (fun hge => ?_)
  · have hi' : i < ss.length := by have := of_decide_eq_true hlt; omega
    obtain ⟨q1, q2, q3⟩ := (hl.ahead h1).2 i hi'
    refine ixL (h.ahead h1) hi' (Calls.mono (Of_spec q1 q2 q3) ?_)
    rintro e w2 ⟨h2, x, rfl, rx⟩
    have hb := bl_len q3
    have h32 := l32 (N := val B64 (ls.getD i [])) (m := 2 ^ 45) (by omega)
    refine ⟨_, rfl, Calls.mono (Len_spec rx (by omega)) ?_⟩
    rintro e w3 ⟨rfl, rfl⟩
    refine ⟨_, rfl, br_intro (fun hb => ⟨h1.trans h2, false, rfl, fun h => by cases h⟩) (fun hb => ?_)⟩
    have hb' := of_decide_eq_false hb
    rw [wrap_i64 (by omega) (by omega)]
    refine ⟨⟨rfl, rfl, rfl, h1.trans h2, i + 1, rfl, hi', fun j hj => ?_⟩, by omega⟩
    rcases Nat.lt_or_ge j i with h | h
    · exact hd j h
    · have : j = i := by omega
      subst this; omega
  · have hi' : i = ss.length := by have := of_decide_eq_false hge; omega
    subst hi'
    exact ⟨h1, true, rfl, fun _ => hd⟩

abbrev up (e : Int) : Int := ((2 ^ e.toNat : Nat) : Int)
abbrev dn (e : Int) : Nat := 2 ^ (-e).toNat
theorem up_pos (e : Int) : 0 < up e := by have := Nat.pow_pos (n := e.toNat) (show 0 < 2 by omega); show (0 : Int) < ((2 ^ e.toNat : Nat) : Int); omega
theorem dn_pos (e : Int) : 0 < dn e := Nat.pow_pos (by omega)
/-- A comparison hangs on the difference of the powers alone. -/
theorem pow_le {A B a b a' b' : Nat} (he : a + b' = a' + b) (h : A * 2 ^ a ≤ B * 2 ^ b) : A * 2 ^ a' ≤ B * 2 ^ b' := by
  have hp : 0 < 2 ^ a := Nat.pow_pos (by omega)
  have h1 := Nat.mul_le_mul_right (2 ^ a') h
  refine Nat.le_of_mul_le_mul_right ?_ hp
  calc A * 2 ^ a' * 2 ^ a = A * 2 ^ a * 2 ^ a' := Nat.mul_right_comm ..
    _ ≤ B * 2 ^ b * 2 ^ a' := h1
    _ = B * 2 ^ b' * 2 ^ a := by rw [Nat.mul_assoc, ← Nat.pow_add, Nat.mul_assoc, ← Nat.pow_add]; congr 2; omega
theorem pow_eq {A B a b a' b' : Nat} (he : a + b' = a' + b) (h : A * 2 ^ a = B * 2 ^ b) : A * 2 ^ a' = B * 2 ^ b' :=
  Nat.le_antisymm (pow_le he (Nat.le_of_eq h)) (pow_le (by omega) (Nat.le_of_eq h.symm))
/-- A dyadic in lowest terms, in its own units. -/
theorem od_val (neg : Bool) (Q : Nat) (pos : Int) : sg (nD neg Q) (od Q) * up (eD Q pos) * (dn pos : Int) = sg neg Q * up pos * (dn (eD Q pos) : Int) := by
  by_cases h : Q = 0
  · subst h; rw [od_zero, sg_zero, sg_zero, Int.zero_mul, Int.zero_mul, Int.zero_mul, Int.zero_mul]
  · rw [nD_ne h, eD, if_neg h, ← sg_natMul, ← sg_natMul, ← sg_natMul, ← sg_natMul]
    congr 1
    have hQ := od_mul Q
    rw [Nat.mul_assoc, ← Nat.pow_add, Nat.mul_assoc, ← Nat.pow_add]
    refine pow_eq (a := tz Q) (b := 0) (by omega) ?_
    rw [Nat.pow_zero, Nat.mul_one, Nat.mul_comm]; exact hQ
/-- A rounded answer as a fraction in units. -/
theorem told_val {w : World} {neg : Bool} {s : Slc} {Q : Nat} {pos : Int} (h : Rd .u64 w s (nn (digs B64 (od Q)))) (hb : bl Q ≤ 524288) (hp : -1000 ≤ pos ∧ pos ≤ 1000) :
    Calls pr surdtop_dyadicOf_id #[.agg #[.bool (nD neg Q), s.v, .int .i64 (eD Q pos)]] w fun e w' => Ahead w w' ∧ RA (sg neg Q * up pos) (dn pos) 2097152 e w' := by
  have ho := Nat.le_trans (bl_mono (od_le Q)) hb
  have hl := digs_len_bl (N := od Q) (m := 2 ^ 14) (by omega)
  have ht := tz_le Q
  have he : -1048576 ≤ eD Q pos ∧ eD Q pos ≤ 1048576 := by unfold eD; split <;> omega
  have hv := val_digs two64 (od Q)
  refine Calls.mono (dyadicOf_val (neg := nD neg Q) (e0 := eD Q pos) h (by omega) (ok_digs two64 _) (by rw [hv]; omega) he) ?_
  rw [hv]
  rintro e w' ⟨h1, b, x, y, rfl, hr⟩
  exact ⟨h1, _, _, _, rfl, hr.conv (dn_pos pos) (od_val neg Q pos)⟩

/-- The lesser and the greater whole number beside a fraction. -/
def Bes (L Z : Int) (D : Nat) (H : Int) : Prop := (L * (D : Int) = Z ∧ H = L) ∨ (L * (D : Int) < Z ∧ Z < H * (D : Int) ∧ H = L + 1)
theorem cmpZ_eq {a b : Int} : cmpZ a b = 0 ↔ a = b := by unfold cmpZ; split <;> (try split) <;> omega
theorem cmpZ_lt {a b : Int} : cmpZ a b < 0 ↔ a < b := by unfold cmpZ; split <;> (try split) <;> omega
theorem cmpZ_gt {a b : Int} : 0 < cmpZ a b ↔ b < a := by unfold cmpZ; split <;> (try split) <;> omega
theorem between_spec {w : World} {a b c : Bool} {s t u v x y : Slc} {L Z H pos : Int} {D kz : Nat} (hl : RV w a s t (L * up pos) (dn pos) 2097152) (hz : RV w b u v (Z * up pos) (D * dn pos) 4194304) (hh : RV w c x y (H * up pos) (dn pos) 2097152)
    (hD : 0 < D) (hp : -1000 ≤ pos ∧ pos ≤ 1000) (hB : Bes L Z D H) :
    Calls pr surdtop_between_id #[.agg #[.bool a, s.v, t.v], .agg #[.bool b, u.v, v.v], .agg #[.bool c, x.v, y.v], .int .i64 pos] w fun e w' => Ahead w w' ∧ e = .returned (.bool true) := by
  have hup := up_pos pos
  have hdn := dn_pos pos
  have hud : (0 : Int) < up pos * (dn pos : Int) := Int.mul_pos hup (by omega)
  refine surdtop_between_v2 a s t b u v c x y pos w (fun e w' => e = .returned (.bool true)) fun w1 x1 a1 => ?_
  refine Calls.mono (Sub_val (hh.ahead a1) (hl.ahead a1) (by omega)) ?_
  rintro e w2 ⟨h2, b1, s1, t1, rfl, hs⟩
  have a2 := a1.trans h2
  -- the gap, in units
  have hs' : RV w2 b1 s1 t1 ((H - L) * up pos) (dn pos) 4194305 := hs.conv hdn (by
    rw [Int.natCast_mul, Int.sub_mul, Int.sub_mul, Int.sub_mul]
    congr 1 <;> ac_rfl)
  refine ⟨_, _, _, rfl, h2, ?_⟩
  rw [wrap_i64 (by omega) (by omega), show 0 - pos = -pos by omega]
  refine Calls.mono (Scale_val (n := -pos) hs' (by omega) (by omega)) ?_
  rintro e w3 ⟨h3, b2, s2, t2, rfl, hg⟩
  have hg' : RV w3 b2 s2 t2 (H - L) 1 4200000 := (hg.conv (q' := 1) (by omega) (by
    rw [show (- -pos) = pos by omega, Int.natCast_mul]
    show (H - L) * up pos * ((2 ^ (-pos).toNat : Nat) : Int) * ((1 : Nat) : Int) = (H - L) * (((2 ^ (-pos).toNat : Nat) : Int) * up pos)
    rw [show ((1 : Nat) : Int) = 1 from rfl, Int.mul_one]; ac_rfl)).mono (by omega)
  refine ⟨_, _, _, rfl, h3, fun w4 x4 a4 => ?_⟩
  -- the order of the lesser one and the fraction
  have c1 : cmpZ (L * up pos * ((D * dn pos : Nat) : Int)) (Z * up pos * (dn pos : Int)) = cmpZ (L * (D : Int)) Z := by
    rw [← cmpZ_scale (a := L * (D : Int)) hud, Int.natCast_mul]
    congr 1 <;> ac_rfl
  have c2 : cmpZ (Z * up pos * (dn pos : Int)) (H * up pos * ((D * dn pos : Nat) : Int)) = cmpZ Z (H * (D : Int)) := by
    rw [← cmpZ_scale (a := Z) hud, Int.natCast_mul]
    congr 1 <;> ac_rfl
  have hl4 := hl.ahead a4
  have hz4 := hz.ahead a4
  have hh4 := hh.ahead a4
  have hg4 := hg'.ext x4
  have hc := Cmp_val hl4 hz4 (by omega)
  rw [c1] at hc
  refine Calls.mono hc ?_
  rintro e w5 ⟨h5, rfl⟩
  refine ⟨_, rfl, h5, br_intro (fun heq => ?_) (fun hne => ?_)⟩
  · have heq' := cmpZ_eq.1 (eq_of_beq heq)
    have hHL : H = L := by rcases hB with h | h; exact h.2; omega
    refine Calls.mono (Sign_val (hg4.ahead h5)) ?_
    rintro e w6 ⟨h6, rfl⟩
    refine ⟨_, rfl, h6, ?_⟩
    rw [hHL, Int.sub_self]; rfl
  · have hne' : ¬ L * (D : Int) = Z := fun h => by rw [cmpZ_eq.2 h] at hne; simp at hne
    have hB' : L * (D : Int) < Z ∧ Z < H * (D : Int) ∧ H = L + 1 := by rcases hB with h | h; exact absurd h.1 hne'; exact h
    intro w7 x7 a7
    have hc7 := Cmp_val (hl.ahead a7) (hz.ahead a7) (by omega)
    rw [c1] at hc7
    refine Calls.mono hc7 ?_
    rintro e w8 ⟨h8, rfl⟩
    have a8 := a7.trans h8
    refine ⟨_, rfl, h8, br_true (decide_eq_true (cmpZ_lt.2 hB'.1)) ?_⟩
    have hc8 := Cmp_val (hz.ahead a8) (hh.ahead a8) (by omega)
    rw [c2] at hc8
    refine Calls.mono hc8 ?_
    rintro e w9 ⟨h9, rfl⟩
    refine ⟨_, rfl, h9, br_true (decide_eq_true (cmpZ_lt.2 hB'.2.1)) ?_⟩
    refine Calls.mono (Int_val (v := 1) (by omega)) ?_
    rintro e w10 ⟨h10, b3, s3, t3, rfl, h1v⟩
    have hg10 := ((((hg4.ahead h5).ext x7).ahead h8).ahead h9).ahead h10
    refine ⟨_, _, _, rfl, h10, Calls.mono (Cmp_val hg10 h1v (by omega)) ?_⟩
    rintro e w11 ⟨h11, rfl⟩
    refine ⟨_, rfl, h11, ?_⟩
    rw [hB'.2.2, show L + 1 - L = 1 by omega]; rfl
end Wr
end Go.Proofs.YtbeiopoejdkheaaGreatDoor
