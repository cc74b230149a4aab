/- The contracts of nat's Left, Right and Low. No condition. -/
import Derived.Test.YthhbjhdnaopcnaaDoorFi
import Derived.Test.YthhbjhdnaopcnaaDoorNat2
namespace Go.Proofs.YthhbjhdnaopcnaaDoor
open Go Go.RowKit Eng Sp Dg
set_option linter.unusedVariables false
set_option linter.unusedSimpArgs false
set_option maxRecDepth 100000
namespace Nat

/-- The code of an answer that is a number. -/
def bigC (n : Nat) : Int := if bl n ≤ 67108864 then 0 else 3
/-- An answer: a number in memory newer than w, or nothing and a code. -/
def Ret (w : World) (code : Int) (N : Nat) (e : Ending) (w' : World) : Prop :=
  Ahead w w' ∧ ∃ s, e = .returned (.tuple #[Slc.v s, .int .i64 code]) ∧ OwnNil w.heap.size w' s (if code = 0 then digs B64 N else [])
theorem Ans.ret {w w' : World} {n : Nat} {e : Ending} (h : Ans w n e w') : Ret w (bigC n) n e w' := by
  obtain ⟨ha, s, c, rfl, ⟨h1, rfl, ho⟩ | ⟨h1, rfl, rfl⟩⟩ := h
  · exact ⟨ha, s, by rw [bigC, if_pos h1], by rw [bigC, if_pos h1, if_pos rfl]; exact ho⟩
  · exact ⟨ha, _, by rw [bigC, if_neg (by omega)], by rw [bigC, if_neg (by omega)]; exact OwnNil.nil⟩
theorem Ret.base {w0 w w' : World} {code : Int} {N : Nat} {e : Ending} (h : Ret w code N e w') (ha : Ahead w0 w) : Ret w0 code N e w' := by
  obtain ⟨h1, s, h2, h3⟩ := h
  exact ⟨ha.trans h1, s, h2, h3.mono ha.size⟩

theorem Fill.trim {w0 w : World} {c : Slc} {l : List Nat} {S : World → Prop} (h : Fill w0 w c l S) (hl : l.length ≤ 2 ^ 46) (hok : ok B64 l) :
    Calls pr nat_trim_id #[c.v] w fun e w' => w' = w ∧ ∃ s, e = .returned (Slc.v s) ∧ OwnNil w0.heap.size w s (digs B64 (val B64 l)) := by
  refine Calls.mono (trim_spec h.rd hl hok) ?_
  rintro e w' ⟨rfl, m, hm, hd, rfl⟩
  obtain ⟨b, w1, ho, h2, h3, _⟩ := h
  refine ⟨rfl, _, rfl, .inr ⟨b, h3, h2, ?_⟩⟩
  have := ho.take (m := m) (by simpa using hm)
  rw [hd, ← nn_take]
  exact this

/-- trim, of what is read: a slice that reads as the number's digits. -/
theorem trim_rd {w : World} {p : Slc} {a : List Nat} (hp : Rd .u64 w p (nn a)) (la : a.length ≤ 2 ^ 44) (oa : ok B64 a) :
    Calls pr nat_trim_id #[p.v] w fun e w' => w' = w ∧ ∃ s, e = .returned (Slc.v s) ∧ s.n = (digs B64 (val B64 a)).length ∧ Rd .u64 w s (nn (digs B64 (val B64 a))) := by
  refine Calls.mono (trim_spec hp (by omega) oa) ?_
  rintro e w' ⟨rfl, m, hm, hd, rfl⟩
  have hca := hp.c
  have hna : p.n = a.length := by rw [hp.n, nn_length]
  have hla : (digs B64 (val B64 a)).length = m := by rw [hd, List.length_take]; omega
  exact ⟨rfl, _, rfl, hla.symm, by rw [hd, ← nn_take]; exact hp.take (by simp; omega) (by omega)⟩

def leftC (v : Nat) (n : Int) : Int := if n < 0 ∨ 1099511627776 < n then 1 else if v ≠ 0 ∧ (67108864 : Int) < bl v + n then 3 else 0

theorem Left_spec {w : World} {p : Slc} {a : List Nat} (hp : Rd .u64 w p (nn a)) (la : a.length ≤ 2 ^ 44) (oa : ok B64 a) {n : Int} (hn0 : -9223372036854775808 ≤ n) (hn1 : n ≤ 9223372036854775807) :
    Calls pr nat_Left_id #[p.v, .int .i64 n] w (Ret w (leftC (val B64 a) n) (val B64 a * 2 ^ n.toNat)) := by
  have hB := B64v
  have hlen := len_le oa
  refine nat_Left_vc p n w _ (fun t6 t7 t8 t38 t39 t40 w' => 0 ≤ n ∧ n ≤ 1099511627776 ∧ (val B64 a ≠ 0 → (bl (val B64 a) : Int) + n ≤ 67108864) ∧ ∃ (l : List Nat) (j : Nat),
    t6 = ((n.toNat / 64 : Nat) : Int) ∧ t7 = ((n.toNat % 64 : Nat) : Int) ∧ t39 = ((digs B64 (val B64 a)).length : Int) ∧ t40 = (j : Int) ∧ j ≤ (digs B64 (val B64 a)).length ∧
    Fill w w' t8 l (fun w' => Rd .u64 w' t38 (nn (digs B64 (val B64 a)))) ∧ l.length = n.toNat / 64 + (digs B64 (val B64 a)).length + 1 ∧ ok B64 l ∧
    val B64 l = val B64 ((digs B64 (val B64 a)).take j) * (B64 ^ (n.toNat / 64) * 2 ^ (n.toNat % 64))) (fun _ _ _ _ n i _ => (n - i).toNat) ?_ ?_
  · refine br_intro (fun h => ?_) (fun h => br_intro (fun h' => ?_) (fun h' => ?_))
    · have hc : leftC (val B64 a) n = 1 := by rw [leftC, if_pos]; left; simpa using h
      rw [hc]
      exact ⟨Ahead.refl _, _, rfl, OwnNil.nil⟩
    · have hc : leftC (val B64 a) n = 1 := by rw [leftC, if_pos]; right; simpa using h'
      rw [hc]
      exact ⟨Ahead.refl _, _, rfl, OwnNil.nil⟩
    · have h0 : 0 ≤ n := by simpa using h
      have h1 : n ≤ 1099511627776 := by simpa using h'
      refine Calls.mono (trim_rd hp la oa) ?_
      rintro e w' ⟨rfl, s, rfl, hsn, hs⟩
      refine ⟨_, rfl, br_intro (fun hz => ?_) (fun hz => ?_)⟩
      · have hd : digs B64 (val B64 a) = [] := List.eq_nil_of_length_eq_zero (by simp at hz; omega)
        have hv : val B64 a = 0 := by rw [← val_digs two64 (val B64 a), hd]; rfl
        have hc : leftC (val B64 a) n = 0 := by rw [leftC, if_neg (by omega), if_neg (by omega)]
        rw [hc, hv, Nat.zero_mul]
        exact ⟨Ahead.refl _, _, rfl, by rw [if_pos rfl, digs_zero]; exact OwnNil.nil⟩
      · have hv : val B64 a ≠ 0 := fun h => by rw [h, digs_zero] at hsn; simp at hz; simp at hsn; omega
        refine Calls.mono (Length_spec hs (by omega) (ok_digs two64 _)) ?_
        rintro e w2 ⟨rfl, rfl⟩
        rw [val_digs two64]
        have hbl : bl (val B64 a) ≤ 64 * a.length := bl_len oa
        refine ⟨_, rfl, ?_⟩
        rw [wrap_i64 (x := (bl (val B64 a) : Int) + n) (by omega) (by omega)]
        refine br_intro (fun hb => ?_) (fun hb => ?_)
        · have hb' : 67108864 < (bl (val B64 a) : Int) + n := by simpa using hb
          have hc : leftC (val B64 a) n = 3 := by rw [leftC, if_neg (by omega), if_pos ⟨hv, hb'⟩]
          rw [hc]
          exact ⟨Ahead.refl _, _, rfl, OwnNil.nil⟩
        · have hb' : (bl (val B64 a) : Int) + n ≤ 67108864 := by simpa using hb
          have e1 : IntKind.i64.wrap (Int.tdiv n 64) = ((n.toNat / 64 : Nat) : Int) := by
            have : Int.tdiv n 64 = ((n.toNat / 64 : Nat) : Int) := by rw [Int.tdiv_eq_ediv_of_nonneg h0]; omega
            rw [this, wrap_i64 (by omega) (by omega)]
          have e2 : IntKind.u64.wrap (Int.tmod n 64) = ((n.toNat % 64 : Nat) : Int) := by
            have : Int.tmod n 64 = ((n.toNat % 64 : Nat) : Int) := by rw [Int.tmod_eq_emod_of_nonneg h0]; omega
            rw [this, wrap_u64' (by omega) (by omega)]
          rw [e1, e2, hsn, wrap_i64 (x := ((n.toNat / 64 : Nat) : Int) + _) (by omega) (by omega), wrap_i64 (x := ((n.toNat / 64 : Nat) : Int) + _ + 1) (by omega) (by omega)]
          refine mkF (w0 := w2) (S := fun w' => Rd .u64 w' s (nn (digs B64 (val B64 a)))) (by omega) (by omega) (Ahead.refl _) hs ?_
          intro c w3 hcn hf ha
          refine ⟨h0, h1, fun _ => hb', _, 0, rfl, rfl, rfl, rfl, Nat.zero_le _, hf, by simp; omega, ok_replicate (by omega) _, ?_⟩
          rw [val_replicate]; simp [val]
  · rintro t6 t7 c t38 t39 t40 w' ⟨h0, h1, hbl, l, j, rfl, rfl, rfl, rfl, hj, hf, hl, ol, hv⟩
    have hS := hf.src (fun _ h hs => Rd.ahead hs h)
    refine br_intro (fun hlt => ?_) (fun hge => ?_)
    · have hj' : j < (digs B64 (val B64 a)).length := by simpa using hlt
      have h64 : B64 = 2 ^ 64 := rfl
      have hoA := ok_digs two64 (val B64 a)
      generalize hA : digs B64 (val B64 a) = A at *
      have hw : n.toNat % 64 < 64 := Nat.mod_lt _ (by omega)
      have hfacts := left_facts (w := 64) (l := l) (A := A) (j := j) (wd := n.toNat / 64) (s := n.toNat % 64) hw (by omega) hoA hj' hv
      refine ldN hS (by omega) (by omega) ?_
      rw [wrap_i64 (x := ((n.toNat / 64 : Nat) : Int) + _) (by omega) (by omega), show ((n.toNat / 64 : Nat) : Int) + (j : Int) = ((n.toNat / 64 + j : Nat) : Int) by omega,
        wrap_i64 (x := ((n.toNat / 64 + j : Nat) : Int) + 1) (by omega) (by omega), show ((n.toNat / 64 + j : Nat) : Int) + 1 = ((n.toNat / 64 + j + 1 : Nat) : Int) by omega]
      refine ldN hf.rd (by omega) (by omega) ?_
      refine semShl (by omega) ?_
      have hx := ok_getD hoA (by omega : 0 < B64) j
      have hlk := ok_getD ol (by omega : 0 < B64) (n.toNat / 64 + j)
      simp only [Int.toNat_natCast]
      rw [orI_nat hlk (Nat.mod_lt _ (by omega))]
      refine stF hf (by omega) (by omega) ?_
      intro w8 hf8
      simp only [Int.toNat_natCast] at hf8
      refine ldN hf8.rd (by omega) (by simp; omega) ?_
      have e3 : Int.fdiv (A.getD j 0 : Int) (2 ^ (1 : Nat)) = ((A.getD j 0 / 2 : Nat) : Int) := by rw [Int.fdiv_eq_ediv_of_nonneg _ (by decide)]; norm_cast
      have e4 : IntKind.u64.wrap (63 - ((n.toNat % 64 : Nat) : Int)) = ((63 - n.toNat % 64 : Nat) : Int) := by rw [wrap_u64' (by omega) (by omega)]; omega
      rw [e3, e4]
      refine semShr (by omega) ?_
      simp only [Int.toNat_natCast]
      have e5 : (l.set (n.toNat / 64 + j) (l.getD (n.toNat / 64 + j) 0 ||| A.getD j 0 * 2 ^ (n.toNat % 64) % B64)).getD (n.toNat / 64 + j + 1) 0 = 0 := by
        rw [getD_set _ _ _ _ (by omega), if_neg (by omega)]; exact hfacts.2
      have e6 : A.getD j 0 / 2 / 2 ^ (63 - n.toNat % 64) = A.getD j 0 * 2 ^ (n.toNat % 64) / 2 ^ 64 := by
        rw [shl_hi _ _ _ (by omega), Nat.div_div_eq_div_mul]
        congr 1
        rw [show 64 - n.toNat % 64 = 63 - n.toNat % 64 + 1 by omega, Nat.pow_succ]; omega
      have hhi : A.getD j 0 * 2 ^ (n.toNat % 64) / 2 ^ 64 < B64 := by
        rw [shl_hi _ _ _ (by omega)]
        exact Nat.lt_of_le_of_lt (Nat.div_le_self _ _) hx
      rw [e5, e6]
      have e7 : orI .u64 ((0 : Nat) : Int) ((A.getD j 0 * 2 ^ (n.toNat % 64) / 2 ^ 64 : Nat) : Int) = ((A.getD j 0 * 2 ^ (n.toNat % 64) / 2 ^ 64 : Nat) : Int) := by
        rw [orI_nat (by omega) hhi, Nat.zero_or]
      rw [e7]
      refine stF hf8 (by omega) (by simp; omega) ?_
      intro w12 hf12
      have e8 : IntKind.i64.wrap ((j : Int) + 1) = ((j + 1 : Nat) : Int) := by rw [wrap_i64 (by omega) (by omega)]; omega
      refine ⟨⟨h0, h1, hbl, _, j + 1, by trivial, by trivial, by trivial, e8, by omega, hf12, by simpa using hl, ?_, ?_⟩, by rw [e8]; omega⟩
      · refine ok_set (ok_set ol ?_) hhi
        show _ < 2 ^ 64
        exact Nat.or_lt_two_pow hlk (Nat.mod_lt _ (by omega))
      · simp only [Int.toNat_natCast]
        refine left_step (w := 64) hw (by omega) hoA hj' hv ?_ rfl
        have hlo := shl_lo (A.getD j 0) (n.toNat % 64) 64 (by omega)
        have hlo' : A.getD j 0 * 2 ^ (n.toNat % 64) % B64 = _ := hlo
        rw [hlo', hlo, or_add hfacts.1]
    · have hj' : j = (digs B64 (val B64 a)).length := by simp at hge; omega
      subst hj'
      refine Calls.mono (hf.trim (by omega) ol) ?_
      rintro e w3 ⟨rfl, s, rfl, ho⟩
      refine ⟨_, rfl, hf.base, s, ?_⟩
      have hc : leftC (val B64 a) n = 0 := by
        rw [leftC, if_neg (by omega), if_neg]
        rintro ⟨h2, h3⟩
        have := hbl h2
        omega
      have hp2 : B64 ^ (n.toNat / 64) * 2 ^ (n.toNat % 64) = 2 ^ n.toNat := (pow_split n.toNat 64).symm
      rw [hv, List.take_length, val_digs two64, hp2] at ho
      rw [hc]
      exact ⟨rfl, ho⟩


def rightC (v : Nat) (n : Int) : Int := if n < 0 ∨ 1099511627776 < n then 1 else bigC (v / 2 ^ n.toNat)

theorem Right_spec {w : World} {p : Slc} {a : List Nat} (hp : Rd .u64 w p (nn a)) (la : a.length ≤ 2 ^ 44) (oa : ok B64 a) {n : Int} :
    Calls pr nat_Right_id #[p.v, .int .i64 n] w (Ret w (rightC (val B64 a) n) (val B64 a / 2 ^ n.toNat)) := by
  have hB := B64v
  have h64 : B64 = 2 ^ 64 := rfl
  have hlen := len_le oa
  have hw : n.toNat % 64 < 64 := Nat.mod_lt _ (by omega)
  have hp2 : B64 ^ (n.toNat / 64) * 2 ^ (n.toNat % 64) = 2 ^ n.toNat := (pow_split n.toNat 64).symm
  have hA0 : val B64 (digs B64 (val B64 a)) = val B64 a := val_digs two64 _
  have hoA := ok_digs two64 (val B64 a)
  generalize hA : digs B64 (val B64 a) = A at *
  refine nat_Right_vc p n w _ (fun t0 t6 t7 t8 t33 t34 w' => 0 ≤ n ∧ n ≤ 1099511627776 ∧ n.toNat / 64 < A.length ∧ ∃ (l : List Nat) (j : Nat),
    t6 = ((n.toNat / 64 : Nat) : Int) ∧ t7 = ((n.toNat % 64 : Nat) : Int) ∧ t33 = ((A.length - n.toNat / 64 : Nat) : Int) ∧ t34 = (j : Int) ∧ j ≤ A.length - n.toNat / 64 ∧ t0.n = A.length ∧
    Fill w w' t8 l (fun w' => Rd .u64 w' t0 (nn A)) ∧ l.length = A.length - n.toNat / 64 ∧ ok B64 l ∧
    ∀ i, i < j → l.getD i 0 = val B64 a / 2 ^ n.toNat / B64 ^ i % B64) (fun _ _ _ _ n i _ => (n - i).toNat) ?_ ?_
  · refine br_intro (fun h => ?_) (fun h => br_intro (fun h' => ?_) (fun h' => ?_))
    · have hc : rightC (val B64 a) n = 1 := by rw [rightC, if_pos]; left; simpa using h
      rw [hc]
      exact ⟨Ahead.refl _, _, rfl, OwnNil.nil⟩
    · have hc : rightC (val B64 a) n = 1 := by rw [rightC, if_pos]; right; simpa using h'
      rw [hc]
      exact ⟨Ahead.refl _, _, rfl, OwnNil.nil⟩
    · have h0 : 0 ≤ n := by simpa using h
      have h1 : n ≤ 1099511627776 := by simpa using h'
      refine Calls.mono (trim_rd hp la oa) ?_
      rw [hA]
      rintro e w' ⟨rfl, s, rfl, hsn, hs⟩
      have e1 : IntKind.i64.wrap (Int.tdiv n 64) = ((n.toNat / 64 : Nat) : Int) := by
        have : Int.tdiv n 64 = ((n.toNat / 64 : Nat) : Int) := by rw [Int.tdiv_eq_ediv_of_nonneg h0]; omega
        rw [this, wrap_i64 (by omega) (by omega)]
      have e2 : IntKind.u64.wrap (Int.tmod n 64) = ((n.toNat % 64 : Nat) : Int) := by
        have : Int.tmod n 64 = ((n.toNat % 64 : Nat) : Int) := by rw [Int.tmod_eq_emod_of_nonneg h0]; omega
        rw [this, wrap_u64' (by omega) (by omega)]
      refine ⟨_, rfl, ?_⟩
      rw [e1, e2, hsn]
      refine br_intro (fun hz => ?_) (fun hz => ?_)
      · have hz' : A.length ≤ n.toNat / 64 := by simp at hz; omega
        have hv : val B64 a / 2 ^ n.toNat = 0 := by
          apply Nat.div_eq_of_lt
          rw [← hA0, ← hp2]
          refine Nat.lt_of_lt_of_le (val_lt hoA) (Nat.le_trans (Nat.pow_le_pow_right (by omega) hz') ?_)
          exact Nat.le_mul_of_pos_right _ (Nat.pow_pos (by omega))
        have hc : rightC (val B64 a) n = 0 := by rw [rightC, if_neg (by omega), hv, bigC, bl_zero, if_pos (by omega)]
        rw [hc, hv]
        exact ⟨Ahead.refl _, _, rfl, by rw [if_pos rfl, digs_zero]; exact OwnNil.nil⟩
      · have hz' : n.toNat / 64 < A.length := by simp at hz; omega
        rw [wrap_i64 (x := (A.length : Int) - _) (by omega) (by omega), show (A.length : Int) - ((n.toNat / 64 : Nat) : Int) = ((A.length - n.toNat / 64 : Nat) : Int) by omega]
        refine mkF (w0 := w') (S := fun w' => Rd .u64 w' s (nn A)) (by omega) (by omega) (Ahead.refl _) hs ?_
        intro c w3 hcn hf ha
        refine ⟨h0, h1, hz', _, 0, rfl, rfl, by rw [hcn]; simp, rfl, Nat.zero_le _, by first | exact hsn | rfl, hf, by simp, ok_replicate (by omega) _, fun i hi => by omega⟩
  · rintro t0 t6 t7 c t33 t34 w' ⟨h0, h1, hz, l, j, rfl, rfl, rfl, rfl, hj, htn, hf, hl, ol, hd⟩
    have hS := hf.src (fun _ h hs => Rd.ahead hs h)
    have hN : ∀ i, val B64 a / 2 ^ n.toNat / B64 ^ i % B64 = A.getD (n.toNat / 64 + i) 0 / 2 ^ (n.toNat % 64) + 2 ^ (64 - n.toNat % 64) * (A.getD (n.toNat / 64 + i + 1) 0 % 2 ^ (n.toNat % 64)) := by
      intro i
      rw [digit (by omega : 0 < B64) A hoA (n.toNat / 64 + i), digit (by omega : 0 < B64) A hoA (n.toNat / 64 + i + 1), hA0, ← hp2]
      generalize val B64 a = V
      rw [h64, div_pow_add, right_digit _ _ _ _ hw]
      congr 2
      generalize V / (2 ^ 64) ^ (n.toNat / 64 + i + 1) = U
      rw [show 2 ^ 64 = 2 ^ (n.toNat % 64) * 2 ^ (64 - n.toNat % 64) by rw [← Nat.pow_add]; congr 1; omega, Nat.mod_mul_right_mod]
    refine br_intro (fun hlt => ?_) (fun hge => ?_)
    · have hj' : j < A.length - n.toNat / 64 := by simp at hlt; omega
      have hx := ok_getD hoA (by omega : 0 < B64) (n.toNat / 64 + j)
      have e8 : IntKind.i64.wrap ((j : Int) + 1) = ((j + 1 : Nat) : Int) := by rw [wrap_i64 (by omega) (by omega)]; omega
      rw [wrap_i64 (x := ((n.toNat / 64 : Nat) : Int) + _) (by omega) (by omega), show ((n.toNat / 64 : Nat) : Int) + (j : Int) = ((n.toNat / 64 + j : Nat) : Int) by omega,
        wrap_i64 (x := ((n.toNat / 64 + j : Nat) : Int) + 1) (by omega) (by omega), show ((n.toNat / 64 + j : Nat) : Int) + 1 = ((n.toNat / 64 + j + 1 : Nat) : Int) by omega]
      refine ldN hS (by omega) (by omega) ?_
      refine semShr (by omega) ?_
      simp only [Int.toNat_natCast]
      have hq : A.getD (n.toNat / 64 + j) 0 / 2 ^ (n.toNat % 64) < B64 := Nat.lt_of_le_of_lt (Nat.div_le_self _ _) hx
      refine stF hf (by omega) (by omega) ?_
      intro w6 hf6
      simp only [Int.toNat_natCast] at hf6
      refine br_intro (fun hin => ?_) (fun hin => ?_)
      · have hin' : n.toNat / 64 + j + 1 < A.length := by simp at hin; omega
        have hS6 := hf6.src (fun _ h hs => Rd.ahead hs h)
        refine ldNf hf6.rd (by omega) (by simp; omega) ?_
        refine ldNf hS6 (by omega) (by omega) ?_
        simp only [Int.toNat_natCast]
        have hy := ok_getD hoA (by omega : 0 < B64) (n.toNat / 64 + j + 1)
        have e3 : IntKind.u64.wrap ((A.getD (n.toNat / 64 + j + 1) 0 : Int) * 2 ^ (1 : Nat)) = ((A.getD (n.toNat / 64 + j + 1) 0 * 2 % B64 : Nat) : Int) := by rw [wrap_u64, B64v, show (2 : Int) ^ (1 : Nat) = 2 from rfl]; omega
        have e4 : IntKind.u64.wrap (63 - ((n.toNat % 64 : Nat) : Int)) = ((63 - n.toNat % 64 : Nat) : Int) := by rw [wrap_u64' (by omega) (by omega)]; omega
        rw [e3, e4]
        refine fixShl (by omega) ?_
        rw [getD_set _ _ _ _ (by omega), if_pos rfl, orI_nat hq (Nat.mod_lt _ (by omega))]
        have e5 : A.getD (n.toNat / 64 + j + 1) 0 * 2 % B64 * 2 ^ (63 - n.toNat % 64) % B64 = 2 ^ (64 - n.toNat % 64) * (A.getD (n.toNat / 64 + j + 1) 0 % 2 ^ (n.toNat % 64)) := by
          rw [Nat.mod_mul_mod, Nat.mul_assoc, show 2 * 2 ^ (63 - n.toNat % 64) = 2 ^ (64 - n.toNat % 64) by rw [show 64 - n.toNat % 64 = 63 - n.toNat % 64 + 1 by omega, Nat.pow_succ]; omega, h64, shl_lo _ _ _ (by omega)]
          congr 3; omega
        have hql : A.getD (n.toNat / 64 + j) 0 / 2 ^ (n.toNat % 64) < 2 ^ (64 - n.toNat % 64) := by
          rw [Nat.div_lt_iff_lt_mul (Nat.pow_pos (by omega)), ← Nat.pow_add, show 64 - n.toNat % 64 + n.toNat % 64 = 64 by omega]
          exact hx
        rw [e5, or_add hql]
        refine stFf hf6 (Ahead.drew _) (by omega) (by simp; omega) ?_
        intro w7 hf7
        simp only [Int.toNat_natCast, List.set_set] at hf7
        refine ⟨⟨h0, h1, hz, _, j + 1, by trivial, by trivial, by trivial, e8, by omega, htn, hf7, by simpa using hl, ok_set ol ?_, fun i hi => ?_⟩, by rw [e8]; omega⟩
        · rw [← hN]; exact Nat.mod_lt _ (by omega)
        · rw [getD_set _ _ _ _ (by omega)]
          split
          · rename_i h; subst h; exact (hN _).symm
          · exact hd i (by omega)
      · have hin' : A.length ≤ n.toNat / 64 + j + 1 := by simp at hin; omega
        refine ⟨⟨h0, h1, hz, _, j + 1, by trivial, by trivial, by trivial, e8, by omega, htn, hf6, by simpa using hl, ok_set ol hq, fun i hi => ?_⟩, by rw [e8]; omega⟩
        rw [getD_set _ _ _ _ (by omega)]
        split
        · rename_i h; subst h
          rw [hN, getD_ge A 0 hin', Nat.zero_mod, Nat.mul_zero, Nat.add_zero]
        · exact hd i (by omega)
    · have hj' : j = A.length - n.toNat / 64 := by simp at hge; omega
      subst hj'
      have hv : val B64 l = val B64 a / 2 ^ n.toNat := by
        refine val_of_digits (by omega) l _ ?_ (fun i hi => hd i (by omega))
        rw [Nat.div_lt_iff_lt_mul (Nat.pow_pos (by omega)), ← hp2, ← Nat.mul_assoc, hl, ← Nat.pow_add, show A.length - n.toNat / 64 + n.toNat / 64 = A.length by omega, ← hA0]
        exact Nat.lt_of_lt_of_le (val_lt hoA) (Nat.le_mul_of_pos_right _ (Nat.pow_pos (by omega)))
      refine Calls.mono (hf.told (by omega) ol) ?_
      intro e w3 h
      have h' := h.ret
      rw [hv] at h'
      have hc : rightC (val B64 a) n = bigC (val B64 a / 2 ^ n.toNat) := by rw [rightC, if_neg (by omega)]
      rw [hc]
      obtain ⟨h1, s, rfl, h2⟩ := h'
      exact ⟨_, _, rfl, h1, _, rfl, h2⟩

def lowC (v : Nat) (n : Int) : Int := if n < 0 ∨ 1099511627776 < n then 1 else bigC (v % 2 ^ n.toNat)


end Nat
end Go.Proofs.YthhbjhdnaopcnaaDoor
