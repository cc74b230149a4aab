/- The contracts of the reference's naturals: Shl, Shr, Low; Lend and Kept. No condition. -/
import Derived.Test.YthhbjhdnaopcnaaDoorRef2
namespace Go.Proofs.YthhbjhdnaopcnaaDoor
open Go Go.RowKit Eng Sp Dg
set_option linter.unusedVariables false
set_option linter.unusedSimpArgs false
set_option maxRecDepth 100000
namespace Ref
open _root_.Go.Proofs.YthhbjhdnaopcnaaDoor.Nat (ldN ldNf stN mkN cutHi cutLo cutCap Fill mkF stF stFf Num OwnNil semShl semShr fixShl)

theorem tdiv32 {n : Int} (h0 : 0 ≤ n) (h1 : n ≤ 9223372036854775807) : IntKind.i64.wrap (Int.tdiv n 32) = ((n.toNat / 32 : Nat) : Int) := by
  have : Int.tdiv n 32 = ((n.toNat / 32 : Nat) : Int) := by rw [Int.tdiv_eq_ediv_of_nonneg h0]; omega
  rw [this, wrap_i64 (by omega) (by omega)]
theorem tmod32 {n : Int} (h0 : 0 ≤ n) : Int.tmod n 32 = ((n.toNat % 32 : Nat) : Int) := by rw [Int.tmod_eq_emod_of_nonneg h0]; omega

theorem Shl_spec {w : World} {p : Slc} {x : Nat} {n : Int} (hp : RN w p x) (h0 : 0 ≤ n) (h1 : n ≤ 9223372036854775807) (la : (digs B32 x).length + n.toNat / 32 + 1 ≤ 2 ^ 45) :
    Calls pr surdref01_Shl_id #[p.v, .int .i64 n] w fun e w' => Ahead w w' ∧ ∃ s', e = .returned (Slc.v s') ∧ RN w' s' (x * 2 ^ n.toNat) := by
  have hB32 := B32v
  have hB := B64v
  have hna := hp.n
  have oa := ok_digs two32 x
  have vx := val_digs two32 x
  have hp2 : (2 ^ 32) ^ (n.toNat / 32) * 2 ^ (n.toNat % 32) = 2 ^ n.toNat := (pow_split n.toNat 32).symm
  have hw : n.toNat % 32 < 32 := Nat.mod_lt _ (by omega)
  have h32 : B32 = 2 ^ 32 := rfl
  unfold RN at hp
  have hz0 : digs B32 x = [] → x = 0 := fun h => by rw [h] at vx; exact vx.symm
  generalize digs B32 x = A at *
  refine surdref01_Shl_vc p n w _ (fun t1 out t6 t21 t22 t23 w' => t1 = n ∧ t6 = ((n.toNat % 32 : Nat) : Int) ∧ t21 = p ∧ t22 = (A.length : Int) ∧ ∃ (l : List Nat) (j : Nat), t23 = (j : Int) ∧ j ≤ A.length ∧
    Fill w w' out l (fun _ => True) ∧ l.length = A.length + n.toNat / 32 + 1 ∧ ok B32 l ∧ val B32 l = val B32 (A.take j) * (B32 ^ (n.toNat / 32) * 2 ^ (n.toNat % 32))) (fun _ _ _ _ n i _ => (n - i).toNat) ?_ ?_
  · refine br_intro (fun hz => ?_) (fun hz => ?_)
    · have hx := hz0 (List.eq_nil_of_length_eq_zero (by simp at hz; omega))
      subst hx
      exact ⟨Ahead.refl _, _, rfl, by rw [Nat.zero_mul]; exact RN.nil⟩
    · rw [tdiv32 h0 h1, tmod32 h0, wrap_i64 (x := (p.n : Int) + _) (by omega) (by omega), wrap_i64 (x := (p.n : Int) + _ + 1) (by omega) (by omega)]
      refine mkF (S := fun _ => True) (w0 := w) (by omega) (by omega) (Ahead.refl _) trivial ?_
      intro s w1 hsn hf ha
      refine ⟨rfl, rfl, rfl, by rw [hna], _, 0, rfl, Nat.zero_le _, hf, by rw [List.length_replicate]; omega, ok_replicate (by omega) _, ?_⟩
      rw [val_replicate]; simp [val]
  · rintro t1 out t6 t21 t22 t23 w1 ⟨rfl, rfl, rfl, rfl, l, j, rfl, hj, hf, hl, ol, hv⟩
    refine br_intro (fun hlt => ?_) (fun hge => ?_)
    · have hj' : j < A.length := by simp at hlt; omega
      have hfacts := left_facts (w := 32) (l := l) (A := A) (j := j) (wd := t1.toNat / 32) (s := t1.toNat % 32) hw (by omega) oa hj' hv
      have hx := ok_getD oa (by omega : 0 < B32) j
      rw [tdiv32 h0 h1, wrap_i64 (x := (j : Int) + _) (by omega) (by omega), show (j : Int) + ((t1.toNat / 32 : Nat) : Int) = ((t1.toNat / 32 + j : Nat) : Int) by omega,
        wrap_i64 (x := ((t1.toNat / 32 + j : Nat) : Int) + 1) (by omega) (by omega), show ((t1.toNat / 32 + j : Nat) : Int) + 1 = ((t1.toNat / 32 + j + 1 : Nat) : Int) by omega]
      refine ldN (hp.ahead hf.base) (by omega) (by omega) ?_
      refine ldNf hf.rd (by omega) (by omega) ?_
      rw [Int.toNat_natCast, Int.toNat_natCast]
      refine fixShl (by omega) ?_
      have hp4 : 2 ^ (t1.toNat % 32) ≤ 2 ^ 31 := Nat.pow_le_pow_right (by omega) (by omega)
      have hprod : A.getD j 0 * 2 ^ (t1.toNat % 32) < B64 := by
        have : A.getD j 0 * 2 ^ (t1.toNat % 32) ≤ 4294967296 * 2 ^ 31 := Nat.mul_le_mul (by omega) hp4
        omega
      rw [Nat.mod_eq_of_lt hprod]
      have hlo := shl_lo (A.getD j 0) (t1.toNat % 32) 32 (by omega)
      have hmul : l.getD (t1.toNat / 32 + j) 0 + A.getD j 0 * 2 ^ (t1.toNat % 32) % 2 ^ 32 < 2 ^ 32 := by
        rw [hlo]
        have e : 2 ^ (t1.toNat % 32) * 2 ^ (32 - t1.toNat % 32) = 2 ^ 32 := by rw [← Nat.pow_add]; congr 1; omega
        have hm : A.getD j 0 % 2 ^ (32 - t1.toNat % 32) + 1 ≤ 2 ^ (32 - t1.toNat % 32) := Nat.mod_lt _ (Nat.pow_pos (by omega))
        have := Nat.mul_le_mul_left (2 ^ (t1.toNat % 32)) hm
        rw [Nat.mul_add, e] at this
        have := hfacts.1
        omega
      have e1 : IntKind.u64.wrap (((l.getD (t1.toNat / 32 + j) 0 : Nat) : Int) + Int.tmod ((A.getD j 0 * 2 ^ (t1.toNat % 32) : Nat) : Int) 4294967296) = ((l.getD (t1.toNat / 32 + j) 0 + A.getD j 0 * 2 ^ (t1.toNat % 32) % 2 ^ 32 : Nat) : Int) := by
        generalize A.getD j 0 * 2 ^ (t1.toNat % 32) = v at *
        rw [Int.tmod_eq_emod_of_nonneg (by omega)]
        rw [wrap_u64' (by omega) (by omega)]; omega
      rw [e1]
      refine stFf hf (Ahead.drew _) (by omega) (by omega) ?_
      intro w3 hf3
      rw [Int.toNat_natCast] at hf3
      refine semShl (by omega) ?_
      rw [Nat.mod_eq_of_lt hprod]
      have e3 : IntKind.u64.wrap (Int.tdiv ((A.getD j 0 * 2 ^ (t1.toNat % 32) : Nat) : Int) 4294967296) = ((A.getD j 0 * 2 ^ (t1.toNat % 32) / 2 ^ 32 : Nat) : Int) := by
        generalize A.getD j 0 * 2 ^ (t1.toNat % 32) = v at *
        have : Int.tdiv (v : Int) 4294967296 = ((v / 2 ^ 32 : Nat) : Int) := by rw [Int.tdiv_eq_ediv_of_nonneg (by omega)]; omega
        rw [this, wrap_u64' (by omega) (by omega)]
      rw [e3]
      have hhi : A.getD j 0 * 2 ^ (t1.toNat % 32) / 2 ^ 32 < B32 := by
        rw [shl_hi _ _ _ (by omega)]
        exact Nat.lt_of_le_of_lt (Nat.div_le_self _ _) hx
      refine stF hf3 (by omega) (by simp; omega) ?_
      intro w6 hf6
      rw [Int.toNat_natCast] at hf6
      have e8 : IntKind.i64.wrap ((j : Int) + 1) = ((j + 1 : Nat) : Int) := by rw [wrap_i64 (by omega) (by omega)]; omega
      exact ⟨⟨rfl, rfl, rfl, rfl, _, j + 1, e8, hj', hf6, by simpa using hl, ok_set (ok_set ol hmul) hhi, left_step (w := 32) hw (by omega) oa hj' hv rfl rfl⟩, by rw [e8]; omega⟩
    · have hj' : j = A.length := by simp at hge; omega
      subst hj'
      rw [List.take_length, vx] at hv
      have hv' : val B32 l = x * 2 ^ t1.toNat := by rw [hv, ← hp2, h32]
      refine Calls.mono (Fill.norm hf (by omega) ol) ?_
      rintro e w6 ⟨rfl, s', rfl, hr⟩
      rw [hv'] at hr
      exact ⟨_, rfl, hf.base, _, rfl, hr⟩

theorem shr_digit (U s : Nat) (hs : s < 32) : (U % 2 ^ 32 + 2 ^ 32 * (U / 2 ^ 32 % 2 ^ 32)) / 2 ^ s % 2 ^ 32 = U / 2 ^ s % 2 ^ 32 := by
  have e1 : 2 ^ 32 * 2 ^ 32 = 2 ^ s * 2 ^ (64 - s) := by rw [← Nat.pow_add, ← Nat.pow_add]; congr 1; omega
  have e2 : 2 ^ (64 - s) = 2 ^ 32 * 2 ^ (32 - s) := by rw [← Nat.pow_add]; congr 1; omega
  have e3 : U % 2 ^ 32 + 2 ^ 32 * (U / 2 ^ 32 % 2 ^ 32) = U % (2 ^ s * 2 ^ (64 - s)) := by rw [← e1]; exact (Nat.mod_mul).symm
  rw [e3, Nat.mod_mul_right_div_self, e2, Nat.mod_mul_right_mod]

theorem Shr_specN {w : World} {p : Slc} {x : Nat} {n : Int} (hp : RN w p x) (h0 : 0 ≤ n) (h1 : n ≤ 9223372036854775807) (la : (digs B32 x).length ≤ 2 ^ 45) :
    Calls pr surdref01_Shr_id #[p.v, .int .i64 n] w fun e w' => Ahead w w' ∧ ∃ s', e = .returned (Slc.v s') ∧ RN w' s' (x / 2 ^ n.toNat) ∧ ∀ ad, s'.A = some ad → w.heap.size ≤ ad.block := by
  have hB32 := B32v
  have hB := B64v
  have hna := hp.n
  have oa := ok_digs two32 x
  have vx := val_digs two32 x
  have h32 : B32 = 2 ^ 32 := rfl
  have hp2 : B32 ^ (n.toNat / 32) * 2 ^ (n.toNat % 32) = 2 ^ n.toNat := (pow_split n.toNat 32).symm
  have hw : n.toNat % 32 < 32 := Nat.mod_lt _ (by omega)
  unfold RN at hp
  generalize digs B32 x = A at *
  refine surdref01_Shr_vc p n w _ (fun t0 t1 out t6 t23 t24 w' => t0 = p ∧ t1 = n ∧ t6 = ((n.toNat % 32 : Nat) : Int) ∧ t23 = ((A.length - n.toNat / 32 : Nat) : Int) ∧ n.toNat / 32 < A.length ∧ ∃ (l : List Nat) (j : Nat), t24 = (j : Int) ∧ j ≤ A.length - n.toNat / 32 ∧
    Fill w w' out l (fun _ => True) ∧ l.length = A.length - n.toNat / 32 ∧ ok B32 l ∧ ∀ i, i < j → l.getD i 0 = x / 2 ^ n.toNat / B32 ^ i % B32) (fun _ _ _ _ n i _ => (n - i).toNat) ?_ ?_
  · rw [tdiv32 h0 h1, tmod32 h0]
    refine br_intro (fun hz => ?_) (fun hz => ?_)
    · have hz' : A.length ≤ n.toNat / 32 := by simp at hz; omega
      have hv : x / 2 ^ n.toNat = 0 := by
        apply Nat.div_eq_of_lt
        rw [← vx, ← hp2]
        refine Nat.lt_of_lt_of_le (val_lt oa) (Nat.le_trans (Nat.pow_le_pow_right (by omega) hz') ?_)
        exact Nat.le_mul_of_pos_right _ (Nat.pow_pos (by omega))
      exact ⟨Ahead.refl _, _, rfl, by rw [hv]; exact RN.nil, fun ad h => by cases h⟩
    · have hz' : n.toNat / 32 < A.length := by simp at hz; omega
      rw [wrap_i64 (x := (p.n : Int) - _) (by omega) (by omega), show (p.n : Int) - ((n.toNat / 32 : Nat) : Int) = ((A.length - n.toNat / 32 : Nat) : Int) by omega]
      refine mkF (S := fun _ => True) (w0 := w) (by omega) (by omega) (Ahead.refl _) trivial ?_
      intro s w1 hsn hf ha
      exact ⟨rfl, rfl, rfl, by rw [hsn]; simp, hz', _, 0, rfl, Nat.zero_le _, hf, by simp, ok_replicate (by omega) _, fun i hi => by omega⟩
  · rintro t0 t1 out t6 t23 t24 w1 ⟨rfl, rfl, rfl, rfl, hz, l, j, rfl, hj, hf, hl, ol, hd⟩
    refine br_intro (fun hlt => ?_) (fun hge => ?_)
    · have hj' : j < A.length - t1.toNat / 32 := by simp at hlt; omega
      have hx := ok_getD oa (by omega : 0 < B32) (t1.toNat / 32 + j)
      have hy := ok_getD oa (by omega : 0 < B32) (t1.toNat / 32 + j + 1)
      rw [tdiv32 h0 h1, wrap_i64 (x := (j : Int) + _) (by omega) (by omega), show (j : Int) + ((t1.toNat / 32 : Nat) : Int) = ((t1.toNat / 32 + j : Nat) : Int) by omega,
        wrap_i64 (x := ((t1.toNat / 32 + j : Nat) : Int) + 1) (by omega) (by omega), show ((t1.toNat / 32 + j : Nat) : Int) + 1 = ((t1.toNat / 32 + j + 1 : Nat) : Int) by omega]
      refine ldNf ((hp.ahead hf.base).ahead (Ahead.drew _)) (by omega) (by omega) ?_
      refine Calls.mono (at_spec ((hp.ahead hf.base).ahead (Ahead.drew _)) (by omega)) ?_
      rintro e w4 ⟨rfl, rfl⟩
      have ha4 : Ahead w1 w1.drew := Ahead.drew _
      refine ⟨_, rfl, Ahead.refl _, ?_⟩
      simp only [Int.toNat_natCast]
      have e1 : IntKind.u64.wrap (((A.getD (t1.toNat / 32 + j) 0 : Nat) : Int) + IntKind.u64.wrap (((A.getD (t1.toNat / 32 + j + 1) 0 : Nat) : Int) * 4294967296)) = ((A.getD (t1.toNat / 32 + j) 0 + B32 * A.getD (t1.toNat / 32 + j + 1) 0 : Nat) : Int) := by
        generalize A.getD (t1.toNat / 32 + j) 0 = a at *
        generalize A.getD (t1.toNat / 32 + j + 1) 0 = b at *
        rw [hB32] at *
        rw [wrap_u64' (x := (b : Int) * 4294967296) (by omega) (by omega), wrap_u64' (by omega) (by omega)]; omega
      rw [e1]
      refine semShr (by omega) ?_
      have e2 : ∀ v : Nat, Int.tmod (v : Int) 4294967296 = ((v % B32 : Nat) : Int) := fun v => by rw [Int.tmod_eq_emod_of_nonneg (by omega), hB32]; omega
      rw [e2]
      refine stF (hf.ahead ha4) (by omega) (by omega) ?_
      intro w7 hf7
      rw [Int.toNat_natCast] at hf7
      have e8 : IntKind.i64.wrap ((j : Int) + 1) = ((j + 1 : Nat) : Int) := by rw [wrap_i64 (by omega) (by omega)]; omega
      refine ⟨⟨by trivial, by trivial, by trivial, by trivial, hz, _, j + 1, e8, hj', hf7, by simpa using hl, ok_set ol (Nat.mod_lt _ (by omega)), fun i hi => ?_⟩, by rw [e8]; omega⟩
      rw [getD_set _ _ _ _ (by omega)]
      split
      · rename_i hij
        subst hij
        rw [digit (by omega : 0 < B32) A oa (t1.toNat / 32 + j), digit (by omega : 0 < B32) A oa (t1.toNat / 32 + j + 1), vx, ← hp2, Nat.pow_succ, h32, div_pow_add, ← Nat.div_div_eq_div_mul, ← Nat.div_div_eq_div_mul]
        exact shr_digit _ _ hw
      · exact hd i (by omega)
    · have hj' : j = A.length - t1.toNat / 32 := by simp at hge; omega
      subst hj'
      have hv : val B32 l = x / 2 ^ t1.toNat := by
        refine val_of_digits (by omega) l _ ?_ (fun i hi => hd i (by omega))
        rw [Nat.div_lt_iff_lt_mul (Nat.pow_pos (by omega)), ← hp2, ← Nat.mul_assoc, hl, ← Nat.pow_add, show A.length - t1.toNat / 32 + t1.toNat / 32 = A.length by omega, ← vx]
        exact Nat.lt_of_lt_of_le (val_lt oa) (Nat.le_mul_of_pos_right _ (Nat.pow_pos (by omega)))
      refine Calls.mono (norm_specA hf.rd (by omega) ol) ?_
      rintro e w6 ⟨rfl, s', rfl, hr, hA⟩
      rw [hv] at hr
      refine ⟨_, rfl, hf.base, _, rfl, hr, fun ad had => ?_⟩
      rw [hA] at had
      obtain ⟨b, _, ho, _, hb, _⟩ := hf
      rw [ho.A] at had
      obtain rfl := Option.some.inj had
      exact hb

theorem Shr_spec {w : World} {p : Slc} {x : Nat} {n : Int} (hp : RN w p x) (h0 : 0 ≤ n) (h1 : n ≤ 9223372036854775807) (la : (digs B32 x).length ≤ 2 ^ 45) :
    Calls pr surdref01_Shr_id #[p.v, .int .i64 n] w fun e w' => Ahead w w' ∧ ∃ s', e = .returned (Slc.v s') ∧ RN w' s' (x / 2 ^ n.toNat) :=
  Calls.mono (Shr_specN hp h0 h1 la) fun e w' ⟨h1, s', h2, h3, _⟩ => ⟨h1, s', h2, h3⟩

theorem len_mono {B x y : Nat} (hB : 2 ≤ B) (h : x ≤ y) : (digs B x).length ≤ (digs B y).length := by
  rcases Nat.lt_or_ge (digs B y).length (digs B x).length with h1 | h1
  · have := digs_len_lt hB h1; omega
  · exact h1


/-! ### memory that is lent -/
def A5 : Nat := 10855845
theorem ext_getD {l m : List Nat} (hl : l.length = m.length) (h : ∀ i, i < l.length → l.getD i 0 = m.getD i 0) : l = m := by
  refine List.ext_getElem hl fun i h1 h2 => ?_
  have := h i h1
  rw [getD_lt _ _ h1, getD_lt _ _ h2] at this
  exact this
def lent (l : List Nat) : List Nat := A5 :: A5 :: (l ++ [A5, A5])
theorem lent_length (l : List Nat) : (lent l).length = l.length + 4 := by simp [lent]
theorem lent_getD (l : List Nat) {i : Nat} (h : i < l.length + 4) : (lent l).getD i 0 = if 2 ≤ i ∧ i < l.length + 2 then l.getD (i - 2) 0 else A5 := by
  unfold lent
  rcases i with _ | _ | i
  · simp
  · simp
  · rw [List.getD_cons_succ, List.getD_cons_succ]
    by_cases hi : i < l.length
    · rw [if_pos (by omega)]
      simp [List.getD_eq_getElem?_getD, List.getElem?_append, hi]
    · rw [if_neg (by omega)]
      have : i = l.length ∨ i = l.length + 1 := by omega
      rcases this with rfl | rfl <;> simp [List.getD_eq_getElem?_getD, List.getElem?_append]

/-- What Lend hands out: the whole row, and the part in its middle. -/
def Lent (base : Nat) (w : World) (s t : Slc) (l : List Nat) : Prop :=
  ∃ b, base ≤ b ∧ s.c = l.length + 4 ∧ Own .u64 tU64 w s (nn (lent l)) b ∧ t = ⟨some ⟨b, 2, none⟩, l.length, l.length + 2⟩
theorem Lent.whole {base : Nat} {w : World} {s t : Slc} {l : List Nat} (h : Lent base w s t l) : Rd .u64 w s (nn (lent l)) := by
  obtain ⟨b, _, _, ho, _⟩ := h; exact ho.rd
theorem Lent.part {base : Nat} {w : World} {s t : Slc} {l : List Nat} (h : Lent base w s t l) : Rd .u64 w t (nn l) := by
  obtain ⟨b, _, hc, ho, rfl⟩ := h
  refine ⟨by simp, by simp, fun i hi => ⟨_, rfl, ?_⟩⟩
  have hi' : i < l.length := by simpa using hi
  have e : (⟨b, 2, none⟩ : Addr).add i = ⟨b, 2 + i, none⟩ := by
    rw [show (⟨b, 2, none⟩ : Addr) = (⟨b, 0, none⟩ : Addr).add 2 from rfl, add_add, add_off]
  rw [e, ho.cell (i := 2 + i) (by rw [nn_length, lent_length]; omega), nn_getD, nn_getD, lent_getD l (by omega), if_pos (by omega), show 2 + i - 2 = i by omega]
theorem Lent.ahead {base : Nat} {w w' : World} {s t : Slc} {l : List Nat} (h : Lent base w s t l) (ha : Ahead w w') : Lent base w' s t l := by
  obtain ⟨b, h1, h2, h3, h4⟩ := h
  exact ⟨b, h1, h2, h3.ahead ha, h4⟩

theorem Lend_spec {w : World} {s : Slc} {l : List Nat} (h : Rd .u64 w s (nn l)) (hl : l.length * 8 ≤ 140737488351232) (hok : ok B64 l) :
    Calls pr surdref01_Lend_id #[s.v] w fun e w' => Ahead w w' ∧ ∃ s' t, e = .returned (.tuple #[Slc.v s', Slc.v t]) ∧ Lent w.heap.size w' s' t l := by
  have hn : s.n = l.length := by rw [h.n, nn_length]
  refine surdref01_Lend_vc s w _
    (fun p c n i w' => p = s ∧ n = ((l.length + 4 : Nat) : Int) ∧ ∃ (L : List Nat) (j : Nat), i = (j : Int) ∧ j ≤ l.length + 4 ∧ c.c = l.length + 4 ∧ Fill w w' c L (fun w' => Rd .u64 w' s (nn l)) ∧ L.length = l.length + 4 ∧ ∀ k, k < j → L.getD k 0 = A5) (fun _ _ n i _ => (n - i).toNat)
    (fun p c q n i w' => p = s ∧ q = s ∧ n = (l.length : Int) ∧ ∃ (L : List Nat) (j : Nat), i = (j : Int) ∧ j ≤ l.length ∧ c.c = l.length + 4 ∧ Fill w w' c L (fun w' => Rd .u64 w' s (nn l)) ∧ L.length = l.length + 4 ∧
      ∀ k, k < l.length + 4 → L.getD k 0 = if 2 ≤ k ∧ k < j + 2 then l.getD (k - 2) 0 else A5) (fun _ _ _ n i _ => (n - i).toNat) ?_ ?_ ?_
  · rw [hn, wrap_i64 (by omega) (by omega)]
    refine mkN (by omega) (by omega) ?_
    intro c w1 hc ho ha hs
    refine ⟨rfl, ?_, _, 0, rfl, Nat.zero_le _, by rw [hc]; omega, ⟨_, w, ho, by rw [hc]; unfold maxLen; omega, Nat.le_refl _, ha, ha, Nat.le_refl _, h⟩, by rw [List.length_replicate]; omega, fun k hk => by omega⟩
    have := ho.n
    rw [nn_length, List.length_replicate] at this
    omega
  · rintro p c n i w1 ⟨rfl, rfl, L, j, rfl, hj, hc, hf, hL, hd⟩
    refine br_intro (fun hlt => ?_) (fun hge => ?_)
    · have hj' : j < l.length + 4 := by simp at hlt; omega
      have e8 : IntKind.i64.wrap ((j : Int) + 1) = ((j + 1 : Nat) : Int) := by rw [wrap_i64 (by omega) (by omega)]; omega
      refine stF (x := A5) hf (by omega) (by omega) ?_
      intro w3 hf3
      rw [Int.toNat_natCast] at hf3
      refine ⟨⟨rfl, rfl, _, j + 1, e8, hj', hc, hf3, by simpa using hL, fun k hk => ?_⟩, by rw [e8]; omega⟩
      rw [getD_set _ _ _ _ (by omega)]
      split
      · rfl
      · exact hd k (by omega)
    · have hj' : j = l.length + 4 := by simp at hge; omega
      subst hj'
      refine ⟨rfl, rfl, by rw [hn], L, 0, rfl, Nat.zero_le _, hc, hf, hL, fun k hk => ?_⟩
      rw [if_neg (by omega)]
      exact hd k hk
  · rintro p c q n i w1 ⟨rfl, rfl, rfl, L, j, rfl, hj, hc, hf, hL, hd⟩
    refine br_intro (fun hlt => ?_) (fun hge => ?_)
    · have hj' : j < l.length := by simp at hlt; omega
      have e8 : IntKind.i64.wrap ((j : Int) + 1) = ((j + 1 : Nat) : Int) := by rw [wrap_i64 (by omega) (by omega)]; omega
      refine ldN (h.ahead hf.base) (by omega) (by omega) ?_
      rw [wrap_i64 (x := (j : Int) + 2) (by omega) (by omega), Int.toNat_natCast]
      refine stF hf (by omega) (by omega) ?_
      intro w3 hf3
      rw [show ((j : Int) + 2).toNat = j + 2 by omega] at hf3
      refine ⟨⟨rfl, rfl, rfl, _, j + 1, e8, hj', hc, hf3, by simpa using hL, fun k hk => ?_⟩, by rw [e8]; omega⟩
      rw [getD_set _ _ _ _ (by omega)]
      split
      · rename_i hk2
        subst hk2
        rw [if_pos (by omega), Nat.add_sub_cancel]
      · rw [hd k hk]
        by_cases hk2 : 2 ≤ k ∧ k < j + 2
        · rw [if_pos hk2, if_pos (by omega)]
        · rw [if_neg hk2, if_neg (by omega)]
    · have hj' : j = l.length := by simp at hge; omega
      subst hj'
      have hLl : L = lent l := ext_getD (by rw [hL, lent_length]) fun i hi => by rw [hd i (by omega), lent_getD l (by omega)]
      rw [hn, wrap_i64 (x := ((l.length : Nat) : Int) + 2) (by omega) (by omega)]
      refine ⟨_, fun w' _ => run_slice_both (e := tU64) (k := .u64) (by kernel_rfl) w' c (by omega) (by omega) (by omega), ?_⟩
      intro w7 ha7
      obtain ⟨b, w2, ho, h2, h3, h4, _⟩ := hf
      refine ⟨h4.trans ha7, _, _, rfl, b, h3, hc, by rw [← hLl]; exact ho.ahead ha7, ?_⟩
      rw [hc, ho.A, show ((2 : Int)).toNat = 2 from rfl, if_neg (by omega)]
      congr 1

theorem Kept_spec {w : World} {s t : Slc} {l : List Nat} (hs : Rd .u64 w s (nn (lent l))) (ht : Rd .u64 w t (nn l)) (hl : l.length * 8 ≤ 140737488351232) :
    Calls pr surdref01_Kept_id #[s.v, t.v] w fun e w' => w' = w ∧ e = .returned (.bool true) := by
  have hn : s.n = l.length + 4 := by rw [hs.n, nn_length, lent_length]
  have hm : t.n = l.length := by rw [ht.n, nn_length]
  refine surdref01_Kept_vc s t w _ (fun p q n i w' => w' = w ∧ p = t ∧ q = s ∧ n = ((l.length + 4 : Nat) : Int) ∧ ∃ j : Nat, i = (j : Int) ∧ j ≤ l.length + 4) (fun _ _ n i _ => (n - i).toNat) ?_ ?_
  · rw [hn, hm, wrap_i64 (x := (l.length : Int) + 4) (by omega) (by omega)]
    exact br_false (by simp) ⟨rfl, rfl, rfl, rfl, 0, rfl, Nat.zero_le _⟩
  · rintro p q n i w1 ⟨rfl, rfl, rfl, rfl, j, rfl, hj⟩
    refine br_intro (fun hlt => ?_) (fun hge => ?_)
    · have hj' : j < l.length + 4 := by simp at hlt; omega
      have e8 : IntKind.i64.wrap ((j : Int) + 1) = ((j + 1 : Nat) : Int) := by rw [wrap_i64 (by omega) (by omega)]; omega
      refine ldN hs (by omega) (by rw [lent_length]; omega) ?_
      rw [Int.toNat_natCast, lent_getD l hj', hm, wrap_i64 (x := ((l.length : Nat) : Int) + 2) (by omega) (by omega)]
      have go : (w1 = w1 ∧ p = p ∧ q = q ∧ ((l.length + 4 : Nat) : Int) = ((l.length + 4 : Nat) : Int) ∧ ∃ j' : Nat, IntKind.i64.wrap ((j : Int) + 1) = (j' : Int) ∧ j' ≤ l.length + 4) ∧
          (((l.length + 4 : Nat) : Int) - IntKind.i64.wrap ((j : Int) + 1)).toNat < (((l.length + 4 : Nat) : Int) - (j : Int)).toNat :=
        ⟨⟨rfl, rfl, rfl, rfl, j + 1, e8, hj'⟩, by rw [e8]; omega⟩
      refine br_intro (fun h2 => ?_) (fun h2 => ?_)
      · have h2' : j < 2 := by simp at h2; omega
        rw [if_neg (by omega)]
        exact br_false (by simp [A5]) go
      · have h2' : 2 ≤ j := by simp at h2; omega
        refine br_intro (fun h3 => ?_) (fun h3 => ?_)
        · have h3' : l.length + 2 ≤ j := by simp at h3; omega
          rw [if_neg (by omega)]
          exact br_false (by simp [A5]) go
        · have h3' : j < l.length + 2 := by simp at h3; omega
          rw [if_pos ⟨h2', h3'⟩, wrap_i64 (x := (j : Int) - 2) (by omega) (by omega)]
          refine ldN ht (by omega) (by omega) ?_
          rw [show ((j : Int) - 2).toNat = j - 2 by omega]
          exact br_false (by simp) go
    · exact ⟨rfl, rfl⟩

end Ref
end Go.Proofs.YthhbjhdnaopcnaaDoor
