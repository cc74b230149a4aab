/- dyadic's rounding: limb, plus, left, steps, rounded, Round. No condition: the library's table is a premise. -/
import Derived.Test.YthhbjhdnaopcnaaDoorBt
import Derived.Test.YthhbjhdnaopcnaaDoorDy3
import Derived.Test.YthhbjhdnaopcnaaDoorLx
import Derived.Test.YthhbjhdnaopcnaaDoorV2R
namespace Go.Proofs.YthhbjhdnaopcnaaDoor
open Go Go.RowKit Eng Sp Dg L2
set_option linter.unusedVariables false
set_option linter.unusedSimpArgs false
set_option maxRecDepth 100000
namespace Dy
open _root_.Go.Proofs.YthhbjhdnaopcnaaDoor.Nat (ldN ldNf stF stFf mkF Fill OwnNil Num Num.bl OwnNil.mono OwnNil.ext OwnNil.rd OwnNil.ahead OwnNil.nil bigC bigC_ok leftC left_num Norm_spec Length_spec len_num semShr semShl fixShl orI_nat digs_len_bl From_spec nBit_spec)
open _root_.Go.Proofs.YthhbjhdnaopcnaaDoor.Ref (len_mono)
open Sb

theorem limb_spec {w : World} {s : Slc} {l : List Nat} (h : Rd .u64 w s (nn l)) {i : Int} (h0 : 0 ≤ i) :
    Calls pr dyadic_limb_id #[s.v, .int .i64 i] w fun e w' => w' = w ∧ e = .returned (.int .u64 (l.getD i.toNat 0 : Nat)) := by
  have hn : s.n = l.length := by rw [h.n, nn_length]
  refine dyadic_limb_vc s i w _ (br_intro (fun hlt => ?_) (fun hge => ?_))
  · have hlt' : i < l.length := by have := of_decide_eq_true hlt; omega
    exact ldN h h0 hlt' ⟨rfl, rfl⟩
  · refine ⟨rfl, ?_⟩
    rw [getD_ge l 0 (by have := of_decide_eq_false hge; omega)]; rfl

theorem plus_spec {w : World} {p q : Slc} {x y : Nat} (hp : Rd .u64 w p (nn (digs B64 x))) (hq : Rd .u64 w q (nn (digs B64 y))) (la : (digs B64 x).length + 1 ≤ 2 ^ 44) (lb : (digs B64 y).length + 1 ≤ 2 ^ 44) :
    Calls pr dyadic_plus_id #[p.v, q.v] w fun e w' => Ahead w w' ∧ ∃ s, e = .returned (Slc.v s) ∧ OwnNil w.heap.size w' s (digs B64 (x + y)) := by
  have hB := B64v
  have hna : p.n = (digs B64 x).length := by rw [hp.n, nn_length]
  have hnb : q.n = (digs B64 y).length := by rw [hq.n, nn_length]
  have oa := ok_digs two64 x
  have ob := ok_digs two64 y
  have vx := val_digs two64 x
  have vy := val_digs two64 y
  generalize digs B64 x = A at *
  generalize digs B64 y = C at *
  refine dyadic_plus_vc p q w _ (fun s t out k n i w' => s = p ∧ t = q ∧ ∃ (m : Nat) (l : List Nat) (j cr : Nat), n = ((m + 1 : Nat) : Int) ∧ A.length ≤ m ∧ C.length ≤ m ∧ m + 1 ≤ 2 ^ 44 ∧ k = (cr : Int) ∧ cr ≤ 1 ∧ i = (j : Int) ∧ j ≤ m + 1 ∧
    Fill w w' out l (fun _ => True) ∧ l.length = m + 1 ∧ ok B64 l ∧ val B64 (l.take j) + cr * B64 ^ j = val B64 (A.take j) + val B64 (C.take j)) (fun _ _ _ _ n i _ => (n - i).toNat) ?_ ?_
  · have em : maxI (p.n : Int) (q.n : Int) = ((max A.length C.length : Nat) : Int) := by
      unfold maxI; split <;> omega
    rw [em, wrap_i64 (by omega) (by omega)]
    refine mkF (S := fun _ => True) (w0 := w) (by omega) (by omega) (Ahead.refl _) trivial ?_
    intro s w1 hsn hf ha
    refine ⟨rfl, rfl, max A.length C.length, _, 0, 0, by rw [hsn]; omega, by omega, by omega, by omega, rfl, by omega, rfl, Nat.zero_le _, hf, by rw [List.length_replicate]; omega, ok_replicate (by omega) _, by simp [val]⟩
  · rintro s t out k n i w1 ⟨rfl, rfl, m, l, j, cr, rfl, hA, hC, hm, rfl, hcr, rfl, hj, hf, hl, ol, hv⟩
    refine br_intro (fun hlt => ?_) (fun hge => ?_)
    · have hj' : j < m + 1 := by have := of_decide_eq_true hlt; omega
      refine Calls.mono (limb_spec (hp.ahead hf.base) (by omega)) ?_
      rintro e w2 ⟨rfl, rfl⟩
      refine ⟨_, rfl, Calls.mono (limb_spec (hq.ahead hf.base) (by omega)) ?_⟩
      rintro e w3 ⟨rfl, rfl⟩
      refine ⟨_, rfl, ?_⟩
      rw [Int.toNat_natCast]
      have hx := ok_getD oa (by omega : 0 < B64) j
      have hy := ok_getD ob (by omega : 0 < B64) j
      have e8 : IntKind.i64.wrap ((j : Int) + 1) = ((j + 1 : Nat) : Int) := by rw [wrap_i64 (by omega) (by omega)]; omega
      have t1 := val_take_succ' A j (B := B64)
      have t2 := val_take_succ' C j (B := B64)
      generalize A.getD j 0 = a at *
      generalize C.getD j 0 = c at *
      have e1 : IntKind.u64.wrap ((a : Int) + (c : Int)) = (((a + c) % B64 : Nat) : Int) := by rw [wrap_u64, hB]; omega
      have e2 : IntKind.u64.wrap ((((a + c) % B64 : Nat) : Int) + (cr : Int)) = (((a + c + cr) % B64 : Nat) : Int) := by rw [wrap_u64, hB]; omega
      rw [e1, e2]
      -- a round's end
      have fin : ∀ cr' : Nat, cr' = (a + c + cr) / B64 → semA pr (Instr.indexAt 29 out.v (.int .i64 (j : Int))) w3 fun ad1 w4 => stC ad1 (.int .u64 (((a + c + cr) % B64 : Nat) : Int)) w4 fun w5 =>
          (s = s ∧ t = t ∧ ∃ (m' : Nat) (l : List Nat) (j' cr : Nat), ((m + 1 : Nat) : Int) = ((m' + 1 : Nat) : Int) ∧ A.length ≤ m' ∧ C.length ≤ m' ∧ m' + 1 ≤ 2 ^ 44 ∧ (cr' : Int) = (cr : Int) ∧ cr ≤ 1 ∧ IntKind.i64.wrap ((j : Int) + 1) = (j' : Int) ∧ j' ≤ m' + 1 ∧
    Fill w w5 out l (fun _ => True) ∧ l.length = m' + 1 ∧ ok B64 l ∧ val B64 (l.take j') + cr * B64 ^ j' = val B64 (A.take j') + val B64 (C.take j')) ∧ (((m + 1 : Nat) : Int) - IntKind.i64.wrap ((j : Int) + 1)).toNat < (((m + 1 : Nat) : Int) - (j : Int)).toNat := by
        intro cr' hc'
        refine stF hf (by omega) (by omega) ?_
        intro w5 hf5
        simp only [Int.toNat_natCast] at hf5
        refine ⟨⟨rfl, rfl, m, _, j + 1, cr', rfl, hA, hC, hm, rfl, by rw [hc', hB]; omega, e8, hj', hf5, by simpa using hl, ok_set ol (Nat.mod_lt _ (by omega)), ?_⟩, by rw [e8]; omega⟩
        rw [val_take_set _ _ _ (by omega), t1, t2, Nat.pow_succ]
        exact add_step (by have := Nat.mod_add_div (a + c + cr) B64; rw [hc']; omega) hv
      refine br_intro (fun h1 => ?_) (fun h1 => br_intro (fun h2 => ?_) (fun h2 => ?_))
      · exact fin 1 (by have := of_decide_eq_true h1; rw [hB] at this ⊢; omega)
      · exact fin 1 (by have := of_decide_eq_true h2; rw [hB] at this ⊢; omega)
      · exact fin 0 (by have q1 := of_decide_eq_false h1; have q2 := of_decide_eq_false h2; rw [hB] at q1 q2 ⊢; omega)
    · have hj' : j = m + 1 := by have := of_decide_eq_false hge; omega
      subst hj'
      rw [val_take_all l (by omega), val_take_all A (by omega), val_take_all C (by omega), vx, vy] at hv
      have h1 : x < B64 ^ m := by rw [← vx]; exact Nat.lt_of_lt_of_le (val_lt oa) (Nat.pow_le_pow_right (by omega) hA)
      have h2 : y < B64 ^ m := by rw [← vy]; exact Nat.lt_of_lt_of_le (val_lt ob) (Nat.pow_le_pow_right (by omega) hC)
      have h3 : cr = 0 := by
        rcases Nat.lt_or_ge cr 1 with h | h
        · omega
        · have hc1 : cr = 1 := by omega
          subst hc1
          have : 2 * B64 ^ m ≤ B64 ^ (m + 1) := by rw [Nat.pow_succ, Nat.mul_comm]; exact Nat.mul_le_mul_left _ (by omega)
          omega
      subst h3
      have hv' : val B64 l = x + y := by omega
      refine Calls.mono (Norm_spec hf.rd (by omega) ol) ?_
      rw [hv']
      rintro e w6 ⟨h6, s', rfl, hr⟩
      exact ⟨_, rfl, hf.base.trans h6, _, rfl, hr.mono hf.base.size⟩

theorem set_getD_self (l : List Nat) (i : Nat) (h : i < l.length) : l.set i (l.getD i 0) = l := by
  rw [getD_lt _ _ h]; exact List.set_getElem_self h
theorem dleft_spec {w : World} {a : Slc} {x k : Nat} (ra : Rd .u64 w a (nn (digs B64 x))) (na : (digs B64 x).length + k / 64 + 1 ≤ 2 ^ 44) :
    Calls pr dyadic_left_id #[a.v, .int .i64 (k : Int)] w fun e w' => Ahead w w' ∧ ∃ s, e = .returned (Slc.v s) ∧ OwnNil w.heap.size w' s (digs B64 (x * 2 ^ k)) := by
  have hB := B64v
  have h64 : B64 = 2 ^ 64 := rfl
  have hA0 := val_digs two64 x
  have hoA := ok_digs two64 x
  have hw : k % 64 < 64 := Nat.mod_lt _ (by omega)
  have hp2 : B64 ^ (k / 64) * 2 ^ (k % 64) = 2 ^ k := (pow_split k 64).symm
  have hnum : Num w a x := ⟨_, ra, by omega, hoA, hA0⟩
  have hna : a.n = (digs B64 x).length := by rw [ra.n, nn_length]
  generalize digs B64 x = A at *
  refine dyadic_left_vc a k w _ (fun t7 t8 t9 t32 t33 t34 w' => t7 = ((k / 64 : Nat) : Int) ∧ t8 = ((k % 64 : Nat) : Int) ∧ t33 = (A.length : Int) ∧ ∃ (l : List Nat) (j : Nat), t34 = (j : Int) ∧ j ≤ A.length ∧
    Fill w w' t9 l (fun w' => Rd .u64 w' t32 (nn A)) ∧ l.length = k / 64 + A.length + 1 ∧ ok B64 l ∧ val B64 l = val B64 (A.take j) * (B64 ^ (k / 64) * 2 ^ (k % 64))) (fun _ _ _ _ n i _ => (n - i).toNat) ?_ ?_
  · refine Calls.mono (left_num hnum (n := (k : Int)) (by omega) (by omega)) ?_
    rintro e w1 ⟨h1, s, rfl, os⟩
    have ek : ((k : Int)).toNat = k := by omega
    rw [ek] at os
    refine ⟨_, _, rfl, br_intro (fun hc => ?_) (fun hc => ?_)⟩
    · have hc0 : leftC x (k : Int) = 0 := by simpa using hc
      rw [if_pos hc0] at os
      exact ⟨h1, s, rfl, os⟩
    · rw [tdivN (by omega), tmodN, hna, wrap_i64 (x := (A.length : Int) + _) (by omega) (by omega), wrap_i64 (by omega) (by omega), show (A.length : Int) + ((k / 64 : Nat) : Int) + 1 = ((k / 64 + A.length + 1 : Nat) : Int) by omega]
      refine mkF (w0 := w) (S := fun w' => Rd .u64 w' a (nn A)) (by omega) (by omega) h1 (ra.ahead h1) ?_
      intro c w3 hcn hf ha
      refine ⟨rfl, rfl, rfl, _, 0, rfl, Nat.zero_le _, hf, by rw [List.length_replicate]; omega, ok_replicate (by omega) _, ?_⟩
      rw [val_replicate]; simp [val]
  · rintro t7 t8 c t32 t33 t34 w' ⟨rfl, rfl, rfl, l, j, rfl, hj, hf, hl, ol, hv⟩
    have hS := hf.src (fun _ h hs => Rd.ahead hs h)
    refine br_intro (fun hlt => ?_) (fun hge => ?_)
    · have hj' : j < A.length := by have := of_decide_eq_true hlt; omega
      have hfacts := left_facts (w := 64) (l := l) (A := A) (j := j) (wd := k / 64) (s := k % 64) hw (by omega) hoA hj' hv
      refine ldN hS (by omega) (by omega) ?_
      rw [wrap_i64 (x := (j : Int) + ((k / 64 : Nat) : Int)) (by omega) (by omega), show (j : Int) + ((k / 64 : Nat) : Int) = ((k / 64 + j : Nat) : Int) by omega,
        wrap_i64 (x := ((k / 64 + j : Nat) : Int) + 1) (by omega) (by omega), show ((k / 64 + j : Nat) : Int) + 1 = ((k / 64 + j + 1 : Nat) : Int) by omega]
      refine ldN hf.rd (by omega) (by omega) ?_
      refine semShl (by omega) ?_
      have hx := ok_getD hoA (by omega : 0 < B64) j
      have hlk := ok_getD ol (by omega : 0 < B64) (k / 64 + j)
      simp only [Int.toNat_natCast]
      rw [orI_nat hlk (Nat.mod_lt _ (by omega))]
      refine stF hf (by omega) (by omega) ?_
      intro w7 hf7
      simp only [Int.toNat_natCast] at hf7
      have e8 : IntKind.i64.wrap ((j : Int) + 1) = ((j + 1 : Nat) : Int) := by rw [wrap_i64 (by omega) (by omega)]; omega
      have hlo : l.getD (k / 64 + j) 0 ||| A.getD j 0 * 2 ^ (k % 64) % B64 = l.getD (k / 64 + j) 0 + A.getD j 0 * 2 ^ (k % 64) % 2 ^ 64 := by
        have h2 := shl_lo (A.getD j 0) (k % 64) 64 (by omega)
        have h2' : A.getD j 0 * 2 ^ (k % 64) % B64 = _ := h2
        rw [h2', h2, or_add hfacts.1]
      have hlolt : l.getD (k / 64 + j) 0 ||| A.getD j 0 * 2 ^ (k % 64) % B64 < B64 := Nat.or_lt_two_pow (n := 64) hlk (Nat.mod_lt _ (by omega))
      have hhi : A.getD j 0 * 2 ^ (k % 64) / 2 ^ 64 < B64 := by
        rw [shl_hi _ _ _ (by omega)]
        exact Nat.lt_of_le_of_lt (Nat.div_le_self _ _) hx
      have stp := left_step (w := 64) (lo := l.getD (k / 64 + j) 0 ||| A.getD j 0 * 2 ^ (k % 64) % B64) hw (by omega) hoA hj' hv hlo rfl
      refine br_intro (fun hs => ?_) (fun hs => ?_)
      · have hs' : 0 < k % 64 := by have := of_decide_eq_true hs; omega
        rw [show IntKind.u64.wrap (64 - ((k % 64 : Nat) : Int)) = ((64 - k % 64 : Nat) : Int) by rw [wrap_u64' (by omega) (by omega)]; omega]
        refine semShr (by omega) ?_
        rw [← shl_hi _ _ 64 (by omega)]
        refine stF hf7 (by omega) (by simp; omega) ?_
        intro w10 hf10
        simp only [Int.toNat_natCast] at hf10
        exact ⟨⟨by trivial, by trivial, by trivial, _, j + 1, e8, by omega, hf10, by simpa using hl, ok_set (ok_set ol hlolt) hhi, stp⟩, by rw [e8]; omega⟩
      · have hs' : k % 64 = 0 := by have := of_decide_eq_false hs; omega
        have hz : A.getD j 0 * 2 ^ (k % 64) / 2 ^ 64 = 0 := by
          rw [hs', Nat.pow_zero, Nat.mul_one]; exact Nat.div_eq_of_lt hx
        rw [hz] at stp
        have hzero : (l.set (k / 64 + j) (l.getD (k / 64 + j) 0 ||| A.getD j 0 * 2 ^ (k % 64) % B64)).getD (k / 64 + j + 1) 0 = 0 := by
          rw [getD_set _ _ _ _ (by omega), if_neg (by omega)]; exact hfacts.2
        have hsame := set_getD_self (l.set (k / 64 + j) (l.getD (k / 64 + j) 0 ||| A.getD j 0 * 2 ^ (k % 64) % B64)) (k / 64 + j + 1) (by simp; omega)
        rw [hzero] at hsame
        rw [hsame] at stp
        exact ⟨⟨by trivial, by trivial, by trivial, _, j + 1, e8, by omega, hf7, by simpa using hl, ok_set ol hlolt, stp⟩, by rw [e8]; omega⟩
    · have hj' : j = A.length := by have := of_decide_eq_false hge; omega
      subst hj'
      rw [List.take_length, hA0, hp2] at hv
      refine Calls.mono (Norm_spec hf.rd (by omega) ol) ?_
      rw [hv]
      rintro e w3 ⟨h3, s, rfl, os⟩
      exact ⟨_, rfl, hf.base.trans h3, _, rfl, os.mono hf.base.size⟩

theorem direction_spec {w : World} {m : Int} : Calls pr dyadic_direction_id #[.int .i64 m] w fun e w' => w' = w ∧ e = .returned (.bool (decide (0 ≤ m ∧ m ≤ 2))) := by
  refine dyadic_direction_vc m w _ (br_intro (fun h => ?_) (fun h => br_intro (fun h2 => ?_) (fun h2 => ?_)))
  · have h' : m = 0 := by simpa using h
    subst h'; exact ⟨rfl, rfl⟩
  · have h' : m = 1 := by simpa using h2
    subst h'; exact ⟨rfl, rfl⟩
  · have h1 : m ≠ 0 := by simpa using h
    have h3 : m ≠ 1 := by simpa using h2
    refine ⟨rfl, ?_⟩
    congr 2
    rw [Bool.eq_iff_iff]
    simp; omega

/-- Does the size grow by a step? -/
def upR (neg : Bool) (n gap : Nat) (m : Int) : Bool := if m = 2 then decide (n / 2 ^ (gap - 1) % 2 = 1) && (decide (tz n < gap - 1) || decide (n / 2 ^ gap % 2 = 1)) else if m = 0 then neg else !neg
/-- The size of a number of so many steps, rounded. -/
def rq (neg : Bool) (n gap : Nat) (m : Int) : Nat := n / 2 ^ gap + if upR neg n gap m then 1 else 0
def stq (neg : Bool) (n : Nat) (e pos m : Int) : Nat := if n = 0 ∨ pos ≤ e then n * 2 ^ (e - pos).toNat else rq neg n (pos - e).toNat m

theorem steps_spec {w : World} {neg : Bool} {s : Slc} {n : Nat} {e pos m : Int} (hT : Tab w) (r : Rd .u64 w s (nn (digs B64 n))) (hl : (digs B64 n).length + 1 ≤ 2 ^ 44) (he : -2305843009213693952 ≤ e ∧ e ≤ 2305843009213693952) (hp : -2305843009213693952 ≤ pos ∧ pos ≤ 2305843009213693952)
    (hsz : n = 0 ∨ pos ≤ e → (digs B64 n).length + (e - pos).toNat / 64 + 1 ≤ 2 ^ 44) :
    Calls pr dyadic_steps_id #[.agg (c3 neg s e), .int .i64 pos, .int .i64 m] w fun en w' => Ahead w w' ∧ ∃ s', en = .returned (.agg (c2 neg s')) ∧ OwnNil w.heap.size w' s' (digs B64 (stq neg n e pos m)) := by
  have hB := B64v
  have on := ok_digs two64 n
  have vn := val_digs two64 n
  have hnum : Num w s n := ⟨_, r, by omega, on, vn⟩
  have hbl := Num.bl hnum
  refine dyadic_steps_v2 neg s e pos m w _
    (fun t1 t2 t19 b s' e' _ _ w' => pos = t1 ∧ m = t2 ∧ t19 = decide (n = 0 ∨ pos ≤ e) ∧ neg = b ∧ s = s' ∧ e = e')
    (fun t2 t7 t8 b s' e' _ _ w' => m = t2 ∧ t7 = (((pos - e).toNat : Nat) : Int) ∧ ¬ (n = 0 ∨ pos ≤ e) ∧ OwnNil w.heap.size w' t8 (digs B64 (n / 2 ^ (pos - e).toNat)) ∧ neg = b ∧ s = s')
    (fun t8 t9 b s' e' _ _ w' => ¬ (n = 0 ∨ pos ≤ e) ∧ OwnNil w.heap.size w' t8 (digs B64 (n / 2 ^ (pos - e).toNat)) ∧ t9 = upR neg n (pos - e).toNat m ∧ neg = b) ?_ ?_ ?_ ?_
  · intro w1 x1 a1
    refine Calls.mono (part_sign_spec (hnum.ahead a1)) ?_
    rintro en w2 ⟨h2, rfl⟩
    refine ⟨_, rfl, h2, br_intro (fun hz => ?_) (fun hz => ?_)⟩
    · have hn : n = 0 := sgn_zero_iff.1 (by simpa using hz)
      exact ⟨rfl, rfl, by simp [hn], rfl, rfl, rfl⟩
    · have hn : n ≠ 0 := fun e0 => by rw [e0] at hz; simp [sgn] at hz
      exact ⟨rfl, rfl, by simp [hn], rfl, rfl, rfl⟩
  · rintro _ _ _ _ _ _ _ _ w1 a1 ⟨rfl, rfl, rfl, rfl, rfl, rfl⟩
    refine br_intro (fun hc => ?_) (fun hc => ?_)
    · have hc' := of_decide_eq_true hc
      intro w3 x3 a3
      have e1 : maxI (IntKind.i64.wrap (e - pos)) 0 = (((e - pos).toNat : Nat) : Int) := by
        rw [wrap_i64 (by omega) (by omega)]; unfold maxI; split <;> omega
      rw [e1]
      refine Calls.mono (dleft_spec (r.ahead a3) (hsz hc')) ?_
      rintro en w4 ⟨h4, s1, rfl, o1⟩
      refine ⟨_, rfl, h4, fun w5 x5 a5 => ⟨_, rfl, ?_⟩⟩
      rw [stq, if_pos hc']
      exact (o1.ext x5).mono a3.size
    · have hc' := of_decide_eq_false hc
      have hn : n ≠ 0 := fun h => hc' (.inl h)
      have hpe : e < pos := by
        rcases Int.lt_or_le e pos with h | h
        · exact h
        · exact absurd (.inr h) hc'
      refine Calls.mono (part_length_spec (hnum.ahead a1)) ?_
      rintro en w6 ⟨h6, rfl⟩
      have e1 : IntKind.i64.wrap (pos - e) = (((pos - e).toNat : Nat) : Int) := by rw [wrap_i64 (by omega) (by omega)]; omega
      rw [e1]
      refine ⟨_, rfl, h6, br_intro (fun hg => ?_) (fun hg => ?_)⟩
      · have hg' := of_decide_eq_true hg
        refine Calls.mono (shifted_spec (r.ahead (a1.trans h6)) (by omega) (by omega)) ?_
        rintro en w7 ⟨h7, s2, rfl, o2⟩
        exact ⟨_, rfl, h7, rfl, rfl, hc', o2.mono (a1.trans h6).size, rfl, rfl⟩
      · have hg' := of_decide_eq_false hg
        have hz : n / 2 ^ (pos - e).toNat = 0 := Nat.div_eq_of_lt (bl_le_iff.1 (by omega))
        refine ⟨rfl, rfl, hc', ?_, rfl, rfl⟩
        rw [hz, digs_zero]; exact OwnNil.nil
  · rintro _ _ t8 _ _ _ _ _ w1 a1 ⟨rfl, rfl, hc, o8, rfl, rfl⟩
    have hn : n ≠ 0 := fun h => hc (.inl h)
    have hpe : e < pos := by
      rcases Int.lt_or_le e pos with h | h
      · exact h
      · exact absurd (.inr h) hc
    obtain ⟨g, hg⟩ : ∃ g, (pos - e).toNat = g + 1 := ⟨(pos - e).toNat - 1, by omega⟩
    rw [hg] at o8 ⊢
    refine br_intro (fun h2 => ?_) (fun h2 => ?_)
    · have h2' : m = 2 := by simpa using h2
      rw [show IntKind.i64.wrap (((g + 1 : Nat) : Int) - 1) = (g : Int) by rw [wrap_i64 (by omega) (by omega)]; omega]
      refine Calls.mono (nBit_spec (r.ahead a1) (by omega) on (by omega)) ?_
      rw [vn]
      rintro en w8 ⟨rfl, rfl⟩
      refine ⟨_, rfl, Ahead.refl _, br_intro (fun hb => ?_) (fun hb => ?_)⟩
      · have hb' : n / 2 ^ g % 2 = 1 := by have := eq_of_beq hb; omega
        refine Calls.mono (Tail_spec (hT.ahead a1) (r.ahead a1) (by omega) on) ?_
        rw [vn]
        rintro en w9 ⟨rfl, rfl⟩
        refine ⟨_, rfl, Ahead.refl _, br_intro (fun ht => ?_) (fun ht => ?_)⟩
        · have ht' := of_decide_eq_true ht
          refine ⟨hc, o8, ?_, rfl⟩
          rw [upR, if_pos h2', Nat.add_sub_cancel, decide_eq_true hb', decide_eq_true (show tz n < g by omega)]; rfl
        · have ht' := of_decide_eq_false ht
          have lq : (digs B64 (n / 2 ^ (g + 1))).length ≤ 2 ^ 46 := Nat.le_trans (len_mono two64 (Nat.div_le_self _ _)) (by omega)
          have hb0 := nBit_spec (i := 0) o8.rd lq (ok_digs two64 _) (by omega)
          rw [val_digs two64, Nat.pow_zero, Nat.div_one] at hb0
          refine Calls.mono hb0 ?_
          rintro en w14 ⟨rfl, rfl⟩
          have hup : upR neg n (g + 1) m = decide (n / 2 ^ (g + 1) % 2 = 1) := by
            rw [upR, if_pos h2', Nat.add_sub_cancel, decide_eq_true hb', decide_eq_false (show ¬ tz n < g by omega)]; simp
          refine ⟨_, rfl, Ahead.refl _, br_intro (fun hq => ?_) (fun hq => ?_)⟩
          · refine ⟨hc, o8, ?_, rfl⟩
            rw [hup, decide_eq_false]
            intro h
            rw [h] at hq
            simp at hq
          · refine ⟨hc, o8, ?_, rfl⟩
            rw [hup, decide_eq_true]
            have := Nat.mod_lt (n / 2 ^ (g + 1)) (show 2 > 0 by omega)
            rcases Nat.lt_or_ge (n / 2 ^ (g + 1) % 2) 1 with h | h
            · have h0 : n / 2 ^ (g + 1) % 2 = 0 := by omega
              rw [h0] at hq
              simp at hq
            · omega
      · refine ⟨hc, o8, ?_, rfl⟩
        have hb' : ¬ n / 2 ^ g % 2 = 1 := fun h => by rw [h] at hb; simp at hb
        rw [upR, if_pos h2', Nat.add_sub_cancel, decide_eq_false hb']; rfl
    · have h2' : m ≠ 2 := by simpa using h2
      refine br_intro (fun h0 => ?_) (fun h0 => ?_)
      · exact ⟨hc, o8, by rw [upR, if_neg h2', if_pos (by simpa using h0)], rfl⟩
      · exact ⟨hc, o8, by rw [upR, if_neg h2', if_neg (by simpa using h0)], rfl⟩
  · rintro t8 _ _ _ _ _ _ w1 a1 ⟨hc, o8, rfl, rfl⟩
    have hst : stq neg n e pos m = rq neg n (pos - e).toNat m := if_neg hc
    have lq : (digs B64 (n / 2 ^ (pos - e).toNat)).length + 1 ≤ 2 ^ 44 := Nat.le_trans (Nat.add_le_add_right (len_mono two64 (Nat.div_le_self _ _)) 1) hl
    refine br_intro (fun hu => ?_) (fun hu => ?_)
    · refine Calls.mono (From_spec (v := 1) (by omega)) ?_
      rintro en w10 ⟨h10, s3, rfl, o3⟩
      have l1 : (digs B64 1).length ≤ 1 := digs_length_le two64 (by rw [Nat.pow_one]; omega)
      refine ⟨_, rfl, h10, Calls.mono (plus_spec (o8.ahead h10).rd o3.rd lq (by omega)) ?_⟩
      rintro en w11 ⟨h11, s4, rfl, o4⟩
      refine ⟨_, rfl, h11, fun w12 x12 a12 => ⟨_, rfl, ?_⟩⟩
      rw [hst, rq, if_pos hu]
      exact (o4.ext x12).mono (a1.trans h10).size
    · intro w13 x13 a13
      refine ⟨_, rfl, ?_⟩
      rw [hst, rq, if_neg (by rw [hu]; simp), Nat.add_zero]
      exact o8.ext x13

end Dy
end Go.Proofs.YthhbjhdnaopcnaaDoor
