/- The contract of the reference's Mul. No condition. -/
import Derived.Test.YthhbjhdnaopcnaaDoorRef3
namespace Go.Proofs.YthhbjhdnaopcnaaDoor
open Go Go.RowKit Eng Sp Dg
set_option linter.unusedVariables false
set_option linter.unusedSimpArgs false
set_option maxRecDepth 100000
namespace Ref
open _root_.Go.Proofs.YthhbjhdnaopcnaaDoor.Nat (ldN ldNf stN mkN Fill mkF stF stFf Num OwnNil)

theorem rMul_spec {w : World} {a b : Slc} {x y : Nat} (ha : RN w a x) (hb : RN w b y) (nab : (digs B32 x).length + (digs B32 y).length + 1 ≤ 2 ^ 45) :
    Calls pr surdref01_Mul_id #[a.v, b.v] w fun e w' => Ahead w w' ∧ ∃ s', e = .returned (Slc.v s') ∧ RN w' s' (x * y) := by
  have hB32 := B32v
  have hna := ha.n
  have hnb := hb.n
  have oa := ok_digs two32 x
  have ob := ok_digs two32 y
  have vx := val_digs two32 x
  have vy := val_digs two32 y
  unfold RN at ha hb
  generalize digs B32 x = la at *
  generalize digs B32 y = lb at *
  refine surdref01_Mul_vc a b w _
    (fun t1 out t19 t20 t21 w' => t1 = b ∧ t19 = a ∧ t20 = (la.length : Int) ∧ ∃ (i : Nat) (l : List Nat), t21 = (i : Int) ∧ i ≤ la.length ∧ Fill w w' out l (fun _ => True) ∧ l.length = la.length + lb.length + 1 ∧ ok B32 l ∧
      (∀ j, i + lb.length ≤ j → j < l.length → l.getD j 0 = 0) ∧ val B32 l = val B32 (la.take i) * val B32 lb)
    (fun _ _ _ n i _ => (n - i).toNat)
    (fun o1 o5 o19 o20 o21 ow t1 out t6 t7 t8 t19 t20 t21 t26 t27 t28 w' => o20 = t20 ∧ o21 = t21 ∧ t1 = b ∧ t19 = a ∧ t20 = (la.length : Int) ∧ t26 = b ∧ t27 = (lb.length : Int) ∧ ∃ (i k cr : Nat) (l : List Nat), t6 = (i : Int) ∧ t21 = (i : Int) ∧ i < la.length ∧ t7 = ((la.getD i 0 : Nat) : Int) ∧
      t8 = (cr : Int) ∧ cr < B32 ∧ t28 = (k : Int) ∧ k ≤ lb.length ∧ Fill w w' out l (fun _ => True) ∧ l.length = la.length + lb.length + 1 ∧ ok B32 l ∧
      (∀ j, i + lb.length ≤ j → j < l.length → l.getD j 0 = 0) ∧ val B32 l + cr * B32 ^ (i + k) = val B32 (la.take i) * val B32 lb + la.getD i 0 * val B32 (lb.take k) * B32 ^ i)
    (fun _ _ _ _ _ _ _ _ _ _ _ _ _ _ _ n k _ => (n - k).toNat) ?_ ?_ ?_
  · rw [hna, hnb, wrap_i64 (x := (la.length : Int) + (lb.length : Int)) (by omega) (by omega), wrap_i64 (by omega) (by omega)]
    refine mkF (S := fun _ => True) (w0 := w) (by omega) (by omega) (Ahead.refl _) trivial ?_
    intro c w1 hcn hf h1
    refine ⟨rfl, rfl, rfl, 0, _, rfl, Nat.zero_le _, hf, by rw [List.length_replicate]; omega, ok_replicate (by omega) _, fun j h2 h3 => ?_, by rw [val_replicate]; simp [val]⟩
    rw [List.length_replicate] at h3
    simp [List.getD_eq_getElem?_getD, List.getElem?_replicate, h3]
  · rintro t1 out t19 t20 t21 w1 ⟨rfl, rfl, rfl, i, l, rfl, hi, hf, hl, ol, hz, hv⟩
    refine br_intro (fun hlt => ?_) (fun hge => ?_)
    · have hi' : i < la.length := by simp at hlt; omega
      refine ldN (ha.ahead hf.base) (by omega) (by omega) ?_
      rw [Int.toNat_natCast]
      exact ⟨rfl, rfl, rfl, rfl, rfl, rfl, by rw [hnb], i, 0, 0, l, rfl, rfl, hi', rfl, rfl, by omega, rfl, Nat.zero_le _, hf, hl, ol, hz, by simp [val, hv]⟩
    · have hi' : i = la.length := by simp at hge; omega
      subst hi'
      rw [List.take_length, vx, vy] at hv
      refine Calls.mono (Fill.norm hf (by omega) ol) ?_
      rintro e w6 ⟨rfl, s', rfl, hr⟩
      rw [hv] at hr
      exact ⟨_, rfl, hf.base, _, rfl, hr⟩
  · rintro o1 o5 o19 o20 o21 ow _ t1 out t6 t7 t8 t19 t20 t21 t26 t27 t28 w1 ⟨rfl, rfl, rfl, rfl, rfl, rfl, rfl, i, k, cr, l, rfl, rfl, hi, rfl, rfl, hcr, rfl, hk, hf, hl, ol, hz, hv⟩
    have hx := ok_getD oa (by omega : 0 < B32) i
    refine br_intro (fun hlt => ?_) (fun hge => ?_)
    · have hk' : k < lb.length := by simp at hlt; omega
      have e8 : IntKind.i64.wrap ((k : Int) + 1) = ((k + 1 : Nat) : Int) := by rw [wrap_i64 (by omega) (by omega)]; omega
      have hy := ok_getD ob (by omega : 0 < B32) k
      have hoo := ok_getD ol (by omega : 0 < B32) (i + k)
      refine ldN (hb.ahead hf.base) (by omega) (by omega) ?_
      rw [Int.toNat_natCast, wrap_i64 (x := (i : Int) + (k : Int)) (by omega) (by omega), show (i : Int) + (k : Int) = ((i + k : Nat) : Int) by omega]
      refine ldN hf.rd (by omega) (by omega) ?_
      rw [Int.toNat_natCast]
      have vs := fun s : Nat => val_set (B := B32) l (i + k) s (by omega)
      have tk := val_take_succ' lb k (B := B32)
      have hxy : la.getD i 0 * lb.getD k 0 ≤ 4294967295 * 4294967295 := Nat.mul_le_mul (by omega) (by omega)
      have ec : IntKind.u64.wrap (IntKind.u64.wrap (IntKind.u64.wrap (((la.getD i 0 : Nat) : Int) * ((lb.getD k 0 : Nat) : Int)) + ((l.getD (i + k) 0 : Nat) : Int)) + (cr : Int)) = ((la.getD i 0 * lb.getD k 0 + l.getD (i + k) 0 + cr : Nat) : Int) := by
        rw [show ((la.getD i 0 : Nat) : Int) * ((lb.getD k 0 : Nat) : Int) = ((la.getD i 0 * lb.getD k 0 : Nat) : Int) by push_cast; rfl]
        generalize la.getD i 0 * lb.getD k 0 = xy at *
        rw [wrap_u64' (x := (xy : Int)) (by omega) (by omega), wrap_u64' (x := (xy : Int) + _) (by omega) (by omega), wrap_u64' (by omega) (by omega)]; omega
      rw [ec]
      have hvlt : la.getD i 0 * lb.getD k 0 + l.getD (i + k) 0 + cr < 18446744073709551616 := by omega
      have hvd : (la.getD i 0 * lb.getD k 0 + l.getD (i + k) 0 + cr) / 4294967296 < 4294967296 := by omega
      have dm := Nat.mod_add_div (la.getD i 0 * lb.getD k 0 + l.getD (i + k) 0 + cr) B32
      have e1 : la.getD i 0 * (val B32 (lb.take k) + B32 ^ k * lb.getD k 0) * B32 ^ i = la.getD i 0 * val B32 (lb.take k) * B32 ^ i + B32 ^ (i + k) * (la.getD i 0 * lb.getD k 0) := by
        rw [Nat.mul_add, Nat.add_mul, Nat.pow_add]; congr 1; ac_rfl
      have goal2 : ∀ s q : Nat, s + B32 * q = la.getD i 0 * lb.getD k 0 + l.getD (i + k) 0 + cr → val B32 (l.set (i + k) s) + q * B32 ^ (i + (k + 1)) = val B32 (la.take i) * val B32 lb + la.getD i 0 * val B32 (lb.take (k + 1)) * B32 ^ i := by
        intro s q hsq
        have vs := vs s
        rw [tk, e1, show i + (k + 1) = i + k + 1 by omega, Nat.pow_succ]
        generalize la.getD i 0 * lb.getD k 0 = xy at *
        generalize l.getD (i + k) 0 = o at *
        generalize B32 ^ (i + k) = P at *
        have f1 : P * (s + B32 * q) = P * s + q * (P * B32) := by rw [Nat.mul_add]; congr 1; ac_rfl
        have f2 : P * (xy + o + cr) = P * xy + P * o + cr * P := by rw [Nat.mul_add, Nat.mul_add, Nat.mul_comm P cr]
        rw [hsq, f2] at f1
        omega
      have goal2' := goal2 _ _ dm
      generalize la.getD i 0 * lb.getD k 0 + l.getD (i + k) 0 + cr = v at *
      have e2 : Int.tmod (v : Int) 4294967296 = ((v % B32 : Nat) : Int) := by rw [Int.tmod_eq_emod_of_nonneg (by omega), hB32]; omega
      have e3 : IntKind.u64.wrap (Int.tdiv (v : Int) 4294967296) = ((v / B32 : Nat) : Int) := by
        have : Int.tdiv (v : Int) 4294967296 = ((v / 4294967296 : Nat) : Int) := by rw [Int.tdiv_eq_ediv_of_nonneg (by omega)]; omega
        rw [this, wrap_u64' (by omega) (by omega), hB32]
      rw [e2, e3, e8]
      refine stF hf (by omega) (by omega) ?_
      intro w6 hf6
      rw [Int.toNat_natCast] at hf6
      refine ⟨⟨by trivial, by trivial, by trivial, by trivial, by trivial, by trivial, by trivial, i, k + 1, _, _, rfl, rfl, hi, rfl, rfl, by rw [hB32]; exact hvd, rfl, hk', hf6, by simpa using hl, ok_set ol (Nat.mod_lt _ (by omega)), fun j h2 h3 => ?_, goal2'⟩, by omega⟩
      rw [List.length_set] at h3
      rw [getD_set _ _ _ _ (by omega), if_neg (by omega)]
      exact hz j h2 h3
    · have hk' : k = lb.length := by simp at hge; omega
      subst hk'
      have e8 : IntKind.i64.wrap ((i : Int) + 1) = ((i + 1 : Nat) : Int) := by rw [wrap_i64 (by omega) (by omega)]; omega
      rw [hnb, wrap_i64 (x := (i : Int) + ((lb.length : Nat) : Int)) (by omega) (by omega), show (i : Int) + ((lb.length : Nat) : Int) = ((i + lb.length : Nat) : Int) by omega]
      refine stF hf (by omega) (by omega) ?_
      intro w8 hf8
      rw [Int.toNat_natCast] at hf8
      have hzero := hz (i + lb.length) (Nat.le_refl _) (by omega)
      refine ⟨⟨rfl, rfl, rfl, i + 1, _, e8, hi, hf8, by simpa using hl, ok_set ol hcr, fun j h2 h3 => ?_, ?_⟩, by rw [e8]; omega⟩
      · rw [List.length_set] at h3
        rw [getD_set _ _ _ _ (by omega), if_neg (by omega)]
        exact hz j (by omega) h3
      · have vs := val_set (B := B32) l (i + lb.length) cr (by omega)
        rw [hzero, Nat.mul_zero, Nat.add_zero] at vs
        rw [vs, Nat.mul_comm (B32 ^ (i + lb.length)), hv, List.take_length, val_take_succ', Nat.add_mul]
        congr 1
        ac_rfl

end Ref
end Go.Proofs.YthhbjhdnaopcnaaDoor
