/- The contracts of mul's school and halved. No condition. -/
import Derived.Test.YtindbeolpjkijaaMul2
import Derived.Test.YtindbeolpjkijaaShelf
namespace Go.Proofs.Ytindbeolpjkijaa
open Go Go.RowKit Eng Sp Dg
set_option linter.unusedVariables false
set_option linter.unusedSimpArgs false
set_option maxRecDepth 100000
namespace Mul
open _root_.Go.Proofs.Ytindbeolpjkijaa.Nat (ldN ldNf stN mkN Fill mkF stF stFf Num OwnNil add64 sub64)

theorem row_step (x y o cr : Nat) (hx : x < B64) (hy : y < B64) (ho : o < B64) (hc : cr < B64) :
    (o + (x * y % B64 + cr) % B64) % B64 + B64 * (x * y / B64 + (x * y % B64 + cr) / B64 + (o + (x * y % B64 + cr) % B64) / B64) = o + x * y + cr ∧
      x * y / B64 + (x * y % B64 + cr) / B64 + (o + (x * y % B64 + cr) % B64) / B64 < B64 := by
  have hB := B64v
  have h1 := Nat.mod_add_div (x * y) B64
  have h2 := Nat.mod_add_div (x * y % B64 + cr) B64
  have h3 := Nat.mod_add_div (o + (x * y % B64 + cr) % B64) B64
  have hxy : x * y ≤ (B64 - 1) * (B64 - 1) := Nat.mul_le_mul (by omega) (by omega)
  generalize (o + (x * y % B64 + cr) % B64) % B64 = s at *
  generalize (o + (x * y % B64 + cr) % B64) / B64 = c2 at *
  generalize (x * y % B64 + cr) % B64 = lo2 at *
  generalize (x * y % B64 + cr) / B64 = c1 at *
  generalize x * y % B64 = lo at *
  generalize x * y / B64 = hi at *
  generalize x * y = p at *
  have e : s + B64 * (hi + c1 + c2) = o + p + cr := by rw [Nat.mul_add, Nat.mul_add]; omega
  refine ⟨e, ?_⟩
  rcases Nat.lt_or_ge (hi + c1 + c2) B64 with h | h
  · exact h
  · exfalso
    have h5 := Nat.mul_le_mul_left B64 h
    have h6 : (B64 - 1) * (B64 - 1) + 2 * B64 = B64 * B64 + 1 := by decide
    clear h1 h2 h3
    generalize (B64 - 1) * (B64 - 1) = Q at *
    generalize B64 * B64 = BB at *
    generalize B64 * (hi + c1 + c2) = T at *
    omega

theorem school_spec {w : World} {a b : Slc} {la lb : List Nat} (ha : Rd .u64 w a (nn la)) (hb : Rd .u64 w b (nn lb)) (oa : ok B64 la) (ob : ok B64 lb) (nab : la.length + lb.length ≤ 2 ^ 45) :
    Calls pr mul_school_id #[a.v, b.v] w fun e w' => Ahead w w' ∧ ∃ s l, e = .returned (Slc.v s) ∧ OwnNil w.heap.size w' s l ∧ l.length = la.length + lb.length ∧ ok B64 l ∧ val B64 l = val B64 la * val B64 lb := by
  have hB := B64v
  have hna : a.n = la.length := by rw [ha.n, nn_length]
  have hnb : b.n = lb.length := by rw [hb.n, nn_length]
  refine mul_school_vc a b w _
    (fun t1 out t20 t21 t22 w' => t1 = b ∧ t20 = a ∧ t21 = (la.length : Int) ∧ Ahead w w' ∧ ∃ (i : Nat) (l : List Nat), t22 = (i : Int) ∧ i ≤ la.length ∧ Own .u64 tU64 w' out (nn l) w.heap.size ∧ out.c ≤ maxLen ∧ l.length = la.length + lb.length ∧ ok B64 l ∧
      (∀ j, i + lb.length ≤ j → j < l.length → l.getD j 0 = 0) ∧ val B64 l = val B64 (la.take i) * val B64 lb)
    (fun _ _ _ n i _ => (n - i).toNat)
    (fun o1 o5 o20 o21 o22 ow t1 out t6 t7 t8 t20 t21 t22 t27 t28 t29 w' => o21 = t21 ∧ o22 = t22 ∧ t1 = b ∧ t20 = a ∧ t21 = (la.length : Int) ∧ t27 = b ∧ t28 = (lb.length : Int) ∧ Ahead w w' ∧ ∃ (i k cr : Nat) (l : List Nat), t6 = (i : Int) ∧ t22 = (i : Int) ∧ i < la.length ∧ t7 = ((la.getD i 0 : Nat) : Int) ∧
      t8 = (cr : Int) ∧ cr < B64 ∧ t29 = (k : Int) ∧ k ≤ lb.length ∧ Own .u64 tU64 w' out (nn l) w.heap.size ∧ out.c ≤ maxLen ∧ l.length = la.length + lb.length ∧ ok B64 l ∧
      (∀ j, i + lb.length ≤ j → j < l.length → l.getD j 0 = 0) ∧ val B64 l + cr * B64 ^ (i + k) = val B64 (la.take i) * val B64 lb + la.getD i 0 * val B64 (lb.take k) * B64 ^ i)
    (fun _ _ _ _ _ _ _ _ _ _ _ _ _ _ _ n k _ => (n - k).toNat) ?_ ?_ ?_
  · rw [hna, hnb, wrap_i64 (by omega) (by omega)]
    refine mkN (by omega) (by omega) ?_
    intro c w1 hc ho h1 hs1
    refine ⟨rfl, rfl, rfl, h1, 0, _, rfl, Nat.zero_le _, ho, by rw [hc]; unfold maxLen; omega, by rw [List.length_replicate]; omega, ok_replicate (by omega) _, fun j h2 h3 => ?_, by rw [val_replicate]; simp [val]⟩
    rw [List.length_replicate] at h3
    simp [List.getD_eq_getElem?_getD, List.getElem?_replicate, h3]
  · rintro t1 out t20 t21 t22 w1 ⟨rfl, rfl, rfl, h1, i, l, rfl, hi, ho, hoc, hl, ol, hz, hv⟩
    refine br_intro (fun hlt => ?_) (fun hge => ?_)
    · have hi' : i < la.length := by simp at hlt; omega
      refine ldN (ha.ahead h1) (by omega) (by omega) ?_
      rw [Int.toNat_natCast]
      exact ⟨rfl, rfl, rfl, rfl, rfl, rfl, by rw [hnb], h1, i, 0, 0, l, rfl, rfl, hi', rfl, rfl, by omega, rfl, Nat.zero_le _, ho, hoc, hl, ol, hz, by simp [val, hv]⟩
    · have hi' : i = la.length := by simp at hge; omega
      subst hi'
      exact ⟨h1, out, l, rfl, .inr ⟨_, Nat.le_refl _, hoc, ho⟩, hl, ol, by rw [hv, List.take_length]⟩
  · rintro o1 o5 o20 o21 o22 ow _ t1 out t6 t7 t8 t20 t21 t22 t27 t28 t29 w1 ⟨rfl, rfl, rfl, rfl, rfl, rfl, rfl, h1, i, k, cr, l, rfl, rfl, hi, rfl, rfl, hcr, rfl, hk, ho, hoc, hl, ol, hz, hv⟩
    have hx := ok_getD oa (by omega : 0 < B64) i
    refine br_intro (fun hlt => ?_) (fun hge => ?_)
    · have hk' : k < lb.length := by simp at hlt; omega
      have e8 : IntKind.i64.wrap ((k : Int) + 1) = ((k + 1 : Nat) : Int) := by rw [wrap_i64 (by omega) (by omega)]; omega
      have hy := ok_getD ob (by omega : 0 < B64) k
      have hoo := ok_getD ol (by omega : 0 < B64) (i + k)
      refine ldN (hb.ahead h1) (by omega) (by omega) ?_
      rw [Int.toNat_natCast]
      refine Calls.mono (Try.bits_Mul64 _ _ (by omega) (by omega) _) ?_
      rintro e w4 ⟨rfl, rfl⟩
      refine ⟨_, _, rfl, ?_⟩
      rw [← B64v]
      refine add64 (c := 0) (by omega) ?_
      rw [wrap_i64 (x := (i : Int) + (k : Int)) (by omega) (by omega), show (i : Int) + (k : Int) = ((i + k : Nat) : Int) by omega]
      refine ldN ho.rd (by omega) (by omega) ?_
      rw [Int.toNat_natCast]
      refine add64 (c := 0) (by omega) ?_
      refine stO ho (by omega) (by omega) ?_
      intro w9 ho9 hon9
      rw [Int.toNat_natCast] at ho9
      obtain ⟨r1, r2⟩ := row_step (la.getD i 0) (lb.getD k 0) (l.getD (i + k) 0) cr hx hy hoo hcr
      simp only [Nat.add_zero] at ho9 ⊢
      have vs := val_set (B := B64) l (i + k) ((l.getD (i + k) 0 + (la.getD i 0 * lb.getD k 0 % B64 + cr) % B64) % B64) (by omega)
      have tk := val_take_succ' lb k (B := B64)
      have hsB : (l.getD (i + k) 0 + (la.getD i 0 * lb.getD k 0 % B64 + cr) % B64) % B64 < B64 := Nat.mod_lt _ (by omega)
      generalize (l.getD (i + k) 0 + (la.getD i 0 * lb.getD k 0 % B64 + cr) % B64) % B64 = s at *
      generalize la.getD i 0 * lb.getD k 0 / B64 = hi' at *
      generalize (la.getD i 0 * lb.getD k 0 % B64 + cr) / B64 = c1 at *
      generalize (l.getD (i + k) 0 + (la.getD i 0 * lb.getD k 0 % B64 + cr) % B64) / B64 = c2 at *
      have ec : IntKind.u64.wrap (IntKind.u64.wrap ((hi' : Int) + (c1 : Int)) + (c2 : Int)) = ((hi' + c1 + c2 : Nat) : Int) := by
        rw [wrap_u64' (x := (hi' : Int) + c1) (by omega) (by omega), wrap_u64' (by omega) (by omega)]; omega
      rw [ec, e8]
      refine ⟨⟨by trivial, by trivial, by trivial, by trivial, by trivial, by trivial, by trivial, hon9.ahead h1 (Nat.le_refl _), i, k + 1, _, _, rfl, rfl, hi, rfl, rfl, r2, rfl, hk', ho9, hoc, by simpa using hl, ok_set ol hsB, fun j h2 h3 => ?_, ?_⟩, by omega⟩
      · rw [List.length_set] at h3
        rw [getD_set _ _ _ _ (by omega), if_neg (by omega)]
        exact hz j h2 h3
      · rw [tk, show i + (k + 1) = i + k + 1 by omega, Nat.pow_succ]
        have e1 : la.getD i 0 * (val B64 (lb.take k) + B64 ^ k * lb.getD k 0) * B64 ^ i = la.getD i 0 * val B64 (lb.take k) * B64 ^ i + B64 ^ (i + k) * (la.getD i 0 * lb.getD k 0) := by
          rw [Nat.mul_add, Nat.add_mul, Nat.pow_add]; congr 1; ac_rfl
        rw [e1, ← Nat.add_assoc, ← hv]
        generalize la.getD i 0 * lb.getD k 0 = xy at *
        generalize l.getD (i + k) 0 = o at *
        generalize B64 ^ (i + k) = P at *
        have e2 : P * s + (hi' + c1 + c2) * (P * B64) = P * o + P * xy + cr * P := by
          have f1 : P * (s + B64 * (hi' + c1 + c2)) = P * s + (hi' + c1 + c2) * (P * B64) := by rw [Nat.mul_add]; congr 1; ac_rfl
          have f2 : P * (o + xy + cr) = P * o + P * xy + cr * P := by rw [Nat.mul_add, Nat.mul_add, Nat.mul_comm P cr]
          rw [← f1, r1, f2]
        omega
    · have hk' : k = lb.length := by simp at hge; omega
      subst hk'
      have e8 : IntKind.i64.wrap ((i : Int) + 1) = ((i + 1 : Nat) : Int) := by rw [wrap_i64 (by omega) (by omega)]; omega
      rw [hnb, wrap_i64 (x := (i : Int) + ((lb.length : Nat) : Int)) (by omega) (by omega), show (i : Int) + ((lb.length : Nat) : Int) = ((i + lb.length : Nat) : Int) by omega]
      refine stO ho (by omega) (by omega) ?_
      intro w9 ho9 hon9
      rw [Int.toNat_natCast] at ho9
      have hzero := hz (i + lb.length) (Nat.le_refl _) (by omega)
      refine ⟨⟨rfl, rfl, rfl, hon9.ahead h1 (Nat.le_refl _), i + 1, _, e8, hi, ho9, hoc, by simpa using hl, ok_set ol hcr, fun j h2 h3 => ?_, ?_⟩, by rw [e8]; omega⟩
      · rw [List.length_set] at h3
        rw [getD_set _ _ _ _ (by omega), if_neg (by omega)]
        exact hz j (by omega) h3
      · have vs := val_set (B := B64) l (i + lb.length) cr (by omega)
        rw [hzero, Nat.mul_zero, Nat.add_zero] at vs
        rw [vs, Nat.mul_comm (B64 ^ (i + lb.length)), hv, List.take_length, val_take_succ', Nat.add_mul]
        congr 1
        ac_rfl

end Mul
end Go.Proofs.Ytindbeolpjkijaa
