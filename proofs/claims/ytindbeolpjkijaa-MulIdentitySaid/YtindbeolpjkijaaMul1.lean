/- The contracts of mul's inner functions: part, addAt, sum, less, school. No condition. -/
import Derived.Test.YtindbeolpjkijaaNatC
import Derived.Test.YtindbeolpjkijaaVcMul
import Derived.Laws.CopyRow
namespace Go.Proofs.Ytindbeolpjkijaa
open Go Go.RowKit Eng Sp Dg
set_option linter.unusedVariables false
set_option linter.unusedSimpArgs false
set_option maxRecDepth 100000
namespace Mul
open _root_.Go.Proofs.Ytindbeolpjkijaa.Nat (ldN ldNf stN mkN Fill mkF stF stFf Num OwnNil add64 sub64)

/-- No block but k has changed. -/
def Only (k : Nat) (w w' : World) : Prop := w'.os = w.os ∧ w'.tape = w.tape ∧ w'.output = w.output ∧ w'.heap.size = w.heap.size ∧ ∀ j, j ≠ k → w'.heap[j]? = w.heap[j]?
theorem Only.refl (k : Nat) (w : World) : Only k w w := ⟨rfl, rfl, rfl, rfl, fun _ _ => rfl⟩
theorem Only.trans {k : Nat} {a b c : World} (h : Only k a b) (h' : Only k b c) : Only k a c :=
  ⟨h'.1.trans h.1, h'.2.1.trans h.2.1, h'.2.2.1.trans h.2.2.1, h'.2.2.2.1.trans h.2.2.2.1, fun j hj => (h'.2.2.2.2 j hj).trans (h.2.2.2.2 j hj)⟩
theorem Only.setCell (k i : Nat) (w : World) (v : Value) : Only k w (w.setCell ⟨k, i, none⟩ v) :=
  ⟨rfl, rfl, rfl, by simp [World.setCell], fun j hj => Below.heap_setCell _ _ _ _ (by simpa using hj)⟩
theorem Only.setRow (k : Nat) (w : World) (c : Array Value) : Only k w (w.setRow k c) :=
  ⟨rfl, rfl, rfl, by simp [World.setRow], fun j hj => setRow_other w k j _ hj⟩
theorem Only.ahead {k : Nat} {w0 w w' : World} (h : Only k w w') (ha : Ahead w0 w) (hk : w0.heap.size ≤ k) : Ahead w0 w' :=
  Below.trans ha ⟨h.1, h.2.1, h.2.2.1, by rw [h.2.2.2.1]; exact Nat.le_refl _, fun j hj => h.2.2.2.2 j (by omega)⟩
/-- The slice's cells lie outside the block. -/
def Off (k : Nat) (s : Slc) : Prop := ∀ ad, s.A = some ad → 0 < s.n → ad.block ≠ k
theorem add_block (a : Addr) (i : Nat) : (a.add i).block = a.block := by unfold Addr.add; split <;> rfl
theorem Only.rd {k : Nat} {w w' : World} (h : Only k w w') {s : Slc} {l : List Int} {kd : IntKind} (hr : Rd kd w s l) (ho : Off k s) : Rd kd w' s l :=
  ⟨hr.n, hr.c, fun i hi => by
    obtain ⟨ad, e, hc⟩ := hr.get i hi
    refine ⟨ad, e, ?_⟩
    rw [World.cell?_of_block (w := w)]
    · exact hc
    · rw [add_block]; exact h.2.2.2.2 _ (ho ad e (by rw [hr.n]; omega))⟩
theorem Only.own {k : Nat} {w w' : World} (h : Only k w w') {s : Slc} {l : List Int} {kd : IntKind} {t : TypeId} {b : Nat} (hr : Own kd t w s l b) (ho : b ≠ k) : Own kd t w' s l b := by
  obtain ⟨sp, hc, hm⟩ := hr.mem
  exact ⟨hr.hd, sp, hc, by rw [h.2.2.2.2 b ho]; exact hm⟩
theorem Only.ownNil {k base : Nat} {w w' : World} (h : Only k w w') {s : Slc} {l : List Nat} (hr : OwnNil base w s l) (ho : k < base) : OwnNil base w' s l := by
  rcases hr with h1 | ⟨b, h1, h2, h3⟩
  · exact .inl h1
  · exact .inr ⟨b, h1, h2, h.own h3 (by omega)⟩
theorem off_new {k base : Nat} {w : World} {s : Slc} {l : List Nat} (hr : OwnNil base w s l) (ho : k < base) : Off k s := by
  intro ad e _
  rcases hr with ⟨rfl, _⟩ | ⟨b, h1, _, h3⟩
  · cases e
  · have := Option.some.inj (h3.A.symm.trans e)
    rw [← this]; simp only; omega

theorem stO {t : TypeId} {w : World} {s : Slc} {l : List Nat} {b : Nat} (h : Own .u64 tU64 w s (nn l) b) {i : Int} (h0 : 0 ≤ i) (h1 : i < l.length) {x : Nat} {K : World → Prop}
    (hk : ∀ w', Own .u64 tU64 w' s (nn (l.set i.toNat x)) b → Only b w w' → K w')
    (hT : isSl pr t .u64 = some tU64 := by kernel_rfl) : semA pr (Instr.indexAt t s.v (.int .i64 i)) w fun ad w1 => stC ad (.int .u64 (x : Int)) w1 fun w2 => K w2 := by
  have hi : i.toNat < (nn l).length := by rw [nn_length]; omega
  unfold semA
  rw [Sem.wp_iff_run, run_indexAt hT w s i _ h.A h0 (by rw [h.n, nn_length]; exact h1)]
  refine ⟨_, rfl, ?_⟩
  rw [add_off]
  have := h.set hi (x : Int)
  rw [nn_set] at this
  exact ⟨⟨_, h.cell hi⟩, h.frozen _, hk _ this (Only.setCell b _ w _)⟩

/-- What is read at a place: an addition with a carry stays within the limbs. -/
theorem addAt_spec {w : World} {c b : Slc} {l m : List Nat} {k at_ : Nat} (hc : Own .u64 tU64 w c (nn l) k) (hb : Rd .u64 w b (nn m)) (ho : Off k b) (ol : ok B64 l) (om : ok B64 m) (ll : l.length ≤ 2 ^ 46) (lm : m.length ≤ 2 ^ 46)
    (hat : at_ ≤ l.length) (hfit : val B64 l + val B64 m * B64 ^ at_ < B64 ^ l.length) :
    Calls pr mul_addAt_id #[c.v, b.v, .int .i64 (at_ : Int)] w fun e w' => e = .returned (.tuple #[]) ∧ Only k w w' ∧ ∃ l', Own .u64 tU64 w' c (nn l') k ∧ l'.length = l.length ∧ ok B64 l' ∧ val B64 l' = val B64 l + val B64 m * B64 ^ at_ := by
  have hB := B64v
  have hcn : c.n = l.length := by rw [hc.n, nn_length]
  have hbn : b.n = m.length := by rw [hb.n, nn_length]
  refine mul_addAt_vc c b at_ w _ (fun t0 t1 t2 t6 t7 w' => t0 = c ∧ t1 = b ∧ t2 = (at_ : Int) ∧ ∃ (j cr : Nat) (l' : List Nat), t7 = ((at_ + j : Nat) : Int) ∧ at_ + j ≤ l.length ∧ t6 = (cr : Int) ∧ cr ≤ 1 ∧ Only k w w' ∧ Own .u64 tU64 w' c (nn l') k ∧ l'.length = l.length ∧ ok B64 l' ∧
    val B64 l' + cr * B64 ^ (at_ + j) = val B64 l + val B64 (m.take j) * B64 ^ at_) (fun t0 _ _ _ i _ => ((t0.n : Int) - i).toNat)
    ⟨rfl, rfl, rfl, 0, 0, l, rfl, hat, rfl, by omega, Only.refl _ _, hc, rfl, ol, by simp [val]⟩ ?_
  rintro t0 t1 t2 t6 t7 w1 ⟨rfl, rfl, rfl, j, cr, l', rfl, hj, rfl, hcr, hon, hc1, hl', ol', hv⟩
  have hb1 := hon.rd hb ho
  have ei : IntKind.i64.wrap (((at_ + j : Nat) : Int) - (at_ : Int)) = (j : Int) := by rw [wrap_i64 (by omega) (by omega)]; omega
  have e8 : IntKind.i64.wrap (((at_ + j : Nat) : Int) + 1) = ((at_ + (j + 1) : Nat) : Int) := by rw [wrap_i64 (by omega) (by omega)]; omega
  rw [ei, e8]
  -- a round
  have round : ∀ y : Nat, y < B64 → y = m.getD j 0 → at_ + j < l.length → ∀ w2, w2 = w1 → semA pr (Instr.indexAt 32 t0.v (.int .i64 ((at_ + j : Nat) : Int))) w2 fun ad2 w2 => ldI .u64 ad2 w2 fun x2 =>
      Sem.wp pr (callFunc bits_Add64_id #[.int .u64 x2, .int .u64 (y : Int), .int .u64 (cr : Int)]) (fun n1 w3 => ∃ x3 : Int, ∃ x4 : Int, n1 = .value (.tuple #[.int .u64 x3, .int .u64 x4]) ∧
        (semA pr (Instr.indexAt 32 t0.v (.int .i64 ((at_ + j : Nat) : Int))) w3 fun ad3 w4 => stC ad3 (.int .u64 x3) w4 fun w5 =>
          (t0 = t0 ∧ t1 = t1 ∧ (at_ : Int) = (at_ : Int) ∧ ∃ (j' cr : Nat) (l' : List Nat), ((at_ + (j + 1) : Nat) : Int) = ((at_ + j' : Nat) : Int) ∧ at_ + j' ≤ l.length ∧ x4 = (cr : Int) ∧ cr ≤ 1 ∧ Only k w w5 ∧ Own .u64 tU64 w5 t0 (nn l') k ∧ l'.length = l.length ∧ ok B64 l' ∧
    val B64 l' + cr * B64 ^ (at_ + j') = val B64 l + val B64 (m.take j') * B64 ^ at_) ∧ ((t0.n : Int) - ((at_ + (j + 1) : Nat) : Int)).toNat < ((t0.n : Int) - ((at_ + j : Nat) : Int)).toNat)) (fun _ _ => False) w2 := by
    rintro y hy hym hlt w2 rfl
    refine ldN hc1.rd (by omega) (by omega) ?_
    rw [Int.toNat_natCast]
    have hx := ok_getD ol' (by omega : 0 < B64) (at_ + j)
    refine add64 hcr ?_
    refine stO hc1 (by omega) (by omega) ?_
    intro w5 ho5 hon5
    rw [Int.toNat_natCast] at ho5
    have hq1 : (l'.getD (at_ + j) 0 + y + cr) / B64 ≤ 1 := by
      have : l'.getD (at_ + j) 0 + y + cr < 2 * B64 := by omega
      have := (Nat.div_lt_iff_lt_mul (by omega : 0 < B64)).2 this
      omega
    refine ⟨⟨rfl, rfl, rfl, j + 1, _, _, rfl, by omega, rfl, hq1, hon.trans hon5, ho5, by simpa using hl', ok_set ol' (Nat.mod_lt _ (by omega)), ?_⟩, by omega⟩
    have vs := val_set (B := B64) l' (at_ + j) ((l'.getD (at_ + j) 0 + y + cr) % B64) (by omega)
    have dm := Nat.mod_add_div (l'.getD (at_ + j) 0 + y + cr) B64
    rw [val_take_succ', ← hym, Nat.add_mul, show at_ + (j + 1) = at_ + j + 1 by omega, Nat.pow_succ, show B64 ^ j * y * B64 ^ at_ = B64 ^ (at_ + j) * y by rw [Nat.pow_add]; ac_rfl]
    generalize (l'.getD (at_ + j) 0 + y + cr) % B64 = s at *
    generalize (l'.getD (at_ + j) 0 + y + cr) / B64 = q at *
    generalize l'.getD (at_ + j) 0 = x at *
    generalize B64 ^ (at_ + j) = P at *
    have e : P * s + q * (P * B64) = P * x + P * y + cr * P := by
      have : P * (s + B64 * q) = P * (x + y + cr) := by rw [dm]
      rw [Nat.mul_add, Nat.mul_add, Nat.mul_add] at this
      rw [Nat.mul_comm cr P, ← this]
      ac_rfl
    omega
  -- at the end nothing is left
  have fin : (¬ (at_ + j < l.length)) ∨ (m.length ≤ j ∧ cr = 0) → (Ending.returned (Value.tuple #[]) = .returned (.tuple #[]) ∧ Only k w w1 ∧ ∃ l'', Own .u64 tU64 w1 t0 (nn l'') k ∧ l''.length = l.length ∧ ok B64 l'' ∧ val B64 l'' = val B64 l + val B64 m * B64 ^ at_) := by
    intro h
    refine ⟨rfl, hon, l', hc1, hl', ol', ?_⟩
    have hle : val B64 (m.take j) ≤ val B64 m := by rw [val_take_drop m (min j m.length) (Nat.min_le_right _ _)]; rw [show m.take (min j m.length) = m.take j by rw [Nat.min_def]; split; rfl; rw [List.take_of_length_le (Nat.le_refl _), List.take_of_length_le (by omega)]]; omega
    rcases h with h | ⟨h, rfl⟩
    · have he : at_ + j = l.length := by omega
      rw [he] at hv
      have h2 : val B64 (m.take j) * B64 ^ at_ ≤ val B64 m * B64 ^ at_ := Nat.mul_le_mul_right _ hle
      have h3 : cr = 0 := by
        rcases Nat.lt_or_ge cr 1 with h4 | h4
        · omega
        · have : cr = 1 := by omega
          subst this
          omega
      subst h3
      have h5 : val B64 m = val B64 (m.take j) := by
        rcases Nat.lt_or_ge j m.length with hjm | hjm
        · -- the limbs behind j are worth at least B^(at+j)
          rw [val_take_drop m j (by omega)] at hfit ⊢
          rcases Nat.eq_zero_or_pos (val B64 (m.drop j)) with hz | hp
          · rw [hz]; simp
          · exfalso
            have : B64 ^ l.length ≤ B64 ^ j * val B64 (m.drop j) * B64 ^ at_ := by
              rw [← he, Nat.pow_add, Nat.mul_comm (B64 ^ at_)]
              exact Nat.mul_le_mul_right _ (Nat.le_mul_of_pos_right _ hp)
            rw [Nat.add_mul] at hfit
            omega
        · rw [List.take_of_length_le hjm]
      rw [h5]; omega
    · rw [List.take_of_length_le h] at hv
      omega
  refine br_intro (fun hlt => ?_) (fun hge => ?_)
  · have hlt' : at_ + j < l.length := by simp at hlt; omega
    refine br_intro (fun hin => ?_) (fun hin => ?_)
    · have hin' : j < m.length := by simp at hin; omega
      refine br_true hin ?_
      refine ldN hb1 (by omega) (by omega) ?_
      rw [Int.toNat_natCast]
      exact round _ (ok_getD om (by omega) j) rfl hlt' _ rfl
    · have hin' : m.length ≤ j := by simp at hin; omega
      refine br_intro (fun hp => ?_) (fun hp => ?_)
      · exact br_false hin (round 0 (by omega) (getD_ge _ _ hin').symm hlt' _ rfl)
      · exact fin (.inr ⟨hin', by simp at hp; omega⟩)
  · exact fin (.inl (by simp at hge; omega))

end Mul
end Go.Proofs.Ytindbeolpjkijaa
