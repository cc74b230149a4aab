/- fuel: Attempts, Count, Last, Enough; the law FuelNames. No condition. -/
import Derived.Test.YtflipimlpgbnmaaNatC
import Derived.Test.YtflipimlpgbnmaaLaw1
import Derived.Test.YtflipimlpgbnmaaVcFuel
import Derived.Test.YtflipimlpgbnmaaVcL18
namespace Go.Proofs.Ytflipimlpgbnmaa
open Go Go.RowKit Eng Sp Dg
set_option linter.unusedVariables false
set_option linter.unusedSimpArgs false
set_option maxRecDepth 100000
namespace Nat

/-- Numbers of the call's own, or nil. -/
def OwnI (base : Nat) (w : World) (s : Slc) (l : List Int) : Prop := (s = ⟨none, 0, 0⟩ ∧ l = []) ∨ ∃ b, base ≤ b ∧ s.c ≤ maxLen ∧ Own .i64 tInt w s l b
theorem OwnI.rd {base : Nat} {w : World} {s : Slc} {l : List Int} (h : OwnI base w s l) : Rd .i64 w s l := by
  rcases h with ⟨rfl, rfl⟩ | ⟨b, _, _, h⟩
  · exact Rd.nil
  · exact h.rd
theorem OwnI.ahead {base : Nat} {w w' : World} {s : Slc} {l : List Int} (h : OwnI base w s l) (ha : Ahead w w') : OwnI base w' s l := by
  rcases h with h | ⟨b, h1, h2, h3⟩
  · exact .inl h
  · exact .inr ⟨b, h1, h2, h3.ahead ha⟩
theorem OwnI.mono {base base' : Nat} {w : World} {s : Slc} {l : List Int} (h : OwnI base w s l) (hb : base' ≤ base) : OwnI base' w s l := by
  rcases h with h | ⟨b, h1, h2, h3⟩
  · exact .inl h
  · exact .inr ⟨b, by omega, h2, h3⟩
theorem OwnI.nil {base : Nat} {w : World} : OwnI base w ⟨none, 0, 0⟩ [] := .inl ⟨rfl, rfl⟩

theorem lit_rd (k : IntKind) (t : TypeId) (w : World) (l : List Int) : Rd k (w.alloc (.cells (ints k l).toArray t (0, 0))) ⟨some ⟨w.heap.size, 0, none⟩, l.length, l.length⟩ l :=
  Own.rd (t := t) (b := w.heap.size) ⟨rfl, [], by simp, by rw [get_alloc]; simp⟩

theorem semShlI {x y : Nat} {t : TypeId} {w : World} {K : Int → World → Prop} (hy : y ≤ 64) (hx : x * 2 ^ y < 9223372036854775808) (h : K ((x * 2 ^ y : Nat) : Int) w) :
    semI pr .i64 (binOp .shl t (.int .i64 (x : Int)) (.int .i64 (y : Int))) w K := by
  have e : binOp .shl t (.int .i64 (x : Int)) (.int .i64 (y : Int)) = pure (.int .i64 ((x * 2 ^ y : Nat) : Int)) := by
    rw [binOp_shl, shift_shl_any .i64 .i64 _ _ (by omega)]
    have : min ((y : Int)).toNat IntKind.i64.bits = y := by
      have : IntKind.i64.bits = 64 := rfl
      rw [this]; omega
    rw [this, show (x : Int) * 2 ^ y = ((x * 2 ^ y : Nat) : Int) by push_cast; rfl, wrap_i64 (by omega) (by omega)]
  unfold semI
  rw [e, Sem.wp_iff_run]
  exact ⟨_, rfl, h⟩

/-- The attempts of a fuel: how many, and which. -/
def atts (N : Nat) : Nat := min 16 (bl N - 6)
def tw (k : Nat) : List Int := (List.range k).map fun i => ((64 * 2 ^ i : Nat) : Int)
theorem tw_length (k : Nat) : (tw k).length = k := by simp [tw]
theorem tw_succ (k : Nat) : tw (k + 1) = tw k ++ [((64 * 2 ^ k : Nat) : Int)] := by simp [tw, List.range_succ]
theorem tw_getD {k i : Nat} (h : i < k) : (tw k).getD i 0 = ((64 * 2 ^ i : Nat) : Int) := by simp [tw, h]
theorem atts_lt {N i : Nat} (hi : i < 16) : i < atts N ↔ 64 * 2 ^ i ≤ N := by
  have h := bl_le_iff (n := N) (k := i + 6)
  have e : 2 ^ (i + 6) = 64 * 2 ^ i := by rw [Nat.pow_add]; omega
  rw [e] at h
  unfold atts
  constructor
  · intro h1
    rcases Nat.lt_or_ge N (64 * 2 ^ i) with h2 | h2
    · have := h.2 h2; omega
    · exact h2
  · intro h1
    have : ¬ bl N ≤ i + 6 := fun h2 => by have := h.1 h2; omega
    omega
theorem atts_le (N : Nat) : atts N ≤ 16 := Nat.min_le_left _ _
theorem pow16 {i : Nat} (h : i < 16) : 64 * 2 ^ i ≤ 2097152 := by
  have : 2 ^ i ≤ 2 ^ 15 := Nat.pow_le_pow_right (by omega) (by omega)
  omega

theorem Attempts_spec {w : World} {p : Slc} {N : Nat} (hp : Num w p N) :
    Calls pr fuel_Attempts_id #[p.v] w fun e w' => Ahead w w' ∧ ∃ s, e = .returned (Slc.v s) ∧ OwnI w.heap.size w' s (tw (atts N)) := by
  have hB := B64v
  refine fuel_Attempts_vc p w _ (fun t0 t3 t6 w' => t0 = p ∧ ∃ i : Nat, t6 = (i : Int) ∧ i ≤ atts N ∧ Ahead w w' ∧ OwnI w.heap.size w' t3 (tw i)) (fun _ _ i _ => (16 - i).toNat)
    ⟨rfl, 0, rfl, Nat.zero_le _, Ahead.refl _, OwnI.nil⟩ ?_
  rintro t0 t3 t6 w1 ⟨rfl, i, rfl, hi, ha, ho⟩
  have hle := atts_le N
  refine br_intro (fun hlt => ?_) (fun hge => ?_)
  · have hi16 : i < 16 := by simp at hlt; omega
    have hp16 := pow16 hi16
    refine semShlI (x := 64) (by omega) (by omega) ?_
    rw [wrap_u64' (by omega) (by omega)]
    refine Calls.mono (From_spec (v := 64 * 2 ^ i) (by omega)) ?_
    rintro e w2 ⟨ha2, s, rfl, hs⟩
    have hbl : bl (64 * 2 ^ i) ≤ 67108864 := Nat.le_trans (bl_le (k := 22) (by omega)) (by omega)
    refine ⟨_, rfl, Calls.mono (cmp_num (hp.ahead (ha.trans ha2)) (own_num hs hbl)) ?_⟩
    rintro e w3 ⟨ha3, rfl⟩
    refine ⟨_, rfl, br_intro (fun hc => ?_) (fun hc => ?_)⟩
    · have : N < 64 * 2 ^ i := by simpa [cmpI_neg] using hc
      have h2 := (atts_lt (N := N) hi16)
      have : i = atts N := by omega
      subst this
      exact ⟨(ha.trans ha2).trans ha3, _, rfl, (ho.ahead ha2).ahead ha3⟩
    · have hN : 64 * 2 ^ i ≤ N := by
        simp only [decide_eq_false_iff_not, cmpI_neg] at hc; omega
      have h2 := (atts_lt (N := N) hi16).2 hN
      have ha03 := (ha.trans ha2).trans ha3
      have hal := Ahead.alloc w3 (.cells #[Value.int .i64 ((64 * 2 ^ i : Nat) : Int)] tInt (0, 0))
      have ho4 := ((ho.ahead ha2).ahead ha3).ahead hal
      refine app (t := _) (e := tInt) (k := .i64) (l := tw i) (ys := [((64 * 2 ^ i : Nat) : Int)]) (base := w.heap.size) (by kernel_rfl) (lit_rd .i64 tInt w3 [((64 * 2 ^ i : Nat) : Int)]) (by simp)
        ho4 (ha03.trans hal).size (by simp [tw_length]; omega) ?_
      intro s' w5 b' hb' hc' hown hbel hah
      have e8 : IntKind.i64.wrap ((i : Int) + 1) = ((i + 1 : Nat) : Int) := by rw [wrap_i64 (by omega) (by omega)]; omega
      refine ⟨⟨rfl, i + 1, e8, h2, ?_, .inr ⟨b', hb', hc', by rw [tw_succ]; exact hown⟩⟩, by rw [e8]; omega⟩
      refine hah w (ha03.trans hal) fun b hb => ?_
      rcases ho with ⟨rfl, _⟩ | ⟨b2, h1, _, h3⟩
      · simp at hb
      · rw [h3.A] at hb; simp at hb; omega
  · have : i = atts N := by simp at hge; omega
    subst this
    exact ⟨ha, _, rfl, ho⟩

theorem num_spec {w : World} {c : Int} : Calls pr surdlaw18_num_id #[.int .i64 c] w fun e w' => w' = w ∧ e = .returned (.int .i64 c) :=
  surdlaw18_num_vc c w _ ⟨rfl, rfl⟩

theorem alike_spec {w : World} {s t : Slc} {l : List Int} (hs : Rd .i64 w s l) (ht : Rd .i64 w t l) (hl : l.length ≤ 2 ^ 46) :
    Calls pr surdlaw18_alike_id #[s.v, t.v] w fun e w' => Ahead w w' ∧ e = .returned (.bool true) := by
  refine surdlaw18_alike_vc s t w _ (fun p q n i w' => p = s ∧ q = t ∧ n = (l.length : Int) ∧ Ahead w w' ∧ ∃ j : Nat, i = (j : Int) ∧ j ≤ l.length) (fun _ _ n i _ => (n - i).toNat) ?_ ?_
  · refine br_false (by rw [hs.n, ht.n]; simp) ?_
    exact ⟨rfl, rfl, by rw [hs.n], Ahead.refl _, 0, rfl, Nat.zero_le _⟩
  · rintro p q n i w1 ⟨rfl, rfl, rfl, ha, j, rfl, hj⟩
    refine br_intro (fun hlt => ?_) (fun hge => ?_)
    · have hj' : j < l.length := by simpa using hlt
      refine ix_fix (e := tInt) (k := .i64) (by kernel_rfl) (hs.ahead ha) (by omega) (by omega) ?_
      refine ix_fix (e := tInt) (k := .i64) (by kernel_rfl) (ht.ahead ha) (by omega) (by omega) ?_
      intro w2 ha2
      have e8 : IntKind.i64.wrap ((j : Int) + 1) = ((j + 1 : Nat) : Int) := by rw [wrap_i64 (by omega) (by omega)]; omega
      exact br_false (by simp) ⟨⟨rfl, rfl, rfl, ha.trans ha2, j + 1, e8, hj'⟩, by rw [e8]; omega⟩
    · exact ⟨ha, rfl⟩

theorem awake_spec (w : World) : Calls pr surdlaw18_awake_id #[] w (Yes w) := by
  have hB := B64v
  refine surdlaw18_awake_vc w _ ?_
  have r1 := one_rd w 1000
  have hn : Num (w.alloc (.cells #[.int .u64 ((1000 : Nat) : Int)] tU64 (0, 0))) ⟨some ⟨w.heap.size, 0, none⟩, 1, 1⟩ 1000 := ⟨[1000], r1, by simp, ok_one (by omega), val_one _⟩
  refine Calls.mono (Attempts_spec hn) ?_
  rintro e w2 ⟨ha, s, rfl, hs⟩
  have hat : atts 1000 = 4 := by
    have : bl 1000 = 10 := bl_eq (k := 9) (by omega) (by omega)
    rw [atts, this]; rfl
  rw [hat] at hs
  refine ⟨_, rfl, ?_⟩
  have r3 := lit_rd .i64 tInt w2 [64, 128, 256, 512]
  refine Calls.mono (alike_spec (hs.rd.ahead (Ahead.alloc _ _)) r3 (by rw [tw_length]; omega)) ?_
  rintro e w4 ⟨ha4, rfl⟩
  exact ⟨_, rfl, rfl, (((Ahead.alloc _ _).trans ha).trans (Ahead.alloc _ _)).trans ha4⟩

theorem end_awake {w0 w : World} (ha : Ahead w0 w) : Calls pr surdlaw18_awake_id #[] w fun e w' => ∃ b : Bool, e = .returned (.bool b) ∧ Yes w0 (.returned (.bool b)) w' :=
  Calls.mono (awake_spec w) fun e w' ⟨he, h⟩ => ⟨true, he, rfl, ha.trans h⟩

theorem FuelNames_ok (w : World) : Calls pr surdlaw18_FuelNames_id #[] w (Yes w) := by
  refine surdlaw18_FuelNames_vc w _ ?_
  refine Calls.mono num_spec ?_
  rintro e w1 ⟨rfl, rfl⟩
  refine ⟨_, rfl, br_true rfl (Calls.mono num_spec ?_)⟩
  rintro e w1 ⟨rfl, rfl⟩
  refine ⟨_, rfl, br_true rfl (Calls.mono num_spec ?_)⟩
  rintro e w1 ⟨rfl, rfl⟩
  exact ⟨_, rfl, br_true rfl (end_awake (Ahead.refl _))⟩

end Nat
end Go.Proofs.Ytflipimlpgbnmaa
