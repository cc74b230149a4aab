/- The contracts of the reference's naturals: Shl, Shr, Low; Lend and Kept. No condition. -/
import Derived.Test.YtaflfjbhlgbmdaaDoorRef2
namespace Go.Proofs.YtaflfjbhlgbmdaaDoor
open Go Go.RowKit Eng Sp Dg
set_option linter.unusedVariables false
set_option linter.unusedSimpArgs false
set_option maxRecDepth 100000
namespace Ref
open _root_.Go.Proofs.YtaflfjbhlgbmdaaDoor.Nat (ldN ldNf stN mkN cutHi cutLo cutCap Fill mkF stF stFf Num OwnNil semShl semShr fixShl)

theorem tdiv32 {n : Int} (h0 : 0 ≤ n) (h1 : n ≤ 9223372036854775807) : IntKind.i64.wrap (Int.tdiv n 32) = ((n.toNat / 32 : Nat) : Int) := by
  have : Int.tdiv n 32 = ((n.toNat / 32 : Nat) : Int) := by rw [Int.tdiv_eq_ediv_of_nonneg h0]; omega
  rw [this, wrap_i64 (by omega) (by omega)]
theorem tmod32 {n : Int} (h0 : 0 ≤ n) : Int.tmod n 32 = ((n.toNat % 32 : Nat) : Int) := by rw [Int.tmod_eq_emod_of_nonneg h0]; omega


theorem shr_digit (U s : Nat) (hs : s < 32) : (U % 2 ^ 32 + 2 ^ 32 * (U / 2 ^ 32 % 2 ^ 32)) / 2 ^ s % 2 ^ 32 = U / 2 ^ s % 2 ^ 32 := by
  have e1 : 2 ^ 32 * 2 ^ 32 = 2 ^ s * 2 ^ (64 - s) := by rw [← Nat.pow_add, ← Nat.pow_add]; congr 1; omega
  have e2 : 2 ^ (64 - s) = 2 ^ 32 * 2 ^ (32 - s) := by rw [← Nat.pow_add]; congr 1; omega
  have e3 : U % 2 ^ 32 + 2 ^ 32 * (U / 2 ^ 32 % 2 ^ 32) = U % (2 ^ s * 2 ^ (64 - s)) := by rw [← e1]; exact (Nat.mod_mul).symm
  rw [e3, Nat.mod_mul_right_div_self, e2, Nat.mod_mul_right_mod]


theorem len_mono {B x y : Nat} (hB : 2 ≤ B) (h : x ≤ y) : (digs B x).length ≤ (digs B y).length := by
  rcases Nat.lt_or_ge (digs B y).length (digs B x).length with h1 | h1
  · have := digs_len_lt hB h1; omega
  · exact h1


/-! ### memory that is lent -/
def A5 : Nat := 10855845
theorem ext_getD {l m : List Nat} (hl : l.length = m.length) (h : ∀ i, i < l.length → l.getD i 0 = m.getD i 0) : l = m := by
  refine List.ext_getElem hl fun i h1 h2 => ?_
  have := h i h1
  rw [getD_lt _ _ h1, getD_lt _ _ h2] at this
  exact this
def lent (l : List Nat) : List Nat := A5 :: A5 :: (l ++ [A5, A5])
theorem lent_length (l : List Nat) : (lent l).length = l.length + 4 := by simp [lent]
theorem lent_getD (l : List Nat) {i : Nat} (h : i < l.length + 4) : (lent l).getD i 0 = if 2 ≤ i ∧ i < l.length + 2 then l.getD (i - 2) 0 else A5 := by
  unfold lent
  rcases i with _ | _ | i
  · simp
  · simp
  · rw [List.getD_cons_succ, List.getD_cons_succ]
    by_cases hi : i < l.length
    · rw [if_pos (by omega)]
      simp [List.getD_eq_getElem?_getD, List.getElem?_append, hi]
    · rw [if_neg (by omega)]
      have : i = l.length ∨ i = l.length + 1 := by omega
      rcases this with rfl | rfl <;> simp [List.getD_eq_getElem?_getD, List.getElem?_append]

/-- What Lend hands out: the whole row, and the part in its middle. -/
def Lent (base : Nat) (w : World) (s t : Slc) (l : List Nat) : Prop :=
  ∃ b, base ≤ b ∧ s.c = l.length + 4 ∧ Own .u64 tU64 w s (nn (lent l)) b ∧ t = ⟨some ⟨b, 2, none⟩, l.length, l.length + 2⟩
theorem Lent.whole {base : Nat} {w : World} {s t : Slc} {l : List Nat} (h : Lent base w s t l) : Rd .u64 w s (nn (lent l)) := by
  obtain ⟨b, _, _, ho, _⟩ := h; exact ho.rd
theorem Lent.part {base : Nat} {w : World} {s t : Slc} {l : List Nat} (h : Lent base w s t l) : Rd .u64 w t (nn l) := by
  obtain ⟨b, _, hc, ho, rfl⟩ := h
  refine ⟨by simp, by simp, fun i hi => ⟨_, rfl, ?_⟩⟩
  have hi' : i < l.length := by simpa using hi
  have e : (⟨b, 2, none⟩ : Addr).add i = ⟨b, 2 + i, none⟩ := by
    rw [show (⟨b, 2, none⟩ : Addr) = (⟨b, 0, none⟩ : Addr).add 2 from rfl, add_add, add_off]
  rw [e, ho.cell (i := 2 + i) (by rw [nn_length, lent_length]; omega), nn_getD, nn_getD, lent_getD l (by omega), if_pos (by omega), show 2 + i - 2 = i by omega]
theorem Lent.ahead {base : Nat} {w w' : World} {s t : Slc} {l : List Nat} (h : Lent base w s t l) (ha : Ahead w w') : Lent base w' s t l := by
  obtain ⟨b, h1, h2, h3, h4⟩ := h
  exact ⟨b, h1, h2, h3.ahead ha, h4⟩

theorem Lend_spec {w : World} {s : Slc} {l : List Nat} (h : Rd .u64 w s (nn l)) (hl : l.length * 8 ≤ 140737488351232) (hok : ok B64 l) :
    Calls pr surdref01_Lend_id #[s.v] w fun e w' => Ahead w w' ∧ ∃ s' t, e = .returned (.tuple #[Slc.v s', Slc.v t]) ∧ Lent w.heap.size w' s' t l := by
  have hn : s.n = l.length := by rw [h.n, nn_length]
  refine surdref01_Lend_vc s w _
    (fun p c n i w' => p = s ∧ n = ((l.length + 4 : Nat) : Int) ∧ ∃ (L : List Nat) (j : Nat), i = (j : Int) ∧ j ≤ l.length + 4 ∧ c.c = l.length + 4 ∧ Fill w w' c L (fun w' => Rd .u64 w' s (nn l)) ∧ L.length = l.length + 4 ∧ ∀ k, k < j → L.getD k 0 = A5) (fun _ _ n i _ => (n - i).toNat)
    (fun p c q n i w' => p = s ∧ q = s ∧ n = (l.length : Int) ∧ ∃ (L : List Nat) (j : Nat), i = (j : Int) ∧ j ≤ l.length ∧ c.c = l.length + 4 ∧ Fill w w' c L (fun w' => Rd .u64 w' s (nn l)) ∧ L.length = l.length + 4 ∧
      ∀ k, k < l.length + 4 → L.getD k 0 = if 2 ≤ k ∧ k < j + 2 then l.getD (k - 2) 0 else A5) (fun _ _ _ n i _ => (n - i).toNat) ?_ ?_ ?_
  · rw [hn, wrap_i64 (by omega) (by omega)]
    refine mkN (by omega) (by omega) ?_
    intro c w1 hc ho ha hs
    refine ⟨rfl, ?_, _, 0, rfl, Nat.zero_le _, by rw [hc]; omega, ⟨_, w, ho, by rw [hc]; unfold maxLen; omega, Nat.le_refl _, ha, ha, Nat.le_refl _, h⟩, by rw [List.length_replicate]; omega, fun k hk => by omega⟩
    have := ho.n
    rw [nn_length, List.length_replicate] at this
    omega
  · rintro p c n i w1 ⟨rfl, rfl, L, j, rfl, hj, hc, hf, hL, hd⟩
    refine br_intro (fun hlt => ?_) (fun hge => ?_)
    · have hj' : j < l.length + 4 := by simp at hlt; omega
      have e8 : IntKind.i64.wrap ((j : Int) + 1) = ((j + 1 : Nat) : Int) := by rw [wrap_i64 (by omega) (by omega)]; omega
      refine stF (x := A5) hf (by omega) (by omega) ?_
      intro w3 hf3
      rw [Int.toNat_natCast] at hf3
      refine ⟨⟨rfl, rfl, _, j + 1, e8, hj', hc, hf3, by simpa using hL, fun k hk => ?_⟩, by rw [e8]; omega⟩
      rw [getD_set _ _ _ _ (by omega)]
      split
      · rfl
      · exact hd k (by omega)
    · have hj' : j = l.length + 4 := by simp at hge; omega
      subst hj'
      refine ⟨rfl, rfl, by rw [hn], L, 0, rfl, Nat.zero_le _, hc, hf, hL, fun k hk => ?_⟩
      rw [if_neg (by omega)]
      exact hd k hk
  · rintro p c q n i w1 ⟨rfl, rfl, rfl, L, j, rfl, hj, hc, hf, hL, hd⟩
    refine br_intro (fun hlt => ?_) (fun hge => ?_)
    · have hj' : j < l.length := by simp at hlt; omega
      have e8 : IntKind.i64.wrap ((j : Int) + 1) = ((j + 1 : Nat) : Int) := by rw [wrap_i64 (by omega) (by omega)]; omega
      refine ldN (h.ahead hf.base) (by omega) (by omega) ?_
      rw [wrap_i64 (x := (j : Int) + 2) (by omega) (by omega), Int.toNat_natCast]
      refine stF hf (by omega) (by omega) ?_
      intro w3 hf3
      rw [show ((j : Int) + 2).toNat = j + 2 by omega] at hf3
      refine ⟨⟨rfl, rfl, rfl, _, j + 1, e8, hj', hc, hf3, by simpa using hL, fun k hk => ?_⟩, by rw [e8]; omega⟩
      rw [getD_set _ _ _ _ (by omega)]
      split
      · rename_i hk2
        subst hk2
        rw [if_pos (by omega), Nat.add_sub_cancel]
      · rw [hd k hk]
        by_cases hk2 : 2 ≤ k ∧ k < j + 2
        · rw [if_pos hk2, if_pos (by omega)]
        · rw [if_neg hk2, if_neg (by omega)]
    · have hj' : j = l.length := by simp at hge; omega
      subst hj'
      have hLl : L = lent l := ext_getD (by rw [hL, lent_length]) fun i hi => by rw [hd i (by omega), lent_getD l (by omega)]
      rw [hn, wrap_i64 (x := ((l.length : Nat) : Int) + 2) (by omega) (by omega)]
      refine ⟨_, fun w' _ => run_slice_both (e := tU64) (k := .u64) (by kernel_rfl) w' c (by omega) (by omega) (by omega), ?_⟩
      intro w7 ha7
      obtain ⟨b, w2, ho, h2, h3, h4, _⟩ := hf
      refine ⟨h4.trans ha7, _, _, rfl, b, h3, hc, by rw [← hLl]; exact ho.ahead ha7, ?_⟩
      rw [hc, ho.A, show ((2 : Int)).toNat = 2 from rfl, if_neg (by omega)]
      congr 1

theorem Kept_spec {w : World} {s t : Slc} {l : List Nat} (hs : Rd .u64 w s (nn (lent l))) (ht : Rd .u64 w t (nn l)) (hl : l.length * 8 ≤ 140737488351232) :
    Calls pr surdref01_Kept_id #[s.v, t.v] w fun e w' => w' = w ∧ e = .returned (.bool true) := by
  have hn : s.n = l.length + 4 := by rw [hs.n, nn_length, lent_length]
  have hm : t.n = l.length := by rw [ht.n, nn_length]
  refine surdref01_Kept_vc s t w _ (fun p q n i w' => w' = w ∧ p = t ∧ q = s ∧ n = ((l.length + 4 : Nat) : Int) ∧ ∃ j : Nat, i = (j : Int) ∧ j ≤ l.length + 4) (fun _ _ n i _ => (n - i).toNat) ?_ ?_
  · rw [hn, hm, wrap_i64 (x := (l.length : Int) + 4) (by omega) (by omega)]
    exact br_false (by simp) ⟨rfl, rfl, rfl, rfl, 0, rfl, Nat.zero_le _⟩
  · rintro p q n i w1 ⟨rfl, rfl, rfl, rfl, j, rfl, hj⟩
    refine br_intro (fun hlt => ?_) (fun hge => ?_)
    · have hj' : j < l.length + 4 := by simp at hlt; omega
      have e8 : IntKind.i64.wrap ((j : Int) + 1) = ((j + 1 : Nat) : Int) := by rw [wrap_i64 (by omega) (by omega)]; omega
      refine ldN hs (by omega) (by rw [lent_length]; omega) ?_
      rw [Int.toNat_natCast, lent_getD l hj', hm, wrap_i64 (x := ((l.length : Nat) : Int) + 2) (by omega) (by omega)]
      have go : (w1 = w1 ∧ p = p ∧ q = q ∧ ((l.length + 4 : Nat) : Int) = ((l.length + 4 : Nat) : Int) ∧ ∃ j' : Nat, IntKind.i64.wrap ((j : Int) + 1) = (j' : Int) ∧ j' ≤ l.length + 4) ∧
          (((l.length + 4 : Nat) : Int) - IntKind.i64.wrap ((j : Int) + 1)).toNat < (((l.length + 4 : Nat) : Int) - (j : Int)).toNat :=
        ⟨⟨rfl, rfl, rfl, rfl, j + 1, e8, hj'⟩, by rw [e8]; omega⟩
      refine br_intro (fun h2 => ?_) (fun h2 => ?_)
      · have h2' : j < 2 := by simp at h2; omega
        rw [if_neg (by omega)]
        exact br_false (by simp [A5]) go
      · have h2' : 2 ≤ j := by simp at h2; omega
        refine br_intro (fun h3 => ?_) (fun h3 => ?_)
        · have h3' : l.length + 2 ≤ j := by simp at h3; omega
          rw [if_neg (by omega)]
          exact br_false (by simp [A5]) go
        · have h3' : j < l.length + 2 := by simp at h3; omega
          rw [if_pos ⟨h2', h3'⟩, wrap_i64 (x := (j : Int) - 2) (by omega) (by omega)]
          refine ldN ht (by omega) (by omega) ?_
          rw [show ((j : Int) - 2).toNat = j - 2 by omega]
          exact br_false (by simp) go
    · exact ⟨rfl, rfl⟩

end Ref
end Go.Proofs.YtaflfjbhlgbmdaaDoor
