/- The law FuelReaches. No condition. -/
import Derived.Test.YtbocpagokgpllaaFu1
import Derived.Test.YtbocpagokgpllaaLaw3
namespace Go.Proofs.Ytbocpagokgpllaa
open Go Go.RowKit Eng Sp Dg
set_option linter.unusedVariables false
set_option linter.unusedSimpArgs false
set_option maxRecDepth 100000
namespace Ref
open _root_.Go.Proofs.Ytbocpagokgpllaa.Nat (OwnNil Num Ret Yes pow16 From_spec num_spec end_awake digs_len_bl)

/-- The least of 64, 128, .. that is not below p is 64 * 2^i. -/
def Least (p : Int) (i : Nat) : Prop := (∀ j, j < i → ((64 * 2 ^ j : Nat) : Int) < p) ∧ p ≤ ((64 * 2 ^ i : Nat) : Int)
theorem Least.eq {p : Int} {i j : Nat} (h : Least p i) (k : Least p j) : i = j := by
  rcases Nat.lt_trichotomy i j with h1 | h1 | h1
  · have := k.1 i h1; have := h.2; omega
  · exact h1
  · have := h.1 j h1; have := k.2; omega
theorem least_lt {p : Int} {i : Nat} (hp : p ≤ 2097152) (h : ∀ j, j < i → ((64 * 2 ^ j : Nat) : Int) < p) : i ≤ 15 := by
  rcases Nat.lt_or_ge 15 i with h1 | h1
  · have := h 15 h1
    have e : (64 * 2 ^ 15 : Nat) = 2097152 := by decide
    rw [e] at this
    omega
  · exact h1

theorem Reach_spec {w : World} {p : Int} (hp : p ≤ 2097152) :
    Calls pr fuel_Reach_id #[.int .i64 p] w fun e w' => Ahead w w' ∧ ∃ i s, Least p i ∧ e = .returned (.tuple #[Slc.v s, .int .i64 0]) ∧ OwnNil w.heap.size w' s (digs B64 (64 * 2 ^ i)) := by
  have hB := B64v
  refine fuel_Reach_vc p w _ (fun t0 t4 w' => t0 = p ∧ w' = w ∧ ∃ i : Nat, t4 = ((64 * 2 ^ i : Nat) : Int) ∧ ∀ j, j < i → ((64 * 2 ^ j : Nat) : Int) < p) (fun p t4 _ => (p - t4).toNat)
    (br_false (by simpa using hp) ⟨rfl, rfl, 0, rfl, fun j hj => by omega⟩) ?_
  rintro t0 t4 w1 ⟨rfl, rfl, i, rfl, hi⟩
  have hi15 := least_lt hp hi
  have h16 := pow16 (show i < 16 by omega)
  refine br_intro (fun hlt => ?_) (fun hge => ?_)
  · have hlt' : ((64 * 2 ^ i : Nat) : Int) < t0 := by simpa using hlt
    have e1 : IntKind.i64.wrap (((64 * 2 ^ i : Nat) : Int) * 2 ^ (1 : Nat)) = ((64 * 2 ^ (i + 1) : Nat) : Int) := by
      rw [Nat.pow_succ, show (2 : Int) ^ (1 : Nat) = 2 from rfl, wrap_i64 (by omega) (by omega)]; omega
    have hpos : 0 < 2 ^ i := Nat.pow_pos (by omega)
    rw [e1]
    refine ⟨⟨rfl, rfl, i + 1, rfl, fun j hj => ?_⟩, ?_⟩
    · by_cases h : j = i
      · subst h; exact hlt'
      · exact hi j (by omega)
    · rw [Nat.pow_succ]; omega
  · have hge' : t0 ≤ ((64 * 2 ^ i : Nat) : Int) := by simpa using hge
    rw [wrap_u64' (by omega) (by omega)]
    refine Calls.mono (From_spec (v := 64 * 2 ^ i) (by omega)) ?_
    rintro e w2 ⟨ha, s, rfl, hs⟩
    exact ⟨_, rfl, ha, i, _, ⟨hi, hge'⟩, rfl, hs⟩

theorem rReach_spec {w : World} {p : Int} (hp : p ≤ 2097152) :
    Calls pr surdref18_Reach_id #[.int .i64 p] w fun e w' => Ahead w w' ∧ ∃ i s, Least p i ∧ e = .returned (.tuple #[Slc.v s, .int .i64 0]) ∧ RN w' s (64 * 2 ^ i) := by
  refine surdref18_Reach_vc p w _ (fun t0 t4 w' => t0 = p ∧ w' = w ∧ ∃ i : Nat, t4 = ((64 * 2 ^ i : Nat) : Int) ∧ ∀ j, j < i → ((64 * 2 ^ j : Nat) : Int) < p) (fun p t4 _ => (p - t4).toNat)
    (br_false (by simpa using hp) ⟨rfl, rfl, 0, rfl, fun j hj => by omega⟩) ?_
  rintro t0 t4 w1 ⟨rfl, rfl, i, rfl, hi⟩
  have hi15 := least_lt hp hi
  have h16 := pow16 (show i < 16 by omega)
  refine br_intro (fun hlt => ?_) (fun hge => ?_)
  · have hlt' : ((64 * 2 ^ i : Nat) : Int) < t0 := by simpa using hlt
    have e1 : IntKind.i64.wrap (2 * ((64 * 2 ^ i : Nat) : Int)) = ((64 * 2 ^ (i + 1) : Nat) : Int) := by
      rw [Nat.pow_succ, wrap_i64 (by omega) (by omega)]; omega
    have hpos : 0 < 2 ^ i := Nat.pow_pos (by omega)
    rw [e1]
    refine ⟨⟨rfl, rfl, i + 1, rfl, fun j hj => ?_⟩, ?_⟩
    · by_cases h : j = i
      · subst h; exact hlt'
      · exact hi j (by omega)
    · rw [Nat.pow_succ]; omega
  · have hge' : t0 ≤ ((64 * 2 ^ i : Nat) : Int) := by simpa using hge
    refine Calls.mono (Int_spec (v := 64 * 2 ^ i) (by omega)) ?_
    rintro e w2 ⟨ha, s, rfl, hs⟩
    exact ⟨_, rfl, ha, i, _, ⟨hi, hge'⟩, rfl, hs⟩

theorem FuelReaches_ok {w : World} {x0 : Int} (hn : -9223372036854775808 ≤ x0 ∧ x0 ≤ 9223372036854775807) :
    Calls pr surdlaw18_FuelReaches_id #[.int .i64 x0] w (Yes w) := by
  refine surdlaw18_FuelReaches_vc x0 w _ ?_
  by_cases hp : x0 ≤ 2097152
  · refine Calls.mono (Reach_spec hp) ?_
    rintro e w1 ⟨h1, i, s, hi, rfl, os⟩
    refine ⟨_, _, rfl, Calls.mono (rReach_spec hp) ?_⟩
    rintro e w2 ⟨h2, j, t, hj, rfl, rt⟩
    obtain rfl := hi.eq hj
    have hbl : bl (64 * 2 ^ i) ≤ 64 * 2 := by
      have h16 := pow16 (show i < 16 by have := least_lt hp hi.1; omega)
      exact Nat.le_trans (bl_le (k := 22) (by omega)) (by omega)
    have hl := digs_len_bl hbl
    refine ⟨_, _, rfl, br_false rfl (Calls.mono num_spec ?_)⟩
    rintro e w5 ⟨rfl, rfl⟩
    refine ⟨_, rfl, br_true rfl (Calls.mono (Is_spec rt (os.ahead h2).rd (by omega)) ?_)⟩
    rintro e w6 ⟨h6, rfl⟩
    refine ⟨_, rfl, br_true rfl ?_⟩
    have h16 := h2.trans h6
    have h06 := h1.trans h16
    refine Calls.mono (own_list (base := w.heap.size) [(s, digs B64 (64 * 2 ^ i))] h06.size ?_ (by simp) (by simp) rfl rfl) ?_
    · intro p hp
      simp only [List.mem_cons, List.not_mem_nil, or_false] at hp
      subst hp
      exact ⟨os.ahead h16, by simp only; omega⟩
    rintro e w8 ⟨rfl, hb8⟩
    exact ⟨_, rfl, br_true rfl (end_awake (low_ahead h06 (Nat.le_refl _) hb8))⟩
  · have h1 : fuel_Reach_id = fuel_Reach_id := rfl
    refine fuel_Reach_vc x0 w _ (fun _ _ _ => False) (fun _ _ _ => 0) (br_true (by simp; omega) ?_) (fun _ _ _ h => h.elim)
    refine ⟨_, _, rfl, ?_⟩
    refine surdref18_Reach_vc x0 w _ (fun _ _ _ => False) (fun _ _ _ => 0) (br_true (by simp; omega) ?_) (fun _ _ _ h => h.elim)
    refine ⟨_, _, rfl, br_true rfl (Calls.mono num_spec ?_)⟩
    rintro e w3 ⟨rfl, rfl⟩
    exact ⟨_, rfl, br_true rfl (br_true rfl (end_awake (Ahead.refl _)))⟩

end Ref
end Go.Proofs.Ytbocpagokgpllaa
