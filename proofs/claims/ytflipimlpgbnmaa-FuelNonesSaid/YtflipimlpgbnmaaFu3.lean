/- Meters that no call made: the law FuelNones. No condition. -/
import Derived.Test.YtflipimlpgbnmaaFu1
import Derived.Test.YtflipimlpgbnmaaRef4
import Derived.Test.YtflipimlpgbnmaaVcFuel2
namespace Go.Proofs.Ytflipimlpgbnmaa
open Go Go.RowKit Eng Sp Dg
set_option linter.unusedVariables false
set_option linter.unusedSimpArgs false
set_option maxRecDepth 100000
namespace Fuel
open _root_.Go.Proofs.Ytflipimlpgbnmaa.Nat (Yes num_spec end_awake)
open _root_.Go.Proofs.Ytflipimlpgbnmaa.Ref (isRw run_indexAtG)

/-- No call made this meter. -/
def NoM (w : World) (p : Option Addr) : Prop := p = none ∨ ∃ ad, p = some ad ∧ w.cell? (ad.add 2) = some (.bool false)

theorem is_no {w : World} {p : Option Addr} (h : NoM w p) : Calls pr fuel_Meter_is_id #[.pointer p] w fun e w' => w' = w ∧ e = .returned (.bool false) := by
  refine fuel_Meter_is_vc p w _ ?_
  rcases h with rfl | ⟨ad, rfl, hc⟩
  · exact br_false rfl ⟨rfl, rfl⟩
  · exact br_true rfl ⟨_, hc, rfl, rfl⟩
theorem next_no {w : World} {p : Option Addr} (h : NoM w p) : Calls pr fuel_Meter_Next_id #[.pointer p] w fun e w' => w' = w ∧ e = .returned (.tuple #[.int .i64 0, .int .i64 2]) := by
  refine fuel_Meter_Next_vc p w _ (Calls.mono (is_no h) ?_)
  rintro e w1 ⟨rfl, rfl⟩
  exact ⟨_, rfl, br_true rfl ⟨rfl, rfl⟩⟩
theorem told_no {w : World} {p : Option Addr} (h : NoM w p) : Calls pr fuel_Meter_Told_id #[.pointer p] w fun e w' => w' = w ∧ e = .returned (.int .i64 0) := by
  refine fuel_Meter_Told_vc p w _ (Calls.mono (is_no h) ?_)
  rintro e w1 ⟨rfl, rfl⟩
  exact ⟨_, rfl, br_true rfl ⟨rfl, rfl⟩⟩
theorem left_no {w : World} {p : Option Addr} (h : NoM w p) : Calls pr fuel_Meter_Left_id #[.pointer p] w fun e w' => w' = w ∧ e = .returned (Slc.v ⟨none, 0, 0⟩) := by
  refine fuel_Meter_Left_vc p w _ (Calls.mono (is_no h) ?_)
  rintro e w1 ⟨rfl, rfl⟩
  exact ⟨_, rfl, br_true rfl ⟨rfl, rfl⟩⟩
theorem reset_no {w : World} {p : Option Addr} (h : NoM w p) : Calls pr fuel_Meter_Reset_id #[.pointer p] w fun e w' => w' = w ∧ e = .returned (.int .i64 2) := by
  refine fuel_Meter_Reset_vc p w _ (Calls.mono (is_no h) ?_)
  rintro e w1 ⟨rfl, rfl⟩
  exact ⟨_, rfl, br_true rfl ⟨rfl, rfl⟩⟩
theorem skip_no {w : World} {p : Option Addr} {x : Int} (h : NoM w p) : Calls pr fuel_Meter_Skip_id #[.pointer p, .int .i64 x] w fun e w' => w' = w ∧ e = .returned (.int .i64 2) := by
  refine fuel_Meter_Skip_vc p x w _ (fun _ _ _ _ _ _ => False) (fun _ _ _ _ _ _ => 0) (Calls.mono (is_no h) ?_) (fun _ _ _ _ _ _ h => h.elim)
  rintro e w1 ⟨rfl, rfl⟩
  exact ⟨_, rfl, br_true rfl ⟨rfl, rfl⟩⟩
theorem add_no {w : World} {p : Option Addr} {s : Slc} (h : NoM w p) : Calls pr fuel_Meter_Add_id #[.pointer p, s.v] w fun e w' => w' = w ∧ e = .returned (.int .i64 2) := by
  refine fuel_Meter_Add_vc p s w _ (Calls.mono (is_no h) ?_)
  rintro e w1 ⟨rfl, rfl⟩
  exact ⟨_, rfl, br_true rfl ⟨rfl, rfl⟩⟩
theorem fork_no {w : World} {p : Option Addr} (h : NoM w p) : Calls pr fuel_Meter_Fork_id #[.pointer p] w fun e w' => w' = w ∧ e = .returned (.pointer none) := by
  refine fuel_Meter_Fork_vc p w _ (Calls.mono (is_no h) ?_)
  rintro e w1 ⟨rfl, rfl⟩
  exact ⟨_, rfl, br_true rfl ⟨rfl, rfl⟩⟩

theorem FuelNones_ok {w : World} {x0 : Int} {s1 : Slc} {l1 : List Nat} (hx : -9223372036854775808 ≤ x0 ∧ x0 ≤ 9223372036854775807) (r1 : Rd .u64 w s1 (nn l1)) (o1 : ok B64 l1) (n1 : l1.length * 8 ≤ 140737488351232) :
    Calls pr surdlaw18_FuelNones_id #[.int .i64 x0, s1.v] w (Yes w) := by
  refine surdlaw18_FuelNones_vc x0 s1 w _ (fun p f t n i w' => t = ⟨some ⟨w.heap.size + 1, 0, none⟩, 2, 2⟩ ∧ n = 2 ∧ Ahead w w' ∧ w'.cell? ⟨w.heap.size, 2, none⟩ = some (.bool false) ∧
      w'.cell? ⟨w.heap.size + 1, 0, none⟩ = some (.pointer none) ∧ w'.cell? ⟨w.heap.size + 1, 1, none⟩ = some (.pointer (some ⟨w.heap.size, 0, none⟩)) ∧ ∃ j : Nat, i = (j : Int) ∧ j ≤ 2)
    (fun _ _ _ n i _ => (n - i).toNat) ?_ ?_
  · have h1 := Ahead.alloc w (.cells #[(⟨none, 0, 0⟩ : Slc).v, Value.int .i64 0, Value.bool false] 65 (0, 0))
    have e1 : (w.alloc (.cells #[(⟨none, 0, 0⟩ : Slc).v, Value.int .i64 0, Value.bool false] 65 (0, 0))).heap.size = w.heap.size + 1 := size_alloc _ _
    have c1 : (w.alloc (.cells #[(⟨none, 0, 0⟩ : Slc).v, Value.int .i64 0, Value.bool false] 65 (0, 0))).cell? ⟨w.heap.size, 2, none⟩ = some (.bool false) := by
      rw [World.cell?, get_alloc]; rfl
    simp only [newC]
    generalize w.alloc (.cells #[(⟨none, 0, 0⟩ : Slc).v, Value.int .i64 0, Value.bool false] 65 (0, 0)) = W1 at *
    refine ⟨by rw [← e1], rfl, h1.trans (Ahead.alloc _ _), (Ahead.alloc _ _).cell c1, ?_, ?_, 0, rfl, by omega⟩
    · rw [← e1, World.cell?, get_alloc]; rfl
    · rw [← e1, World.cell?, get_alloc]; rfl
  · rintro p f t n i w1 ⟨rfl, rfl, ha, c1, c2, c3, j, rfl, hj⟩
    refine br_intro (fun hlt => ?_) (fun hge => end_awake ha)
    have hj' : j < 2 := by simp at hlt; omega
    have e8 : IntKind.i64.wrap ((j : Int) + 1) = ((j + 1 : Nat) : Int) := by rw [wrap_i64 (by omega) (by omega)]; omega
    unfold semA
    rw [Sem.wp_iff_run, run_indexAtG (by kernel_rfl) w1 ⟨some ⟨w.heap.size + 1, 0, none⟩, 2, 2⟩ (j : Int) ⟨w.heap.size + 1, 0, none⟩ rfl (by omega) (by simp; omega), add_off]
    refine ⟨_, rfl, ?_⟩
    obtain ⟨q, hq, hno⟩ : ∃ q, w1.cell? ⟨w.heap.size + 1, ((j : Int)).toNat, none⟩ = some (.pointer q) ∧ NoM w1 q := by
      rcases Nat.lt_or_ge j 1 with h | h
      · have : j = 0 := by omega
        subst this
        exact ⟨none, c2, .inl rfl⟩
      · have : j = 1 := by omega
        subst this
        exact ⟨_, c3, .inr ⟨_, rfl, by rw [add_off]; exact c1⟩⟩
    refine ⟨q, hq, Calls.mono (next_no hno) ?_⟩
    rintro e w2 ⟨rfl, rfl⟩
    refine ⟨_, _, rfl, br_false rfl (Calls.mono num_spec ?_)⟩
    rintro e w3 ⟨rfl, rfl⟩
    refine ⟨_, rfl, br_false rfl (Calls.mono (told_no hno) ?_)⟩
    rintro e w4 ⟨rfl, rfl⟩
    refine ⟨_, rfl, br_false rfl (Calls.mono (left_no hno) ?_)⟩
    rintro e w5 ⟨rfl, rfl⟩
    refine ⟨_, rfl, br_false rfl (Calls.mono (reset_no hno) ?_)⟩
    rintro e w6 ⟨rfl, rfl⟩
    refine ⟨_, rfl, Calls.mono num_spec ?_⟩
    rintro e w7 ⟨rfl, rfl⟩
    refine ⟨_, rfl, br_false rfl (Calls.mono (skip_no hno) ?_)⟩
    rintro e w8 ⟨rfl, rfl⟩
    refine ⟨_, rfl, Calls.mono num_spec ?_⟩
    rintro e w9 ⟨rfl, rfl⟩
    refine ⟨_, rfl, br_false rfl (Calls.mono (add_no hno) ?_)⟩
    rintro e w10 ⟨rfl, rfl⟩
    refine ⟨_, rfl, Calls.mono num_spec ?_⟩
    rintro e w11 ⟨rfl, rfl⟩
    refine ⟨_, rfl, br_false rfl (Calls.mono (fork_no hno) ?_)⟩
    rintro e w12 ⟨rfl, rfl⟩
    exact ⟨_, rfl, br_false rfl ⟨⟨rfl, rfl, ha, c1, c2, c3, j + 1, e8, by omega⟩, by rw [e8]; omega⟩⟩

end Fuel
end Go.Proofs.Ytflipimlpgbnmaa
