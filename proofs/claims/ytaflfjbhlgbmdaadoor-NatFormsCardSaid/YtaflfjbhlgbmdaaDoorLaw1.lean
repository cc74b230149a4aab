/- The laws of layer 1. No condition. -/
import Derived.Test.YtaflfjbhlgbmdaaDoorNat2
import Derived.Test.YtaflfjbhlgbmdaaDoorVcL01
namespace Go.Proofs.YtaflfjbhlgbmdaaDoor
open Go Go.RowKit Eng Sp Dg
set_option linter.unusedVariables false
set_option linter.unusedSimpArgs false
set_option maxRecDepth 100000
namespace Nat

/-- A law's answer. -/
def Yes (w : World) (e : Ending) (w' : World) : Prop := e = .returned (.bool true) ∧ Ahead w w'

/-- A literal's slice of one limb. -/
theorem one_rd (w : World) (x : Nat) : Rd .u64 (w.alloc (.cells #[.int .u64 (x : Int)] tU64 (0, 0))) ⟨some ⟨w.heap.size, 0, none⟩, 1, 1⟩ (nn [x]) :=
  Own.rd (t := tU64) (b := w.heap.size) ⟨rfl, [], rfl, by rw [get_alloc]; rfl⟩
theorem ok_one {x : Nat} (h : x < B64) : ok B64 [x] := by intro y hy; simp at hy; omega
theorem val_one (x : Nat) : val B64 [x] = x := by simp [val]

theorem lives_spec (w : World) : Calls pr surdlaw01_lives_id #[] w (Yes w) := by
  have hB := B64v
  refine surdlaw01_lives_vc w _ ?_
  have r1 := one_rd w 18446744073709551615
  have a1 := Ahead.alloc w (.cells #[.int .u64 18446744073709551615] tU64 (0, 0))
  refine Calls.mono (Add_spec (r1.ahead (Ahead.alloc _ _)) (one_rd _ 1) (by simp) (by simp) (ok_one (by omega)) (ok_one (by omega))) ?_
  rintro e w3 ⟨ha3, s, c, rfl, hh⟩
  have hd : digs B64 (val B64 [18446744073709551615] + val B64 [1]) = [0, 1] := by
    rw [val_one, val_one, digs_pos two64 (by omega), B64v, digs_pos (by omega) (by omega), digs_zero]
  have hbl : bl (val B64 [18446744073709551615] + val B64 [1]) ≤ 67108864 := by
    rw [val_one, val_one]; exact Nat.le_trans (bl_le (k := 65) (by omega)) (by omega)
  rcases hh with ⟨_, rfl, ho⟩ | ⟨h, _⟩
  · rw [hd] at ho
    refine ⟨_, _, rfl, ?_⟩
    have r5 := one_rd w3 5
    refine Calls.mono (Sub_spec (r5.ahead (Ahead.alloc _ _)) (one_rd _ 7) (by simp) (by simp) (ok_one (by omega)) (ok_one (by omega))) ?_
    rintro e w6 hsub
    rw [val_one, val_one] at hsub
    rcases hsub with ⟨_, ha6, rfl⟩ | ⟨h, _⟩
    · refine ⟨_, _, rfl, ?_⟩
      have hw : Ahead w3 w6 := ((Ahead.alloc _ _).trans (Ahead.alloc _ _)).trans ha6
      have hr := (ho.ahead hw).rd
      refine br_true rfl (br_true (by rw [hr.n]; rfl) ?_)
      refine ldN hr (by omega) (by simp) ?_
      refine br_true rfl ?_
      refine ldN hr (by omega) (by simp) ?_
      refine br_true rfl (br_true rfl ?_)
      refine Calls.mono (Length_spec (one_rd w6 255) (by simp) (ok_one (by omega))) ?_
      rintro e w10 ⟨rfl, rfl⟩
      refine ⟨_, rfl, ?_, ?_⟩
      · have : bl (val B64 [255]) = 8 := by rw [val_one]; exact bl_eq (k := 7) (by omega) (by omega)
        rw [this]; rfl
      · exact ((a1.trans (Ahead.alloc _ _)).trans ha3).trans (hw.trans (Ahead.alloc _ _))
    · omega
  · omega


/-- lives, as a law's end. -/
theorem end_lives {w0 w : World} (ha : Ahead w0 w) : Calls pr surdlaw01_lives_id #[] w fun e w' => ∃ b : Bool, e = .returned (.bool b) ∧ Yes w0 (.returned (.bool b)) w' :=
  Calls.mono (lives_spec w) fun e w' ⟨he, h⟩ => ⟨true, he, rfl, ha.trans h⟩


end Nat
end Go.Proofs.YtaflfjbhlgbmdaaDoor
