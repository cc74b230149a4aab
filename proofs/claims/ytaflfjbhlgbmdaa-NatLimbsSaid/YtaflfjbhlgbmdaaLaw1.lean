/- The laws of layer 1. No condition. -/
import Derived.Test.YtaflfjbhlgbmdaaNat2
import Derived.Test.YtaflfjbhlgbmdaaVcL01
namespace Go.Proofs.Ytaflfjbhlgbmdaa
open Go Go.RowKit Eng Sp Dg
set_option linter.unusedVariables false
set_option linter.unusedSimpArgs false
set_option maxRecDepth 100000
namespace Nat

/-- A law's answer. -/
def Yes (w : World) (e : Ending) (w' : World) : Prop := e = .returned (.bool true) ∧ Ahead w w'

/-- A literal's slice of one limb. -/
theorem one_rd (w : World) (x : Nat) : Rd .u64 (w.alloc (.cells #[.int .u64 (x : Int)] tU64 (0, 0))) ⟨some ⟨w.heap.size, 0, none⟩, 1, 1⟩ (nn [x]) :=
  Own.rd (t := tU64) (b := w.heap.size) ⟨rfl, [], rfl, by rw [get_alloc]; rfl⟩
theorem ok_one {x : Nat} (h : x < B64) : ok B64 [x] := by intro y hy; simp at hy; omega
theorem val_one (x : Nat) : val B64 [x] = x := by simp [val]

theorem lives_spec (w : World) : Calls pr surdlaw01_lives_id #[] w (Yes w) := by
  have hB := B64v
  refine surdlaw01_lives_vc w _ ?_
  have r1 := one_rd w 18446744073709551615
  have a1 := Ahead.alloc w (.cells #[.int .u64 18446744073709551615] tU64 (0, 0))
  refine Calls.mono (Add_spec (r1.ahead (Ahead.alloc _ _)) (one_rd _ 1) (by simp) (by simp) (ok_one (by omega)) (ok_one (by omega))) ?_
  rintro e w3 ⟨ha3, s, c, rfl, hh⟩
  have hd : digs B64 (val B64 [18446744073709551615] + val B64 [1]) = [0, 1] := by
    rw [val_one, val_one, digs_pos two64 (by omega), B64v, digs_pos (by omega) (by omega), digs_zero]
  have hbl : bl (val B64 [18446744073709551615] + val B64 [1]) ≤ 67108864 := by
    rw [val_one, val_one]; exact Nat.le_trans (bl_le (k := 65) (by omega)) (by omega)
  rcases hh with ⟨_, rfl, ho⟩ | ⟨h, _⟩
  · rw [hd] at ho
    refine ⟨_, _, rfl, ?_⟩
    have r5 := one_rd w3 5
    refine Calls.mono (Sub_spec (r5.ahead (Ahead.alloc _ _)) (one_rd _ 7) (by simp) (by simp) (ok_one (by omega)) (ok_one (by omega))) ?_
    rintro e w6 hsub
    rw [val_one, val_one] at hsub
    rcases hsub with ⟨_, ha6, rfl⟩ | ⟨h, _⟩
    · refine ⟨_, _, rfl, ?_⟩
      have hw : Ahead w3 w6 := ((Ahead.alloc _ _).trans (Ahead.alloc _ _)).trans ha6
      have hr := (ho.ahead hw).rd
      refine br_true rfl (br_true (by rw [hr.n]; rfl) ?_)
      refine ldN hr (by omega) (by simp) ?_
      refine br_true rfl ?_
      refine ldN hr (by omega) (by simp) ?_
      refine br_true rfl (br_true rfl ?_)
      refine Calls.mono (Length_spec (one_rd w6 255) (by simp) (ok_one (by omega))) ?_
      rintro e w10 ⟨rfl, rfl⟩
      refine ⟨_, rfl, ?_, ?_⟩
      · have : bl (val B64 [255]) = 8 := by rw [val_one]; exact bl_eq (k := 7) (by omega) (by omega)
        rw [this]; rfl
      · exact ((a1.trans (Ahead.alloc _ _)).trans ha3).trans (hw.trans (Ahead.alloc _ _))
    · omega
  · omega

theorem NatNames_ok (w : World) : Calls pr surdlaw01_NatNames_id #[] w (Yes w) := by
  refine surdlaw01_NatNames_vc w _ ?_
  refine Calls.mono (lives_spec w) ?_
  rintro e w' ⟨rfl, ha⟩
  exact ⟨_, rfl, rfl, ha⟩

/-- lives, as a law's end. -/
theorem end_lives {w0 w : World} (ha : Ahead w0 w) : Calls pr surdlaw01_lives_id #[] w fun e w' => ∃ b : Bool, e = .returned (.bool b) ∧ Yes w0 (.returned (.bool b)) w' :=
  Calls.mono (lives_spec w) fun e w' ⟨he, h⟩ => ⟨true, he, rfl, ha.trans h⟩

theorem NatOrders_ok {w : World} {s0 s1 s2 : Slc} {l0 l1 l2 : List Nat} (r0 : Rd .u64 w s0 (nn l0)) (o0 : ok B64 l0) (n0 : l0.length * 8 ≤ 140737488351232)
    (r1 : Rd .u64 w s1 (nn l1)) (o1 : ok B64 l1) (n1 : l1.length * 8 ≤ 140737488351232) (r2 : Rd .u64 w s2 (nn l2)) (o2 : ok B64 l2) (n2 : l2.length * 8 ≤ 140737488351232) :
    Calls pr surdlaw01_NatOrders_id #[s0.v, s1.v, s2.v] w (Yes w) := by
  generalize hx : val B64 l0 = x
  generalize hy : val B64 l1 = y
  generalize hz : val B64 l2 = z
  have cmp : ∀ {p q : Slc} {a b : List Nat} {w1 : World}, Rd .u64 w p (nn a) → Rd .u64 w q (nn b) → ok B64 a → ok B64 b → a.length * 8 ≤ 140737488351232 → b.length * 8 ≤ 140737488351232 → Ahead w w1 →
      Calls pr nat_Compare_id #[p.v, q.v] w1 fun e w' => Ahead w w' ∧ e = .returned (.int .i64 (cmpI (val B64 a) (val B64 b))) := fun hp hq oa ob la lb ha =>
    Calls.mono (Compare_spec (hp.ahead ha) (hq.ahead ha) (by omega) (by omega) oa ob) fun e w' ⟨h1, h2⟩ => ⟨ha.trans h1, h2⟩
  have tail : ∀ w5, Ahead w w5 → Calls pr nat_Sub_id #[s0.v, s1.v] w5 fun e8 w8 => ∃ s : Slc, ∃ x8 : Int, e8 = .returned (.tuple #[s.v, .int .i64 x8]) ∧
      (Calls pr nat_Length_id #[s0.v] w8 fun e9 w9 => ∃ x9 : Int, e9 = .returned (.int .i64 x9) ∧
        (br (decide (x9 > 67108864)) (Calls pr surdlaw01_lives_id #[] w9 fun e w' => ∃ b : Bool, e = .returned (.bool b) ∧ Yes w (.returned (.bool b)) w')
          (br ((x8 == 10) == (decide (cmpI x y < 0))) (Calls pr surdlaw01_lives_id #[] w9 fun e w' => ∃ b : Bool, e = .returned (.bool b) ∧ Yes w (.returned (.bool b)) w') (Yes w (.returned (.bool false)) w9)))) := by
    intro w5 ha
    refine Calls.mono (Sub_spec (r0.ahead ha) (r1.ahead ha) (by omega) (by omega) o0 o1) ?_
    rintro e w8 hs
    rw [hx, hy] at hs
    have hA8 : Ahead w w8 := by
      rcases hs with ⟨_, h, _⟩ | ⟨_, h, _⟩
      · exact ha.trans h
      · exact ha.trans h
    have len := Calls.mono (Length_spec (r0.ahead hA8) (by omega) o0) (R' := fun e9 w9 => w9 = w8 ∧ e9 = .returned (.int .i64 (bl x))) (by rw [hx]; exact fun _ _ h => h)
    rcases hs with ⟨hlt, _, rfl⟩ | ⟨hle, _, s, c, rfl, hh⟩
    · refine ⟨_, _, rfl, Calls.mono len ?_⟩
      rintro e w9 ⟨rfl, rfl⟩
      refine ⟨_, rfl, br_intro (fun _ => end_lives hA8) fun _ => ?_⟩
      refine br_true ?_ (end_lives hA8)
      simp [cmpI_neg, hlt]
    · refine ⟨_, _, rfl, Calls.mono len ?_⟩
      rintro e w9 ⟨rfl, rfl⟩
      refine ⟨_, rfl, br_intro (fun _ => end_lives hA8) fun hb => ?_⟩
      refine br_true ?_ (end_lives hA8)
      rcases hh with ⟨_, rfl, _⟩ | ⟨h, _⟩
      · simp [cmpI_neg]; omega
      · have := bl_mono (show x - y ≤ x by omega)
        simp at hb; omega
  have lens : ∀ w5, Ahead w w5 → x ≤ y → Calls pr nat_Length_id #[s0.v] w5 fun e6 w6 => ∃ x6 : Int, e6 = .returned (.int .i64 x6) ∧
      (Calls pr nat_Length_id #[s1.v] w6 fun e7 w7 => ∃ x7 : Int, e7 = .returned (.int .i64 x7) ∧ (br (decide (x6 > x7)) (Yes w (.returned (.bool false)) w7)
        (Calls pr nat_Sub_id #[s0.v, s1.v] w7 fun e8 w8 => ∃ s : Slc, ∃ x8 : Int, e8 = .returned (.tuple #[s.v, .int .i64 x8]) ∧
      (Calls pr nat_Length_id #[s0.v] w8 fun e9 w9 => ∃ x9 : Int, e9 = .returned (.int .i64 x9) ∧
        (br (decide (x9 > 67108864)) (Calls pr surdlaw01_lives_id #[] w9 fun e w' => ∃ b : Bool, e = .returned (.bool b) ∧ Yes w (.returned (.bool b)) w')
          (br ((x8 == 10) == (decide (cmpI x y < 0))) (Calls pr surdlaw01_lives_id #[] w9 fun e w' => ∃ b : Bool, e = .returned (.bool b) ∧ Yes w (.returned (.bool b)) w') (Yes w (.returned (.bool false)) w9))))))) := by
    intro w5 ha hxy
    refine Calls.mono (Length_spec (r0.ahead ha) (by omega) o0) ?_
    rintro e w6 ⟨rfl, rfl⟩
    refine ⟨_, rfl, Calls.mono (Length_spec (r1.ahead ha) (by omega) o1) ?_⟩
    rintro e w7 ⟨rfl, rfl⟩
    rw [hx, hy]
    refine ⟨_, rfl, br_false ?_ (tail _ ha)⟩
    have := bl_mono hxy
    simp; omega
  refine surdlaw01_NatOrders_vc s0 s1 s2 w _ ?_
  refine Calls.mono (cmp r0 r1 o0 o1 n0 n1 (Ahead.refl w)) ?_
  rintro e w1 ⟨ha1, rfl⟩
  refine ⟨_, rfl, Calls.mono (cmp r1 r0 o1 o0 n1 n0 ha1) ?_⟩
  rintro e w2 ⟨ha2, rfl⟩
  refine ⟨_, rfl, Calls.mono (cmp r1 r2 o1 o2 n1 n2 ha2) ?_⟩
  rintro e w3 ⟨ha3, rfl⟩
  rw [hx, hy, hz]
  have hneg : IntKind.i64.wrap (0 - cmpI y x) = cmpI x y := by
    unfold cmpI
    by_cases h1 : x < y
    · rw [if_neg (by omega), if_pos h1, if_pos h1]; rfl
    · by_cases h2 : y < x
      · rw [if_pos h2, if_neg h1, if_pos h2]; rfl
      · rw [if_neg h2, if_neg h1, if_neg h1, if_neg h2]; rfl
  refine ⟨_, rfl, br_false (by rw [hneg]; simp) ?_⟩
  refine Calls.mono (cmp r0 r0 o0 o0 n0 n0 ha3) ?_
  rintro e w4 ⟨ha4, rfl⟩
  have hself : cmpI (val B64 l0) (val B64 l0) = 0 := cmpI_zero.2 rfl
  refine ⟨_, rfl, br_false (by rw [hself]; rfl) ?_⟩
  refine br_intro (fun h1 => ?_) (fun h1 => ?_)
  · have hxy : x ≤ y := by
      rcases Nat.lt_or_ge y x with h | h
      · have := cmpI_pos.2 h; simp at h1; omega
      · exact h
    refine br_intro (fun h3 => ?_) (fun h3 => ?_)
    · have hyz : y ≤ z := by
        rcases Nat.lt_or_ge z y with h | h
        · have := cmpI_pos.2 h; simp at h3; omega
        · exact h
      refine Calls.mono (cmp r0 r2 o0 o2 n0 n2 ha4) ?_
      rintro e w5 ⟨ha5, rfl⟩
      rw [hx, hz]
      refine ⟨_, rfl, br_false ?_ ?_⟩
      · have : ¬ 0 < cmpI x z := by rw [cmpI_pos]; omega
        simpa using this
      · exact br_true h1 (lens _ ha5 hxy)
    · exact br_true h1 (lens _ ha4 hxy)
  · exact br_false h1 (tail _ ha4)

end Nat
end Go.Proofs.Ytaflfjbhlgbmdaa
