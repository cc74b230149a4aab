/- nat's contracts in terms of numbers alone. No condition. -/
import Derived.Test.YthhbjhdnaopcnaaDoorNat3
namespace Go.Proofs.YthhbjhdnaopcnaaDoor
open Go Go.RowKit Eng Sp Dg
set_option linter.unusedVariables false
set_option linter.unusedSimpArgs false
set_option maxRecDepth 100000
namespace Nat

/-- The slice reads as limbs of the number. -/
def Num (w : World) (s : Slc) (N : Nat) : Prop := ∃ l, Rd .u64 w s (nn l) ∧ l.length ≤ 2 ^ 44 ∧ ok B64 l ∧ val B64 l = N
theorem Num.ahead {w w' : World} {s : Slc} {N : Nat} (h : Num w s N) (ha : Ahead w w') : Num w' s N := by
  obtain ⟨l, h1, h2⟩ := h; exact ⟨l, h1.ahead ha, h2⟩
theorem digs_len_bl {N m : Nat} (h : bl N ≤ 64 * m) : (digs B64 N).length ≤ m := by
  refine digs_length_le two64 ?_
  rw [b64_pow]
  exact bl_le_iff.1 h
theorem bigC_ok {N : Nat} (h : bl N ≤ 67108864) : bigC N = 0 := by rw [bigC, if_pos h]
theorem own_num {b : Nat} {w : World} {s : Slc} {N : Nat} (h : OwnNil b w s (digs B64 N)) (hb : bl N ≤ 67108864) : Num w s N :=
  ⟨_, h.rd, Nat.le_trans (digs_len_bl (m := 2 ^ 20) (by omega)) (by omega), ok_digs two64 _, val_digs two64 _⟩
theorem Ret.num {w w' : World} {code : Int} {N : Nat} {e : Ending} (h : Ret w code N e w') (hc : code = 0) (hb : bl N ≤ 67108864) :
    Ahead w w' ∧ ∃ s, e = .returned (.tuple #[Slc.v s, .int .i64 0]) ∧ OwnNil w.heap.size w' s (digs B64 N) ∧ Num w' s N := by
  subst hc
  obtain ⟨ha, s, rfl, ho⟩ := h
  rw [if_pos rfl] at ho
  exact ⟨ha, s, rfl, ho, own_num ho hb⟩
theorem num_of {w : World} {s : Slc} {l : List Nat} (r : Rd .u64 w s (nn l)) (o : ok B64 l) (n : l.length * 8 ≤ 140737488351232) : Num w s (val B64 l) := ⟨l, r, by omega, o, rfl⟩
theorem Num.bl {w : World} {s : Slc} {N : Nat} (h : Num w s N) : bl N ≤ 2 ^ 50 := by
  obtain ⟨l, _, h1, h2, rfl⟩ := h
  have := bl_len h2
  omega

theorem add_num {w : World} {p q : Slc} {x y : Nat} (hp : Num w p x) (hq : Num w q y) : Calls pr nat_Add_id #[p.v, q.v] w (Ret w (bigC (x + y)) (x + y)) := by
  obtain ⟨a, ra, la, oa, rfl⟩ := hp
  obtain ⟨b, rb, lb, ob, rfl⟩ := hq
  exact Calls.mono (Add_spec ra rb la lb oa ob) fun _ _ h => h.ret
def subC (x y : Nat) : Int := if x < y then 10 else bigC (x - y)
theorem sub_num {w : World} {p q : Slc} {x y : Nat} (hp : Num w p x) (hq : Num w q y) : Calls pr nat_Sub_id #[p.v, q.v] w (Ret w (subC x y) (x - y)) := by
  obtain ⟨a, ra, la, oa, rfl⟩ := hp
  obtain ⟨b, rb, lb, ob, rfl⟩ := hq
  refine Calls.mono (Sub_spec ra rb la lb oa ob) ?_
  rintro e w' (⟨h1, h2, rfl⟩ | ⟨h1, h2⟩)
  · rw [subC, if_pos h1]
    exact ⟨h2, _, rfl, OwnNil.nil⟩
  · rw [subC, if_neg (by omega)]
    exact h2.ret
theorem cmp_num {w : World} {p q : Slc} {x y : Nat} (hp : Num w p x) (hq : Num w q y) : Calls pr nat_Compare_id #[p.v, q.v] w fun e w' => Ahead w w' ∧ e = .returned (.int .i64 (cmpI x y)) := by
  obtain ⟨a, ra, la, oa, rfl⟩ := hp
  obtain ⟨b, rb, lb, ob, rfl⟩ := hq
  exact Compare_spec ra rb (by omega) (by omega) oa ob
theorem len_num {w : World} {p : Slc} {x : Nat} (hp : Num w p x) : Calls pr nat_Length_id #[p.v] w fun e w' => w' = w ∧ e = .returned (.int .i64 (bl x)) := by
  obtain ⟨a, ra, la, oa, rfl⟩ := hp
  exact Length_spec ra (by omega) oa
theorem left_num {w : World} {p : Slc} {x : Nat} (hp : Num w p x) {n : Int} (h0 : -9223372036854775808 ≤ n) (h1 : n ≤ 9223372036854775807) : Calls pr nat_Left_id #[p.v, .int .i64 n] w (Ret w (leftC x n) (x * 2 ^ n.toNat)) := by
  obtain ⟨a, ra, la, oa, rfl⟩ := hp
  exact Left_spec ra la oa h0 h1
theorem right_num {w : World} {p : Slc} {x : Nat} (hp : Num w p x) {n : Int} : Calls pr nat_Right_id #[p.v, .int .i64 n] w (Ret w (rightC x n) (x / 2 ^ n.toNat)) := by
  obtain ⟨a, ra, la, oa, rfl⟩ := hp
  exact Right_spec ra la oa

end Nat
end Go.Proofs.YthhbjhdnaopcnaaDoor
