/- The contracts of nat's Left, Right and Low. No condition. -/
import Derived.Test.YtaflfjbhlgbmdaaDoorFi
import Derived.Test.YtaflfjbhlgbmdaaDoorNat2
namespace Go.Proofs.YtaflfjbhlgbmdaaDoor
open Go Go.RowKit Eng Sp Dg
set_option linter.unusedVariables false
set_option linter.unusedSimpArgs false
set_option maxRecDepth 100000
namespace Nat

/-- The code of an answer that is a number. -/
def bigC (n : Nat) : Int := if bl n ≤ 67108864 then 0 else 3
/-- An answer: a number in memory newer than w, or nothing and a code. -/
def Ret (w : World) (code : Int) (N : Nat) (e : Ending) (w' : World) : Prop :=
  Ahead w w' ∧ ∃ s, e = .returned (.tuple #[Slc.v s, .int .i64 code]) ∧ OwnNil w.heap.size w' s (if code = 0 then digs B64 N else [])
theorem Ans.ret {w w' : World} {n : Nat} {e : Ending} (h : Ans w n e w') : Ret w (bigC n) n e w' := by
  obtain ⟨ha, s, c, rfl, ⟨h1, rfl, ho⟩ | ⟨h1, rfl, rfl⟩⟩ := h
  · exact ⟨ha, s, by rw [bigC, if_pos h1], by rw [bigC, if_pos h1, if_pos rfl]; exact ho⟩
  · exact ⟨ha, _, by rw [bigC, if_neg (by omega)], by rw [bigC, if_neg (by omega)]; exact OwnNil.nil⟩
theorem Ret.base {w0 w w' : World} {code : Int} {N : Nat} {e : Ending} (h : Ret w code N e w') (ha : Ahead w0 w) : Ret w0 code N e w' := by
  obtain ⟨h1, s, h2, h3⟩ := h
  exact ⟨ha.trans h1, s, h2, h3.mono ha.size⟩

theorem Fill.trim {w0 w : World} {c : Slc} {l : List Nat} {S : World → Prop} (h : Fill w0 w c l S) (hl : l.length ≤ 2 ^ 46) (hok : ok B64 l) :
    Calls pr nat_trim_id #[c.v] w fun e w' => w' = w ∧ ∃ s, e = .returned (Slc.v s) ∧ OwnNil w0.heap.size w s (digs B64 (val B64 l)) := by
  refine Calls.mono (trim_spec h.rd hl hok) ?_
  rintro e w' ⟨rfl, m, hm, hd, rfl⟩
  obtain ⟨b, w1, ho, h2, h3, _⟩ := h
  refine ⟨rfl, _, rfl, .inr ⟨b, h3, h2, ?_⟩⟩
  have := ho.take (m := m) (by simpa using hm)
  rw [hd, ← nn_take]
  exact this

/-- trim, of what is read: a slice that reads as the number's digits. -/
theorem trim_rd {w : World} {p : Slc} {a : List Nat} (hp : Rd .u64 w p (nn a)) (la : a.length ≤ 2 ^ 44) (oa : ok B64 a) :
    Calls pr nat_trim_id #[p.v] w fun e w' => w' = w ∧ ∃ s, e = .returned (Slc.v s) ∧ s.n = (digs B64 (val B64 a)).length ∧ Rd .u64 w s (nn (digs B64 (val B64 a))) := by
  refine Calls.mono (trim_spec hp (by omega) oa) ?_
  rintro e w' ⟨rfl, m, hm, hd, rfl⟩
  have hca := hp.c
  have hna : p.n = a.length := by rw [hp.n, nn_length]
  have hla : (digs B64 (val B64 a)).length = m := by rw [hd, List.length_take]; omega
  exact ⟨rfl, _, rfl, hla.symm, by rw [hd, ← nn_take]; exact hp.take (by simp; omega) (by omega)⟩

def leftC (v : Nat) (n : Int) : Int := if n < 0 ∨ 1099511627776 < n then 1 else if v ≠ 0 ∧ (67108864 : Int) < bl v + n then 3 else 0



def rightC (v : Nat) (n : Int) : Int := if n < 0 ∨ 1099511627776 < n then 1 else bigC (v / 2 ^ n.toNat)


def lowC (v : Nat) (n : Int) : Int := if n < 0 ∨ 1099511627776 < n then 1 else bigC (v % 2 ^ n.toNat)


end Nat
end Go.Proofs.YtaflfjbhlgbmdaaDoor
