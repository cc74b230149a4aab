/- The contracts of mul's inner functions: part, addAt, sum, less, school. No condition. -/
import Derived.Test.YthhbjhdnaopcnaaDoorNatC
import Derived.Test.YthhbjhdnaopcnaaDoorVcMul
import Derived.Laws.CopyRow
namespace Go.Proofs.YthhbjhdnaopcnaaDoor
open Go Go.RowKit Eng Sp Dg
set_option linter.unusedVariables false
set_option linter.unusedSimpArgs false
set_option maxRecDepth 100000
namespace Mul
open _root_.Go.Proofs.YthhbjhdnaopcnaaDoor.Nat (ldN ldNf stN mkN Fill mkF stF stFf Num OwnNil add64 sub64)

/-- No block but k has changed. -/
def Only (k : Nat) (w w' : World) : Prop := w'.os = w.os ∧ w'.tape = w.tape ∧ w'.output = w.output ∧ w'.heap.size = w.heap.size ∧ ∀ j, j ≠ k → w'.heap[j]? = w.heap[j]?
theorem Only.refl (k : Nat) (w : World) : Only k w w := ⟨rfl, rfl, rfl, rfl, fun _ _ => rfl⟩
theorem Only.trans {k : Nat} {a b c : World} (h : Only k a b) (h' : Only k b c) : Only k a c :=
  ⟨h'.1.trans h.1, h'.2.1.trans h.2.1, h'.2.2.1.trans h.2.2.1, h'.2.2.2.1.trans h.2.2.2.1, fun j hj => (h'.2.2.2.2 j hj).trans (h.2.2.2.2 j hj)⟩
theorem Only.setCell (k i : Nat) (w : World) (v : Value) : Only k w (w.setCell ⟨k, i, none⟩ v) :=
  ⟨rfl, rfl, rfl, by simp [World.setCell], fun j hj => Below.heap_setCell _ _ _ _ (by simpa using hj)⟩
theorem Only.setRow (k : Nat) (w : World) (c : Array Value) : Only k w (w.setRow k c) :=
  ⟨rfl, rfl, rfl, by simp [World.setRow], fun j hj => setRow_other w k j _ hj⟩
theorem Only.ahead {k : Nat} {w0 w w' : World} (h : Only k w w') (ha : Ahead w0 w) (hk : w0.heap.size ≤ k) : Ahead w0 w' :=
  Below.trans ha ⟨h.1, h.2.1, h.2.2.1, by rw [h.2.2.2.1]; exact Nat.le_refl _, fun j hj => h.2.2.2.2 j (by omega)⟩
/-- The slice's cells lie outside the block. -/
def Off (k : Nat) (s : Slc) : Prop := ∀ ad, s.A = some ad → 0 < s.n → ad.block ≠ k
theorem add_block (a : Addr) (i : Nat) : (a.add i).block = a.block := by unfold Addr.add; split <;> rfl
theorem Only.rd {k : Nat} {w w' : World} (h : Only k w w') {s : Slc} {l : List Int} {kd : IntKind} (hr : Rd kd w s l) (ho : Off k s) : Rd kd w' s l :=
  ⟨hr.n, hr.c, fun i hi => by
    obtain ⟨ad, e, hc⟩ := hr.get i hi
    refine ⟨ad, e, ?_⟩
    rw [World.cell?_of_block (w := w)]
    · exact hc
    · rw [add_block]; exact h.2.2.2.2 _ (ho ad e (by rw [hr.n]; omega))⟩
theorem Only.own {k : Nat} {w w' : World} (h : Only k w w') {s : Slc} {l : List Int} {kd : IntKind} {t : TypeId} {b : Nat} (hr : Own kd t w s l b) (ho : b ≠ k) : Own kd t w' s l b := by
  obtain ⟨sp, hc, hm⟩ := hr.mem
  exact ⟨hr.hd, sp, hc, by rw [h.2.2.2.2 b ho]; exact hm⟩
theorem Only.ownNil {k base : Nat} {w w' : World} (h : Only k w w') {s : Slc} {l : List Nat} (hr : OwnNil base w s l) (ho : k < base) : OwnNil base w' s l := by
  rcases hr with h1 | ⟨b, h1, h2, h3⟩
  · exact .inl h1
  · exact .inr ⟨b, h1, h2, h.own h3 (by omega)⟩
theorem off_new {k base : Nat} {w : World} {s : Slc} {l : List Nat} (hr : OwnNil base w s l) (ho : k < base) : Off k s := by
  intro ad e _
  rcases hr with ⟨rfl, _⟩ | ⟨b, h1, _, h3⟩
  · cases e
  · have := Option.some.inj (h3.A.symm.trans e)
    rw [← this]; simp only; omega

theorem stO {t : TypeId} {w : World} {s : Slc} {l : List Nat} {b : Nat} (h : Own .u64 tU64 w s (nn l) b) {i : Int} (h0 : 0 ≤ i) (h1 : i < l.length) {x : Nat} {K : World → Prop}
    (hk : ∀ w', Own .u64 tU64 w' s (nn (l.set i.toNat x)) b → Only b w w' → K w')
    (hT : isSl pr t .u64 = some tU64 := by kernel_rfl) : semA pr (Instr.indexAt t s.v (.int .i64 i)) w fun ad w1 => stC ad (.int .u64 (x : Int)) w1 fun w2 => K w2 := by
  have hi : i.toNat < (nn l).length := by rw [nn_length]; omega
  unfold semA
  rw [Sem.wp_iff_run, run_indexAt hT w s i _ h.A h0 (by rw [h.n, nn_length]; exact h1)]
  refine ⟨_, rfl, ?_⟩
  rw [add_off]
  have := h.set hi (x : Int)
  rw [nn_set] at this
  exact ⟨⟨_, h.cell hi⟩, h.frozen _, hk _ this (Only.setCell b _ w _)⟩


end Mul
end Go.Proofs.YthhbjhdnaopcnaaDoor
