/- What stays when only local variables and new memory change. No condition. -/
import Derived.Test.YthhbjhdnaopcnaaDoorL2
import Derived.Test.YthhbjhdnaopcnaaDoorNatC
import Derived.Test.YthhbjhdnaopcnaaDoorRef1
import Derived.Test.YthhbjhdnaopcnaaDoorLaw3
namespace Go.Proofs.YthhbjhdnaopcnaaDoor
open Go Go.RowKit Eng Sp Dg L2
set_option linter.unusedVariables false
namespace Nat
theorem OwnNil.ext {base : Nat} {w w' : World} {s : Slc} {l : List Nat} (h : OwnNil base w s l) (x : Ext w w') : OwnNil base w' s l := by
  rcases h with h | ⟨b, h1, h2, h3⟩
  · exact .inl h
  · exact .inr ⟨b, h1, h2, h3.ext x⟩
theorem Num.ext {w w' : World} {s : Slc} {n : Nat} (h : Num w s n) (x : Ext w w') : Num w' s n := by
  obtain ⟨l, h1, h2⟩ := h
  exact ⟨l, h1.ext x, h2⟩
end Nat
namespace Ref
theorem Lent.ext {base : Nat} {w w' : World} {s t : Slc} {l : List Nat} (h : Lent base w s t l) (x : Ext w w') : Lent base w' s t l := by
  obtain ⟨b, h1, h2, h3, h4⟩ := h
  exact ⟨b, h1, h2, h3.ext x, h4⟩
theorem RN.ext {w w' : World} {s : Slc} {n : Nat} (h : RN w s n) (x : Ext w w') : RN w' s n := Sp.Rd.ext h x
/-- Own, as a step. -/
theorem own_step {base : Nat} {w0 w : World} (hw0 : w0.heap.size ≤ base) (ss : List (Slc × List Nat)) (hb : base ≤ w.heap.size) (h : ∀ p ∈ ss, Nat.OwnNil base w p.1 p.2 ∧ (p.2.length + 5) * 8 ≤ 2 ^ 47) (hp : ss.Pairwise fun p q => ∀ k, Bk p.1 k → ¬ Bk q.1 k) (hn : ss.length ≤ 1000)
    {arr : Array Value} {n : Nat} (harr : arr = (ss.map fun p => p.1.v).toArray) (hnn : n = ss.length) :
    Calls pr surdref01_Own_id #[Slc.v ⟨some ⟨w.heap.size, 0, none⟩, n, n⟩] (w.alloc (.cells arr tU64s (0, 0))) fun e w' => e = .returned (.bool true) ∧ OwnStep w0 (w.alloc (.cells arr tU64s (0, 0))) w' ∧ Below base w w' := by
  refine Calls.mono (own_listV ss hb h hp hn harr hnn) fun e w' ⟨h1, hlow, hsz, hkeep⟩ => ⟨h1, ⟨fun k => w.heap.size ≤ k ∨ ∃ p ∈ ss, Bk p.1 k, ⟨hlow.os, hlow.tape, hlow.output, hsz, fun k hk hv => ?_⟩, fun k hv => ⟨?_, fun t cs hc ht => ?_⟩⟩, hlow⟩
  · have hk' : k < w.heap.size := by
      rcases Nat.lt_or_ge k w.heap.size with h | h
      · exact h
      · exact absurd (.inl h) hv
    rw [hkeep k hk' fun p hp hbk => hv (.inr ⟨p, hp, hbk⟩)]
    exact (Below.heap_alloc _ _ _ hk').symm
  · rcases hv with hv | ⟨p, hp, hbk⟩
    · omega
    · rcases (h p hp).1 with ⟨h2, _⟩ | ⟨b, h2, _, h3⟩
      · simp only [Bk, h2] at hbk; cases hbk
      · have : b = k := congrArg Addr.block (Option.some.inj (h3.A.symm.trans hbk))
        omega
  · rcases hv with hv | ⟨p, hp, hbk⟩
    · rcases Nat.eq_or_lt_of_le hv with rfl | hv
      · rw [get_alloc] at hc
        have := Option.some.inj hc
        injection this with q1 q2 q3
        rw [← q2] at ht
        simp [rowTy] at ht
      · have := (Array.getElem?_eq_some_iff.1 hc).1
        rw [size_alloc] at this
        omega
    · rcases (h p hp).1 with ⟨h2, _⟩ | ⟨b, h2, _, h3⟩
      · simp only [Bk, h2] at hbk; cases hbk
      · have e : b = k := congrArg Addr.block (Option.some.inj (h3.A.symm.trans hbk))
        subst e
        obtain ⟨sp, _, hm⟩ := h3.mem
        have hl := h3.lt
        rw [Below.heap_alloc _ _ _ hl, hm] at hc
        have := Option.some.inj hc
        injection this with q1 q2 q3
        rw [← q2] at ht
        simp [rowTy] at ht
end Ref
end Go.Proofs.YthhbjhdnaopcnaaDoor
