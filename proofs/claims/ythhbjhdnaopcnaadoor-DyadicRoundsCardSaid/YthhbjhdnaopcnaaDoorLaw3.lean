/- The laws NatSums and NatShifts. No condition. -/
import Derived.Test.YthhbjhdnaopcnaaDoorRef4
import Derived.Test.YthhbjhdnaopcnaaDoorLaw1
namespace Go.Proofs.YthhbjhdnaopcnaaDoor
open Go Go.RowKit Eng Sp Dg
set_option linter.unusedVariables false
set_option linter.unusedSimpArgs false
set_option maxRecDepth 100000
namespace Ref
open _root_.Go.Proofs.YthhbjhdnaopcnaaDoor.Nat (OwnNil Num Ret bigC subC Yes own_num num_of digs_len_bl bigC_ok)

theorem low_ahead {w0 w w' : World} {base : Nat} (ha : Ahead w0 w) (hb : w0.heap.size ≤ base) (h : Below base w w') : Ahead w0 w' := Below.trans ha (Below.mono h hb)

theorem own_listV {base : Nat} {w : World} (ss : List (Slc × List Nat)) (hb : base ≤ w.heap.size) (h : ∀ p ∈ ss, OwnNil base w p.1 p.2 ∧ (p.2.length + 5) * 8 ≤ 2 ^ 47) (hp : ss.Pairwise fun p q => ∀ k, Bk p.1 k → ¬ Bk q.1 k) (hn : ss.length ≤ 1000)
    {arr : Array Value} {n : Nat} (harr : arr = (ss.map fun p => p.1.v).toArray) (hnn : n = ss.length) :
    Calls pr surdref01_Own_id #[Slc.v ⟨some ⟨w.heap.size, 0, none⟩, n, n⟩] (w.alloc (.cells arr tU64s (0, 0))) fun e w' => e = .returned (.bool true) ∧ Below base w w' ∧ (w.alloc (.cells arr tU64s (0, 0))).heap.size ≤ w'.heap.size ∧ ∀ k, k < w.heap.size → (∀ p ∈ ss, ¬ Bk p.1 k) → w'.heap[k]? = w.heap[k]? := by
  subst harr hnn
  have hget : ∀ j, j < ss.length → ss.getD j (⟨none, 0, 0⟩, []) ∈ ss := fun j hj => by
    rw [List.getD_eq_getElem?_getD, List.getElem?_eq_getElem hj]; exact List.getElem_mem hj
  have hal : ∀ {arr : Array Value} {t : TypeId}, Below base w (w.alloc (.cells arr t (0, 0))) := Below.alloc (Below.refl _ _) hb _
  refine Calls.mono (Own_spec (V := fun k => w.heap.size ≤ k ∨ ∃ p ∈ ss, Bk p.1 k) (base := base) (w0 := w.alloc (.cells (ss.map fun p => p.1.v).toArray tU64s (0, 0))) (ab := w.heap.size) (n := ss.length) (S := fun j => (ss.getD j (⟨none, 0, 0⟩, [])).1) (L := fun j => (ss.getD j (⟨none, 0, 0⟩, [])).2) ⟨Below.refl _ _, hb, ?_, ?_, ?_, ?_, ?_, fun _ _ _ => rfl, .inl (Nat.le_refl _), fun k hk => .inl (by rw [size_alloc] at hk; omega), fun j k hj hbk => .inr ⟨_, hget j hj, hbk⟩⟩ hn fun j hj => (h _ (hget j hj)).2) fun e w' ⟨⟨h1, h3⟩, h2⟩ => ⟨h2, Below.trans hal h1, h1.size, fun k hk hv => (h3 k (by rw [size_alloc]; omega) fun hh => by
    rcases hh with hh | ⟨p, hp, hh⟩
    · omega
    · exact hv p hp hh).trans (Below.heap_alloc _ _ _ hk)⟩
  · rw [size_alloc]; omega
  · rw [get_alloc]
    congr 3
    apply List.ext_getElem
    · simp
    · intro i h1 h2
      have hi : i < ss.length := by simpa using h1
      simp [List.getD_eq_getElem?_getD, hi]
  · intro j hj
    refine OwnNil.block (h _ (hget j hj)).1 fun k hk _ => Below.heap_alloc _ _ _ hk
  · intro j hj hbk
    rcases (h _ (hget j hj)).1 with ⟨h1, _⟩ | ⟨b, _, _, ho⟩
    · simp only [Bk, h1] at hbk; cases hbk
    · have : b = w.heap.size := congrArg Addr.block (Option.some.inj (ho.A.symm.trans hbk))
      have := ho.lt
      omega
  · intro i j k hi hj hij h1 h2
    rw [List.pairwise_iff_getElem] at hp
    simp only [List.getD_eq_getElem?_getD, List.getElem?_eq_getElem hi, List.getElem?_eq_getElem hj, Option.getD_some] at h1 h2
    rcases Nat.lt_or_ge i j with hlt | hge
    · exact hp i j hi hj hlt k h1 h2
    · exact hp j i hj hi (by omega) k h2 h1
theorem own_list {base : Nat} {w : World} (ss : List (Slc × List Nat)) (hb : base ≤ w.heap.size) (h : ∀ p ∈ ss, OwnNil base w p.1 p.2 ∧ (p.2.length + 5) * 8 ≤ 2 ^ 47) (hp : ss.Pairwise fun p q => ∀ k, Bk p.1 k → ¬ Bk q.1 k) (hn : ss.length ≤ 1000)
    {arr : Array Value} {n : Nat} (harr : arr = (ss.map fun p => p.1.v).toArray) (hnn : n = ss.length) :
    Calls pr surdref01_Own_id #[Slc.v ⟨some ⟨w.heap.size, 0, none⟩, n, n⟩] (w.alloc (.cells arr tU64s (0, 0))) fun e w' => e = .returned (.bool true) ∧ Below base w w' :=
  Calls.mono (own_listV ss hb h hp hn harr hnn) fun e w' ⟨h1, h2, _⟩ => ⟨h1, h2⟩

theorem old_new {b1 m : Nat} {wa wb : World} {s t : Slc} {l l' : List Nat} (hs : OwnNil b1 wa s l) (hm : wa.heap.size ≤ m) (ht : OwnNil m wb t l') (k : Nat) (h1 : Bk s k) : ¬ Bk t k := by
  intro h2
  rcases hs with ⟨rfl, _⟩ | ⟨b, _, _, ho⟩
  · simp [Bk] at h1
  rcases ht with ⟨rfl, _⟩ | ⟨b', hb', _, ho'⟩
  · simp [Bk] at h2
  have e1 : b = k := congrArg Addr.block (Option.some.inj (ho.A.symm.trans h1))
  have e2 : b' = k := congrArg Addr.block (Option.some.inj (ho'.A.symm.trans h2))
  have := ho.lt
  omega


theorem len32 {l : List Nat} (h : ok B64 l) : (digs B32 (val B64 l)).length ≤ 2 * l.length := by
  refine digs_length_le two32 ?_
  rw [← b64_sq]
  exact val_lt h
theorem digs_own_len {n : Nat} {code : Int} (hc : code = bigC n) : ((if code = 0 then digs B64 n else []).length + 5) * 8 ≤ 2 ^ 47 := by
  subst hc
  unfold bigC
  by_cases h : bl n ≤ 67108864
  · rw [if_pos h, if_pos rfl]
    have := digs_len_bl (N := n) (m := 2 ^ 20) (by omega)
    omega
  · rw [if_neg h, if_neg (by omega)]; simp

theorem digs_add_len {B x y k : Nat} (hB : 2 ≤ B) (hx : (digs B x).length ≤ k) (hy : (digs B y).length ≤ k) : (digs B (x + y)).length ≤ k + 1 := by
  have h : ∀ z, (digs B z).length ≤ k → z < B ^ k := fun z hz => by
    have := val_lt (ok_digs hB z)
    rw [val_digs hB] at this
    exact Nat.lt_of_lt_of_le this (Nat.pow_le_pow_right (by omega) hz)
  refine digs_length_le hB ?_
  have h1 := h x hx
  have h2 := h y hy
  rw [Nat.pow_succ]
  have := Nat.mul_le_mul_left (B ^ k) hB
  omega


end Ref
end Go.Proofs.YthhbjhdnaopcnaaDoor
