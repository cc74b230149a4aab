/- The contracts of mul's inner functions: copy, part, sum, less, school. No condition. -/
import Derived.Test.YthhbjhdnaopcnaaDoorMul1
namespace Go.Proofs.YthhbjhdnaopcnaaDoor
open Go Go.RowKit Eng Sp Dg
set_option linter.unusedVariables false
set_option linter.unusedSimpArgs false
set_option maxRecDepth 100000
namespace Mul
open _root_.Go.Proofs.YthhbjhdnaopcnaaDoor.Nat (ldN ldNf stN mkN Fill mkF stF stFf Num OwnNil add64 sub64)

theorem rd_off {w : World} {s : Slc} {l : List Int} {kd : IntKind} (hr : Rd kd w s l) {k : Nat} (hk : w.heap.size ≤ k) : Off k s := by
  intro ad e hp
  obtain ⟨ad', e', hc⟩ := hr.get 0 (by have := hr.n; omega)
  rw [e] at e'
  obtain rfl := Option.some.inj e'
  intro hb
  have hnone : w.heap[k]? = none := by simp [hk]
  have : (ad.add 0).block = k := by rw [add_block]; exact hb
  simp [World.cell?, this, hnone] at hc

/-- copy, onto a row of the call's own, of what is no longer. -/
theorem cpO {t : TypeId} {w : World} {s x : Slc} {l ys : List Nat} {b : Nat} {ty : TypeId} (h : Own .u64 tU64 w s (nn l) b) (hx : Rd .u64 w x (nn ys)) (hle : ys.length ≤ l.length) {K : Int → World → Prop}
    (hk : ∀ n w', Own .u64 tU64 w' s (nn (ys ++ l.drop ys.length)) b → Only b w w' → K n w')
    (hT : isSl pr t .u64 = some tU64 := by kernel_rfl) : semI pr .i64 (Builtin.copy_ #[t, t] ty #[s.v, x.v]) w K := by
  obtain ⟨hu, he, inf, hi, hs1, hb8, hz⟩ := isSl_out hT
  obtain ⟨sp, hc, hh⟩ := h.mem
  have hsv : s.v = .slice (some ⟨b, 0, none⟩) l.length s.c := by rw [Slc.v, h.A, h.n, nn_length]
  have hxn : x.n = ys.length := by rw [hx.n, nn_length]
  unfold semI
  rw [Sem.wp_iff_run, hsv]
  obtain ⟨A, n, c⟩ := x
  simp only at hxn
  subst hxn
  cases A with
  | none =>
    have hnil : ys = [] := by
      cases ys with
      | nil => rfl
      | cons y ys =>
        obtain ⟨ad, e, _⟩ := hx.get 0 (by simp)
        cases e
    subst hnil
    have hr : (Builtin.copy_ #[t, t] ty #[.slice (some ⟨b, 0, none⟩) l.length s.c, Slc.v ⟨none, 0, c⟩]).run pr w = .ok (goInt 0) w := by
      simp [Builtin.copy_, Slc.v, run_underlying hu, Builtin.lenOf, Builtin.firstCells, sizeOf, typeInfo, hi, storeCells]
    simp only [List.length_nil]
    rw [hr]
    exact ⟨_, rfl, hk _ _ (by simpa using h) (Only.refl _ _)⟩
  | some ad =>
    have hr := run_copy_row (P := pr) w t t ty tU64 b 0 l.length s.c ad ys.length c (ints .u64 (nn l) ++ sp).toArray tU64 (ints .u64 (nn ys)) hu (by rw [hi]; simp [hs1]) hh (by simp [ints, Nat.min_eq_left hle])
      (fun j v hj => by
        have hj' : j < (nn ys).length := by
          have := (List.getElem?_eq_some_iff.1 hj).1
          simpa [ints] using this
        obtain ⟨ad', e', hcc⟩ := hx.get j hj'
        obtain rfl := Option.some.inj e'
        rw [ints_get hj'] at hj
        obtain rfl := Option.some.inj hj
        exact hcc) (by simp [ints]; omega) (by simp [ints, Value.oneCell'])
    have hxv : Slc.v ⟨some ad, ys.length, c⟩ = .slice (some ad) ys.length c := rfl
    rw [hxv, hr]
    refine ⟨_, rfl, hk _ _ ⟨?_, sp, ?_, ?_⟩ (Only.setRow _ _ _)⟩
    · rw [h.hd]; simp; omega
    · rw [hc]; simp; omega
    · rw [setRow_heap w b _ _ tU64 (0, 0) hh]
      congr 2
      simp [ints, nn, List.drop_append, show ys.length - l.length = 0 by omega]


theorem val_append_zeros (l : List Nat) (n : Nat) : val B64 (l ++ List.replicate n 0) = val B64 l := by rw [val_append, val_replicate, Nat.mul_zero, Nat.add_zero]



end Mul
end Go.Proofs.YthhbjhdnaopcnaaDoor
