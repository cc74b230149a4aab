/- From a row's arguments to what the contracts ask of them. No condition. -/
import Derived.Test.YthhbjhdnaopcnaaDoorNm
namespace Go.Proofs.YthhbjhdnaopcnaaDoor
open Go Go.RowKit Eng Sp Dg
set_option linter.unusedVariables false
set_option linter.unusedSimpArgs false

/-- A slice of numbers that came in. -/
def IsRow (k : IntKind) (w : World) (a : Option Addr) (len cap : Nat) (zs : List Int) : Prop :=
  (a = none ∧ len = 0 ∧ cap = 0 ∧ zs = []) ∨
  ∃ x, a = some x ∧ len ≤ cap ∧ cap ≤ maxLen ∧ zs.length = cap ∧ (∀ i, i < zs.length → w.cell? (x.add i) = some (.int k (zs.getD i 0))) ∧ ∀ n ∈ zs, (Lit.int k n).wf = true

theorem wf_i64 {x : Int} (h : (Lit.int .i64 x).wf = true) : -9223372036854775808 ≤ x ∧ x ≤ 9223372036854775807 := by
  simp [Lit.wf, IntKind.min, IntKind.max, IntKind.signed, IntKind.bits] at h; exact h
theorem wf_u64 {x : Int} (h : (Lit.int .u64 x).wf = true) : 0 ≤ x ∧ x < 18446744073709551616 := by
  simp [Lit.wf, IntKind.min, IntKind.max, IntKind.signed, IntKind.bits] at h; omega

theorem IsRow.rd {w : World} {a : Option Addr} {len cap : Nat} {zs : List Int} (h : IsRow .u64 w a len cap zs) :
    ∃ l : List Nat, l.length = len ∧ Rd .u64 w ⟨a, len, cap⟩ (nn l) ∧ ok B64 l := by
  rcases h with ⟨rfl, rfl, rfl, rfl⟩ | ⟨x, rfl, hl, _, hz, hc, hw⟩
  · exact ⟨[], rfl, Rd.nil, ok_nil⟩
  · have hnn : nn ((zs.take len).map Int.toNat) = zs.take len := by
      unfold nn
      rw [List.map_map]
      conv => rhs; rw [← List.map_id (zs.take len)]
      apply List.map_congr_left
      intro y hy
      have := wf_u64 (hw y (List.mem_of_mem_take hy))
      simp [Function.comp]; omega
    refine ⟨(zs.take len).map Int.toNat, by simp; omega, ⟨by rw [hnn]; simp; omega, hl, fun i hi => ⟨x, rfl, ?_⟩⟩, ?_⟩
    · rw [hnn] at hi ⊢
      have hi' : i < len := by simp at hi; omega
      rw [hc i (by omega)]
      simp [List.getD_eq_getElem?_getD, List.getElem?_take, hi']
    · intro y hy
      obtain ⟨z, hz1, rfl⟩ := List.mem_map.1 hy
      have := wf_u64 (hw z (List.mem_of_mem_take hz1))
      have hB := B64v
      omega

end Go.Proofs.YthhbjhdnaopcnaaDoor
