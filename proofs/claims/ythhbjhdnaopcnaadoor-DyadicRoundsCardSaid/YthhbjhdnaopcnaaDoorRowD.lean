/- From a row's argument that is a dyadic of any shape, and from the listed table, to what the contracts ask. No condition. -/
import Derived.Test.YthhbjhdnaopcnaaDoorRow
import Derived.Test.YthhbjhdnaopcnaaDoorDy1
import Derived.Deep.Strs
import Derived.ChangeSlices
import Derived.SizedLaws
import Derived.Lib.LaidTab
namespace Go.Proofs.YthhbjhdnaopcnaaDoor
open Go Go.RowKit Eng Sp Dg
open Go.ChangeShapes Go.WideShapes
set_option linter.unusedVariables false
set_option linter.unusedSimpArgs false

theorem open_D {H : Type} {enc : TypeId × Value → H} {P : Program} {W : World} {t e : TypeId} {f0 f1 f2 : Field} {cs : Array Value} {d : DataW H} {ps : List MemPlace} {ts : List TypeId} {ds : List (DataW H)} {j : Nat}
    (ht : P.underlying t = some (.struct #[f0, f1, f2])) (ho : f0.offset = 0 ∧ f1.offset = 1 ∧ f2.offset = 2) (hc : P.cellsOf f0.type = 1 ∧ P.cellsOf f1.type = 1 ∧ P.cellsOf f2.type = 1 ∧ P.cellsOf t = 3)
    (hu : P.underlying f0.type = some .bool ∧ P.underlying f1.type = some (.slice e) ∧ P.underlying f2.type = some (.int .i64)) (he : P.underlying e = some (.int .u64)) (hce : P.cellsOf e = 1) (hb : P.bytesOf e = 8)
    (hsz : (DataW.weightsEach P ts ds).all (· ≤ reachBytes) = true) (htj : ts[j]? = some t) (hdj : ds[j]? = some d)
    (h : DataW.Trod enc P W 0 (fun _ => true) true t (.agg cs) d ps) :
    ∃ (b : Bool) (s : Slc) (x : Int) (l : List Nat), cs = Sb.c3 b s x ∧ Rd .u64 W s (nn l) ∧ ok B64 l ∧ l.length * 8 ≤ 140737488351232 ∧ -9223372036854775808 ≤ x ∧ x ≤ 9223372036854775807 := by
  obtain ⟨fuel, hf⟩ := h
  obtain ⟨y0, y1, y2, n, hx, hl, g0, g1, g2⟩ := Go.Deep.trod_struct3 ht hf
  rw [hc.1, ho.1] at g0
  rw [hc.2.1, ho.2.1] at g1
  rw [hc.2.2.1, ho.2.2] at g2
  rw [hc.2.2.2] at hl
  have hcs : (Value.agg cs).cells = cs := rfl
  rw [hcs] at hl g0 g1 g2
  obtain ⟨hd, _⟩ := Prod.mk.inj hx
  obtain ⟨b, hb0, _⟩ := DataW.trod_bool hu.1 g0
  obtain ⟨x, hx2, _, hw⟩ := DataW.trod_int hu.2.2 g2
  have hx' := wf_i64 hw
  obtain ⟨A, m, c, zs, hs1, hrow, hlen⟩ : ∃ A m c zs, (cs.toList.drop 1).take 1 = [Value.slice A m c] ∧ IsRow .u64 W A m c zs ∧ m * 8 ≤ 140737488351232 := by
    rcases open_ints hu.2.1 he hce g1 with ⟨hs, _⟩ | ⟨a, m, c, zs, hs, _, hl1, hm, hz, hy1, hcell, hwz⟩
    · exact ⟨none, 0, 0, [], hs, .inl ⟨rfl, rfl, rfl, rfl⟩, by omega⟩
    · refine ⟨some a, m, c, zs, hs, .inr ⟨a, rfl, hl1, hm, by simpa using hz, hcell, hwz⟩, ?_⟩
      have hmem : ((zs.take m).length + (zs.drop m).length) * 8 ∈ d.weights P t := by
        rw [hd, hy1]
        simp [DataW.weights, ht, DataW.weightsEach, hu.2.1, hb, lits]
      have := List.all_eq_true.1 hsz _ (DataW.weights_mem_each htj hdj _ hmem)
      have h1 : (zs.take m).length + (zs.drop m).length = zs.length := by simp; omega
      have hz' : zs.length = c := by simpa using hz
      rw [h1, hz'] at this
      have h2 : c * 8 ≤ reachBytes := by simpa using this
      have h3 : reachBytes = 140737488351232 := by decide
      omega
  obtain ⟨l, hll, hr, ho'⟩ := hrow.rd
  refine ⟨b, ⟨A, m, c⟩, x, l, ?_, hr, ho', by omega, hx'.1, hx'.2⟩
  obtain ⟨cl⟩ := cs
  match cl, hl with
  | [a0, a1, a2], _ =>
    simp at hb0 hs1 hx2
    rw [hb0, hs1, hx2]; rfl

/-- The listed table. -/
theorem tab_of {W : World} {rest : List (String × DataW Unit)} (hg : pr.globalNamed "math/bits.deBruijn64tab" = some 0) {t e : TypeId} (hty : (pr.globals[0]?).map (·.type) = some t) (ht : pr.underlying t = some (.array 64 e)) (he : pr.underlying e = some (.int .u8)) (hce : pr.cellsOf e = 1) (hct : pr.cellsOf t = 64)
    (h : laidMet pr (("math/bits.deBruijn64tab", Lib.tabData .u8 (Lib.deBruijn64tab.map fun n : Nat => (n : Int))) :: rest) W) : Dy.Tab W := by
  have h1 := Lib.tabIs_of_head hg hty ht he hce hct h
  intro j hj
  have := h1.cell hg j (by simpa [Lib.deBruijn64tab] using hj)
  rw [this]
  simp [List.getD_eq_getElem?_getD, List.getElem?_map]
  have hj' : j < Lib.deBruijn64tab.length := by simpa [Lib.deBruijn64tab] using hj
  simp [hj']

end Go.Proofs.YthhbjhdnaopcnaaDoor
