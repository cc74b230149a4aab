/- The contract of mul.Mul; the law MulNames. No condition. -/
import Derived.Test.YtindbeolpjkijaaMul4
import Derived.Test.YtindbeolpjkijaaRef3
import Derived.Test.YtindbeolpjkijaaLaw1
namespace Go.Proofs.Ytindbeolpjkijaa
open Go Go.RowKit Eng Sp Dg
set_option linter.unusedVariables false
set_option linter.unusedSimpArgs false
set_option maxRecDepth 100000
namespace Mul
open _root_.Go.Proofs.Ytindbeolpjkijaa.Nat (ldN ldNf stN mkN Num OwnNil len_le Norm_spec Length_spec Ret bigC bigC_ok own_num digs_len_bl Yes)

theorem fits_spec {w : World} {s : Slc} {l : List Nat} (h : Rd .u64 w s (nn l)) (hl : l.length ≤ 2 ^ 44) (ol : ok B64 l) : Calls pr mul_fits_id #[s.v] w (Ret w (bigC (val B64 l)) (val B64 l)) := by
  have hd := len_le ol
  refine mul_fits_vc s w _ (Calls.mono (Norm_spec h hl ol) ?_)
  rintro e w1 ⟨h1, t, rfl, ho⟩
  refine ⟨_, rfl, Calls.mono (Length_spec ho.rd (by omega) (ok_digs two64 _)) ?_⟩
  rintro e w2 ⟨rfl, rfl⟩
  rw [val_digs two64]
  refine ⟨_, rfl, br_intro (fun hb => ?_) (fun hb => ?_)⟩
  · have hc : bigC (val B64 l) = 3 := by rw [bigC, if_neg (by simp at hb; omega)]
    rw [hc]
    exact ⟨h1, _, rfl, by rw [if_neg (by omega)]; exact OwnNil.nil⟩
  · have hc : bigC (val B64 l) = 0 := by rw [bigC, if_pos (by simp at hb; omega)]
    rw [hc]
    exact ⟨h1, _, rfl, by rw [if_pos rfl]; exact ho⟩

theorem bl_mul {x y : Nat} (hx : x ≠ 0) (hy : y ≠ 0) : bl x + bl y - 1 ≤ bl (x * y) := by
  have h1 := (bl_bounds hx).1
  have h2 := (bl_bounds hy).1
  have p1 := bl_pos hx
  have p2 := bl_pos hy
  have h3 := Nat.mul_le_mul h1 h2
  rw [← Nat.pow_add] at h3
  rcases Nat.lt_or_ge (bl (x * y)) (bl x + bl y - 1) with h | h
  · exfalso
    have h4 := bl_le_iff.1 (show bl (x * y) ≤ bl x - 1 + (bl y - 1) by omega)
    omega
  · exact h

theorem great_spec {w : World} {a b : Slc} {x y : Nat} (ha : Num w a x) (hb : Num w b y) :
    Calls pr mul_great_id #[a.v, b.v] w fun e w' => w' = w ∧ ∃ c : Bool, e = .returned (.bool c) ∧ (c = true ↔ x ≠ 0 ∧ y ≠ 0 ∧ 67108864 < bl x + bl y - 1) := by
  have bx := ha.bl
  have by' := hb.bl
  refine mul_great_vc a b w _ (Calls.mono (Nat.len_num ha) ?_)
  rintro e w1 ⟨rfl, rfl⟩
  refine ⟨_, rfl, Calls.mono (Nat.len_num hb) ?_⟩
  rintro e w2 ⟨rfl, rfl⟩
  have zx : bl x = 0 ↔ x = 0 := ⟨fun h => by rcases Nat.eq_zero_or_pos x with h1 | h1; exact h1; have := bl_pos (n := x) (by omega); omega, fun h => by rw [h, bl_zero]⟩
  have zy : bl y = 0 ↔ y = 0 := ⟨fun h => by rcases Nat.eq_zero_or_pos y with h1 | h1; exact h1; have := bl_pos (n := y) (by omega); omega, fun h => by rw [h, bl_zero]⟩
  refine ⟨_, rfl, br_intro (fun h => br_intro (fun h' => ?_) (fun h' => ?_)) (fun h => ?_)⟩
  · have h1 : 0 < bl x := by simp at h; omega
    have h2 : 0 < bl y := by simp at h'; omega
    rw [wrap_i64 (x := (bl x : Int) + (bl y : Int)) (by omega) (by omega), wrap_i64 (by omega) (by omega)]
    refine ⟨rfl, _, rfl, ?_⟩
    simp only [decide_eq_true_eq]
    constructor
    · intro h3
      exact ⟨fun e => by have := zx.2 e; omega, fun e => by have := zy.2 e; omega, by omega⟩
    · rintro ⟨_, _, h3⟩
      omega
  · have h2 : bl y = 0 := by simp at h'; omega
    exact ⟨rfl, _, rfl, by simp [zy.1 h2]⟩
  · have h2 : bl x = 0 := by simp at h; omega
    exact ⟨rfl, _, rfl, by simp [zx.1 h2]⟩

theorem Mul_spec {w : World} {a b : Slc} {x y : Nat} (ha : Num w a x) (hb : Num w b y) (la : (digs B64 x).length + 16 ≤ 2 ^ 44) (lb : (digs B64 y).length + 16 ≤ 2 ^ 44) :
    Calls pr mul_Mul_id #[a.v, b.v] w (Ret w (bigC (x * y)) (x * y)) := by
  obtain ⟨l, ra, na, oa, rfl⟩ := ha
  obtain ⟨m, rb, nb, ob, rfl⟩ := hb
  refine mul_Mul_vc a b w _ ?_
  refine mul_product__mul_Mul_1_vc a b w _ (Calls.mono (Norm_spec ra na oa) ?_)
  rintro e w1 ⟨h1, s, rfl, os⟩
  refine ⟨_, rfl, Calls.mono (Norm_spec (rb.ahead h1) nb ob) ?_⟩
  rintro e w2 ⟨h2, t, rfl, ot⟩
  have h12 := h1.trans h2
  have rs := (os.ahead h2).rd
  have rt := ot.rd
  have ns : Num w2 s (val B64 l) := ⟨_, rs, by omega, ok_digs two64 _, val_digs two64 _⟩
  have nt : Num w2 t (val B64 m) := ⟨_, rt, by omega, ok_digs two64 _, val_digs two64 _⟩
  generalize val B64 l = x at *
  generalize val B64 m = y at *
  refine ⟨_, rfl, Calls.mono (great_spec ns nt) ?_⟩
  rintro e w3 ⟨rfl, c, rfl, hc⟩
  refine ⟨_, rfl, br_intro (fun h => ?_) (fun h => ?_)⟩
  · obtain ⟨h3, h4, h5⟩ := hc.1 h
    have := bl_mul h3 h4
    have hcc : bigC (x * y) = 3 := by rw [bigC, if_neg (by omega)]
    rw [hcc]
    exact ⟨_, _, rfl, h12, _, rfl, by rw [if_neg (by omega)]; exact OwnNil.nil⟩
  · have hsz : (digs B64 x).length + (digs B64 y).length + 16 ≤ 2 ^ 44 := by
      by_cases hx : x = 0
      · subst hx; rw [digs_zero]; simp; omega
      · by_cases hy : y = 0
        · subst hy; rw [digs_zero]; simp; omega
        · have hbl : bl x + bl y - 1 ≤ 67108864 := by
            rcases Nat.lt_or_ge 67108864 (bl x + bl y - 1) with h6 | h6
            · have := hc.2 ⟨hx, hy, h6⟩; rw [h] at this; cases this
            · exact h6
          have p1 := bl_pos hx
          have p2 := bl_pos hy
          have := digs_len_bl (N := x) (m := 2 ^ 21) (by omega)
          have := digs_len_bl (N := y) (m := 2 ^ 21) (by omega)
          omega
    refine mul_Mul_1_vc s t w3 _ (Calls.mono (halved_spec _ w3 s _ rs (ok_digs two64 x) t _ rt (ok_digs two64 y) 40 (by omega) (by omega) (by omega) (Nat.le_refl _)) ?_)
    rintro e w4 ⟨h4, u, L, rfl, ou, nu, ku, vu⟩
    rw [val_digs two64, val_digs two64] at vu
    refine ⟨_, rfl, _, rfl, Calls.mono (fits_spec ou.rd (by omega) ku) ?_⟩
    rw [vu]
    rintro e w5 ⟨h5, v, rfl, ov⟩
    have hsz := (h12.trans h4).size
    exact ⟨_, _, rfl, _, _, rfl, (h12.trans h4).trans h5, _, rfl, ov.mono hsz⟩

theorem num_spec {w : World} {c : Int} : Calls pr surdlaw02_num_id #[.int .i64 c] w fun e w' => w' = w ∧ e = .returned (.int .i64 c) :=
  surdlaw02_num_vc c w _ ⟨rfl, rfl⟩

theorem lit64 (w : World) (l : List Nat) : Rd .u64 (w.alloc (.cells (ints .u64 (nn l)).toArray tU64 (0, 0))) ⟨some ⟨w.heap.size, 0, none⟩, l.length, l.length⟩ (nn l) :=
  Own.rd (t := tU64) (b := w.heap.size) ⟨by simp, [], by simp, by rw [get_alloc]; simp⟩

theorem awake_spec (w : World) : Calls pr surdlaw02_awake_id #[] w (Yes w) := by
  have hB := B64v
  refine surdlaw02_awake_vc w _ ?_
  have r1 := lit64 w [0, 1]
  have a1 := Ahead.alloc w (.cells (ints .u64 (nn [0, 1])).toArray tU64 (0, 0))
  have r2 := lit64 (w.alloc (.cells (ints .u64 (nn [0, 1])).toArray tU64 (0, 0))) [7, 3]
  have a2 := Ahead.alloc (w.alloc (.cells (ints .u64 (nn [0, 1])).toArray tU64 (0, 0))) (.cells (ints .u64 (nn [7, 3])).toArray tU64 (0, 0))
  have ok2 : ∀ x y : Nat, x < 100 → y < 100 → ok B64 [x, y] := fun x y hx hy z hz => by simp at hz; omega
  have v1 : val B64 [0, 1] = B64 := by simp [val]
  have v2 : val B64 [7, 3] = 7 + B64 * 3 := by simp [val]
  have v3 : val B64 [0, 7, 3] = B64 * (7 + B64 * 3) := by simp [val]
  have n1 : Num _ _ B64 := ⟨[0, 1], r1.ahead a2, by simp, ok2 0 1 (by omega) (by omega), v1⟩
  have n2 : Num _ _ (7 + B64 * 3) := ⟨[7, 3], r2, by simp, ok2 7 3 (by omega) (by omega), v2⟩
  have hb1 : bl B64 ≤ 64 * 2 := bl_le (by rw [hB]; omega)
  have hb2 : bl (7 + B64 * 3) ≤ 64 * 2 := bl_le (by rw [hB]; omega)
  have hb3 : bl (B64 * (7 + B64 * 3)) ≤ 64 * 3 := bl_le (by rw [hB]; omega)
  have l1 := digs_len_bl hb1
  have l2 := digs_len_bl hb2
  have l3 := digs_len_bl hb3
  refine Calls.mono (Mul_spec n1 n2 (by omega) (by omega)) ?_
  intro e w3 hr
  have hcc : bigC (B64 * (7 + B64 * 3)) = 0 := bigC_ok (by omega)
  obtain ⟨h3, s, rfl, os, _⟩ := hr.num hcc (by omega)
  have h03 := (a1.trans a2).trans h3
  refine ⟨_, _, rfl, Calls.mono num_spec ?_⟩
  rintro e w4 ⟨rfl, rfl⟩
  refine ⟨_, rfl, br_true rfl ?_⟩
  have a5 := Ahead.alloc w4 (.cells (ints .u64 (nn [0, 7, 3])).toArray tU64 (0, 0))
  refine Calls.mono (Ref.Of_spec (lit64 w4 [0, 7, 3]) (by simp) (fun z hz => by simp at hz; omega)) ?_
  rintro e w6 ⟨h6, t, rfl, rt⟩
  rw [v3] at rt
  refine ⟨_, rfl, Calls.mono (Ref.Is_spec rt ((os.ahead a5).ahead h6).rd (by omega)) ?_⟩
  rintro e w7 ⟨h7, rfl⟩
  exact ⟨_, rfl, rfl, ((h03.trans a5).trans h6).trans h7⟩

theorem end_awake {w0 w : World} (ha : Ahead w0 w) : Calls pr surdlaw02_awake_id #[] w fun e w' => ∃ b : Bool, e = .returned (.bool b) ∧ Yes w0 (.returned (.bool b)) w' :=
  Calls.mono (awake_spec w) fun e w' ⟨he, h⟩ => ⟨true, he, rfl, ha.trans h⟩

theorem MulNames_ok (w : World) : Calls pr surdlaw02_MulNames_id #[] w (Yes w) := by
  refine surdlaw02_MulNames_vc w _ (Calls.mono num_spec ?_)
  rintro e w1 ⟨rfl, rfl⟩
  refine ⟨_, rfl, br_true rfl (Calls.mono num_spec ?_)⟩
  rintro e w2 ⟨rfl, rfl⟩
  exact ⟨_, rfl, br_true rfl (end_awake (Ahead.refl _))⟩

end Mul
end Go.Proofs.Ytindbeolpjkijaa
