/- The document's dyadics (surdref06, surdref08): made, told, compared; the laws' own functions. No condition: the library's table is a premise. -/
import Derived.Test.YthhbjhdnaopcnaaDoorDy1
import Derived.Test.YthhbjhdnaopcnaaDoorVcDyR
import Derived.Test.YthhbjhdnaopcnaaDoorLaw1
namespace Go.Proofs.YthhbjhdnaopcnaaDoor
open Go Go.RowKit Eng Sp Dg
set_option linter.unusedVariables false
set_option linter.unusedSimpArgs false
set_option maxRecDepth 100000
namespace Dy
open _root_.Go.Proofs.YthhbjhdnaopcnaaDoor.Nat (ldN OwnNil Num Num.bl OwnNil.mono bigC bigC_ok semShr digs_len_bl Yes andI_nat num_of)
open _root_.Go.Proofs.YthhbjhdnaopcnaaDoor.Ref (RN RN.nil Of_spec Is_spec Len_spec zero_spec Shr_spec Int_spec tdiv32 tmod32)
open Sb

theorem bit_digit (U s : Nat) (hs : s < 32) : U % 2 ^ 32 / 2 ^ s % 2 = U / 2 ^ s % 2 := by
  have h : (2 : Nat) ^ 32 = 2 ^ s * (2 * 2 ^ (31 - s)) := by rw [← Nat.pow_succ', ← Nat.pow_add]; congr 1; omega
  rw [h, Nat.mod_mul_right_div_self, Nat.mod_mul_right_mod]
theorem Bit_spec {w : World} {s : Slc} {x : Nat} {i : Nat} (h : RN w s x) (hl : (digs B32 x).length ≤ 2 ^ 46) (hi : i ≤ 9223372036854775807) :
    Calls pr surdref01_Num_Bit_id #[s.v, .int .i64 (i : Int)] w fun e w' => w' = w ∧ e = .returned (.int .i64 ((x / 2 ^ i % 2 : Nat) : Int)) := by
  have hn := h.n
  have ox := ok_digs two32 x
  have vx := val_digs two32 x
  have hB := B32v
  have hp2 : B32 ^ (i / 32) * 2 ^ (i % 32) = 2 ^ i := (pow_split i 32).symm
  have hx : x / 2 ^ i % 2 = (digs B32 x).getD (i / 32) 0 / 2 ^ (i % 32) % 2 := by
    rw [digit (by omega : 0 < B32) _ ox (i / 32), vx, ← hp2, ← Nat.div_div_eq_div_mul, show B32 = 2 ^ 32 from rfl, bit_digit _ _ (Nat.mod_lt _ (by omega))]
  have e0 : ((i : Int)).toNat = i := by omega
  unfold RN at h
  refine surdref01_Num_Bit_vc s i w _ (br_false (by simp) ?_)
  rw [tdiv32 (by omega) (by omega), tmod32 (by omega), e0]
  refine br_intro (fun hb => ?_) (fun hb => ?_)
  · refine ⟨rfl, ?_⟩
    have hb' : (digs B32 x).length ≤ i / 32 := by simp at hb; omega
    rw [hx, getD_ge _ 0 hb']
    simp
  · have hb' : i / 32 < (digs B32 x).length := by simp at hb; omega
    refine ldN h (by omega) (by omega) ?_
    refine semShr (by omega) ?_
    rw [Int.toNat_natCast]
    have hlt := ok_getD ox (by omega : 0 < B32) (i / 32)
    generalize (digs B32 x).getD (i / 32) 0 = d at *
    have hd : d / 2 ^ (i % 32) < B64 := Nat.lt_of_le_of_lt (Nat.div_le_self _ _) (by rw [B64v]; omega)
    rw [show (1 : Int) = ((1 : Nat) : Int) from rfl, andI_nat hd (by rw [B64v]; omega), Nat.and_one_is_mod, hx, wrap_i64 (by omega) (by omega)]
    exact ⟨rfl, rfl⟩

theorem rTail_spec {w : World} {s : Slc} {x : Nat} (h : RN w s x) (hl : (digs B32 x).length ≤ 2 ^ 46) :
    Calls pr surdref01_Num_Tail_id #[s.v] w fun e w' => w' = w ∧ e = .returned (.int .i64 (tz x)) := by
  have hn := h.n
  have hbl : bl x ≤ 2 ^ 51 := by
    have := Ref.bl_len32 (ok_digs two32 x)
    rw [val_digs two32] at this
    omega
  refine surdref01_Num_Tail_vc s w _ (fun t n w' => t = s ∧ w' = w ∧ x ≠ 0 ∧ ∃ j : Nat, n = (j : Int) ∧ j ≤ tz x) (fun _ n _ => (tz x - n).toNat) ?_ ?_
  · refine br_intro (fun hz => ?_) (fun hz => ?_)
    · have hx : x = 0 := by
        have : (digs B32 x).length = 0 := by simp at hz; omega
        rw [← val_digs two32 x, List.length_eq_zero_iff.1 this]; rfl
      subst hx
      exact ⟨rfl, by rw [tz_zero]; rfl⟩
    · refine ⟨rfl, rfl, fun e => ?_, 0, rfl, Nat.zero_le _⟩
      rw [e, digs_zero] at hn
      rw [hn] at hz
      simp at hz
  · rintro t n w1 ⟨rfl, rfl, hx, j, rfl, hj⟩
    have htz := tz_lt hx
    refine Calls.mono (Bit_spec h hl (by omega)) ?_
    rintro e w2 ⟨rfl, rfl⟩
    have e8 : IntKind.i64.wrap ((j : Int) + 1) = ((j + 1 : Nat) : Int) := by rw [wrap_i64 (by omega) (by omega)]; omega
    have hxj : x / 2 ^ j = 2 ^ (tz x - j) * od x := by
      have h1 := od_mul x
      have hp : 0 < 2 ^ j := Nat.pow_pos (by omega)
      conv => lhs; rw [← h1, show tz x = j + (tz x - j) by omega, Nat.pow_add, Nat.mul_assoc]
      rw [Nat.mul_div_cancel_left _ hp]
    refine ⟨_, rfl, br_intro (fun hb => ?_) (fun hb => ?_)⟩
    · have hne : j ≠ tz x := by
        intro he
        rw [hxj, he, Nat.sub_self, Nat.pow_zero, Nat.one_mul, od_odd hx] at hb
        simp at hb
      exact ⟨⟨rfl, rfl, hx, j + 1, e8, by omega⟩, by rw [e8]; omega⟩
    · have he : j = tz x := by
        rcases Nat.lt_or_ge j (tz x) with hlt | hge
        · exfalso
          rw [hxj, show tz x - j = (tz x - j - 1) + 1 by omega, Nat.pow_succ, Nat.mul_comm (2 ^ _), Nat.mul_assoc, Nat.mul_mod_right] at hb
          simp at hb
        · omega
      subst he
      exact ⟨rfl, rfl⟩

/-! ### Whole numbers of the document -/
theorem make1_spec {w : World} {neg : Bool} {s : Slc} {x : Nat} (h : RN w s x) :
    Calls pr surdref06_make1_id #[.bool neg, s.v] w fun e w' => Ahead w w' ∧ e = .returned (.agg (c2 (nD neg x) s)) ∧ RN w' s x := by
  refine surdref06_make1_vc neg s w _ (newC_b fun b w1 hb h1 hs1 B1 => br_intro (fun hn => ?_) (fun hn => ?_))
  · refine Calls.mono (zero_spec (h.ahead h1)) ?_
    rintro e w2 ⟨rfl, rfl⟩
    refine ⟨_, rfl, ret2 B1 fun w' u _ => ⟨u.ahead h1 (by omega), ?_, u.rd _ _ (h.ahead h1)⟩⟩
    rw [nD, hn]; simp
  · refine ret2 B1 fun w' u _ => ⟨u.ahead h1 (by omega), ?_, u.rd _ _ (h.ahead h1)⟩
    rw [nD, hn]; rfl
theorem zOf_spec {w : World} {neg : Bool} {s : Slc} {l : List Nat} (h : Rd .u64 w s (nn l)) (hl : l.length * 8 ≤ 140737488351232) (ol : ok B64 l) :
    Calls pr surdref06_Of_id #[.bool neg, s.v] w fun e w' => Ahead w w' ∧ ∃ s', e = .returned (.agg (c2 (nD neg (val B64 l)) s')) ∧ RN w' s' (val B64 l) := by
  refine surdref06_Of_vc neg s w _ (newC_b fun b w1 hb h1 hs1 B1 => Calls.mono (Of_spec (h.ahead h1) hl ol) ?_)
  rintro e w2 ⟨h2, s1, rfl, r1⟩
  refine ⟨_, rfl, Calls.mono (make1_spec r1) ?_⟩
  rintro e w3 ⟨h3, rfl, r3⟩
  refine ⟨_, _, rfl, ret2 ((B1.ahead h2).ahead h3) fun w' u _ => ⟨u.ahead ((h1.trans h2).trans h3) (by omega), s1, rfl, u.rd _ _ r3⟩⟩
theorem zSign_spec {w : World} {neg : Bool} {s : Slc} {x : Nat} (h : RN w s x) :
    Calls pr surdref06_Z_Sign_id #[.agg (c2 (nD neg x) s)] w fun e w' => Ahead w w' ∧ e = .returned (.int .i64 (sgn neg x)) := by
  refine surdref06_Z_Sign_vc (nD neg x) s w _ (newC_b fun b w1 hb h1 hs1 B1 => ldB_b 0 B1 rfl (br_intro (fun hn => ?_) (fun hn => ?_)))
  · refine ⟨h1, ?_⟩
    unfold nD at hn
    simp only [Bool.and_eq_true, decide_eq_true_eq] at hn
    rw [sgn, if_neg hn.2, hn.1]; rfl
  · refine ldS_b 1 B1 rfl (Calls.mono (zero_spec (h.ahead h1)) ?_)
    rintro e w2 ⟨rfl, rfl⟩
    refine ⟨_, rfl, br_intro (fun hz => ?_) (fun hz => ?_)⟩
    · exact ⟨h1, by rw [sgn, if_pos (by simpa using hz)]⟩
    · have hx : x ≠ 0 := by simpa using hz
      rw [nD_ne hx] at hn
      exact ⟨h1, by rw [sgn, if_neg hx, hn]; rfl⟩
theorem zIs_spec {w : World} {neg : Bool} {s t : Slc} {x : Nat} (h : RN w s x) (ht : Rd .u64 w t (nn (digs B64 x))) (hl : (digs B64 x).length ≤ 2 ^ 44) :
    Calls pr surdref06_Z_Is_id #[.agg (c2 neg s), .bool neg, t.v] w fun e w' => Ahead w w' ∧ e = .returned (.bool true) := by
  refine surdref06_Z_Is_vc neg s neg t w _ (newC_b fun b w1 hb h1 hs1 B1 => ldB_b 0 B1 rfl (br_true (by simp) ?_))
  refine ldS_b 1 B1 rfl (Calls.mono (Is_spec (h.ahead h1) (ht.ahead h1) hl) ?_)
  rintro e w2 ⟨h2, rfl⟩
  exact ⟨_, rfl, h1.trans h2, rfl⟩
theorem zInt_spec {w : World} {v : Int} (h0 : -9223372036854775808 ≤ v) (h1 : v ≤ 9223372036854775807) :
    Calls pr surdref06_Int_id #[.int .i64 v] w fun e w' => Ahead w w' ∧ ∃ s, e = .returned (.agg (c2 (nD (decide (v < 0)) v.natAbs) s)) ∧ RN w' s v.natAbs := by
  have hB := B64v
  refine surdref06_Int_vc v w _ (newC_b fun b w1 hb h1' hs1 B1 => br_intro (fun hn => ?_) (fun hn => ?_))
  · have hn' : v < 0 := by simpa using hn
    have e1 : IntKind.u64.wrap (IntKind.u64.wrap (IntKind.i64.wrap (0 - IntKind.i64.wrap (v + 1))) + 1) = ((v.natAbs : Nat) : Int) := by
      rw [wrap_i64 (x := v + 1) (by omega) (by omega), wrap_i64 (by omega) (by omega), wrap_u64' (x := 0 - (v + 1)) (by omega) (by omega), wrap_u64' (by omega) (by omega)]
      omega
    rw [e1]
    refine newC_b fun b2 w2 hb2 h2 hs2 B2 => ?_
    have hrd : Rd .u64 w2 ⟨some ⟨b2, 0, none⟩, 1, 1⟩ (nn [v.natAbs]) := by
      obtain ⟨t, hm⟩ := B2
      exact ⟨rfl, Nat.le_refl _, fun i hi => ⟨_, rfl, by
        have : i = 0 := by simpa using hi
        subst this
        simp [World.cell?, Addr.add, hm, nn]⟩⟩
    refine Calls.mono (Of_spec hrd (by simp) (fun z hz => by simp at hz; omega)) ?_
    rintro e w3 ⟨h3, s1, rfl, r1⟩
    have ev : val B64 [v.natAbs] = v.natAbs := by simp [val]
    rw [ev] at r1
    refine ⟨_, rfl, Calls.mono (make1_spec r1) ?_⟩
    rintro e w4 ⟨h4, rfl, r4⟩
    refine ⟨_, _, rfl, ret2 (((B1.ahead h2).ahead h3).ahead h4) fun w' u _ => ⟨u.ahead (((h1'.trans h2).trans h3).trans h4) (by omega), s1, ?_, u.rd _ _ r4⟩⟩
    simp [hn']
  · have hn' : ¬ v < 0 := by simpa using hn
    obtain ⟨m, rfl⟩ : ∃ m : Nat, v = (m : Int) := ⟨v.toNat, by omega⟩
    refine Calls.mono (Int_spec (v := m) (by omega)) ?_
    rintro e w3 ⟨h3, s1, rfl, r1⟩
    refine ⟨_, rfl, Calls.mono (make1_spec r1) ?_⟩
    rintro e w4 ⟨h4, rfl, r4⟩
    refine ⟨_, _, rfl, ret2 ((B1.ahead h3).ahead h4) fun w' u _ => ⟨u.ahead ((h1'.trans h3).trans h4) (by omega), s1, ?_, u.rd _ _ r4⟩⟩
    simp [hn']

/-! ### Dyadics of the document -/
theorem dOf_specN {w : World} {neg : Bool} {s : Slc} {x : Nat} {e : Int} (h : RN w s x) (hl : (digs B32 x).length ≤ 2 ^ 45) (he : -4611686018427387904 ≤ e ∧ e ≤ 4611686018427387904) :
    Calls pr surdref08_Of_id #[.agg (c2 (nD neg x) s), .int .i64 e] w fun en w' => Ahead w w' ∧ ∃ s', en = .returned (.agg (c3 (nD neg x) s' (eD x e))) ∧ RN w' s' (od x) ∧ ∀ ad, s'.A = some ad → w.heap.size ≤ ad.block := by
  refine surdref08_Of_vc (nD neg x) s e w _ (newC_b fun b1 w1 hb1 h1 hs1 B1 => newC_b fun b2 w2 hb2 h2 hs2 B2 => ?_)
  have h12 := h1.trans h2
  have hb : w.heap.size ≤ b2 := by have := h1.size; omega
  have hbl : bl x ≤ 2 ^ 50 := by
    have := Ref.bl_len32 (ok_digs two32 x)
    rw [val_digs two32] at this
    omega
  refine get2 (B1.ahead h2) rfl rfl (Calls.mono (zSign_spec (h.ahead h12)) ?_)
  rintro en w3 ⟨h3, rfl⟩
  have h13 := h12.trans h3
  have B13 := (B1.ahead h2).ahead h3
  have B23 := B2.ahead h3
  refine ⟨_, rfl, br_intro (fun hz => ?_) (fun hz => ?_)⟩
  · have hx : x = 0 := sgn_zero_iff.1 (by simpa using hz)
    subst hx
    refine ret3 B23 fun w' u _ => ⟨u.ahead h13 hb, _, by rw [nD_zero, eD_zero], by rw [od_zero]; exact RN.nil, fun ad h => by cases h⟩
  · have hx : x ≠ 0 := fun e0 => by rw [e0] at hz; simp [sgn] at hz
    have htz := tz_lt hx
    refine ldS_b 1 B13 rfl (Calls.mono (rTail_spec (h.ahead h13) (by omega)) ?_)
    rintro en w7 ⟨rfl, rfl⟩
    have hd := Ahead.drew w7
    refine ⟨_, rfl, get2 (B13.ahead hd) rfl rfl (Calls.mono (Ref.Shr_specN ((h.ahead h13).ahead hd) (by omega) (by omega) (by omega)) ?_)⟩
    rintro en w8 ⟨h8, s5, rfl, r5, q5⟩
    rw [Int.toNat_natCast] at r5
    have h78 := hd.trans h8
    refine ⟨_, rfl, h8, ret3 (B23.ahead h78) fun w' u _ => ⟨u.ahead (h13.trans h78) hb, s5, ?_, u.rd _ _ r5, fun ad had => by have := q5 ad had; have := h13.size; have := hd.size; omega⟩⟩
    rw [eD, if_neg hx, wrap_i64 (by omega) (by omega)]
theorem dOf_spec {w : World} {neg : Bool} {s : Slc} {x : Nat} {e : Int} (h : RN w s x) (hl : (digs B32 x).length ≤ 2 ^ 45) (he : -4611686018427387904 ≤ e ∧ e ≤ 4611686018427387904) :
    Calls pr surdref08_Of_id #[.agg (c2 (nD neg x) s), .int .i64 e] w fun en w' => Ahead w w' ∧ ∃ s', en = .returned (.agg (c3 (nD neg x) s' (eD x e))) ∧ RN w' s' (od x) :=
  Calls.mono (dOf_specN h hl he) fun en w' ⟨h1, s', h2, h3, _⟩ => ⟨h1, s', h2, h3⟩
theorem dInt_spec {w : World} {v e : Int} (h0 : -9223372036854775808 ≤ v) (h1 : v ≤ 9223372036854775807) (he : -4611686018427387904 ≤ e ∧ e ≤ 4611686018427387904) :
    Calls pr surdref08_Int_id #[.int .i64 v, .int .i64 e] w fun en w' => Ahead w w' ∧ ∃ s', en = .returned (.agg (c3 (nD (decide (v < 0)) v.natAbs) s' (eD v.natAbs e))) ∧ RN w' s' (od v.natAbs) := by
  refine surdref08_Int_vc v e w _ (newC_b fun b1 w1 hb1 h1' hs1 B1 => Calls.mono (zInt_spec h0 h1) ?_)
  rintro en w2 ⟨h2, s1, rfl, r1⟩
  have hl : (digs B32 v.natAbs).length ≤ 2 := digs_length_le two32 (by rw [B32v]; omega)
  refine ⟨_, _, rfl, Calls.mono (dOf_spec r1 (by omega) he) ?_⟩
  rintro en w3 ⟨h3, s2, rfl, r2⟩
  exact ⟨_, _, _, rfl, ret3 ((B1.ahead h2).ahead h3) fun w' u _ => ⟨u.ahead ((h1'.trans h2).trans h3) (by omega), s2, rfl, u.rd _ _ r2⟩⟩
theorem dIs_spec {w : World} {neg : Bool} {s t : Slc} {x : Nat} {e : Int} (h : RN w s x) (ht : Rd .u64 w t (nn (digs B64 x))) (hl : (digs B64 x).length ≤ 2 ^ 44) :
    Calls pr surdref08_D_Is_id #[.agg (c3 neg s e), .bool neg, t.v, .int .i64 e] w fun en w' => Ahead w w' ∧ en = .returned (.bool true) := by
  refine surdref08_D_Is_vc neg s e neg t e w _ (newC_b fun b w1 hb h1 hs1 B1 => get2 B1 rfl rfl (Calls.mono (zIs_spec (h.ahead h1) (ht.ahead h1) hl) ?_))
  rintro en w2 ⟨h2, rfl⟩
  exact ⟨_, rfl, br_true rfl (ldI_b 2 (B1.ahead h2) rfl ⟨h1.trans h2, by simp⟩)⟩
theorem Fits_spec {w : World} {e : Int} : Calls pr surdref08_Fits_id #[.int .i64 e] w fun en w' => w' = w ∧ en = .returned (.bool (decide (wi e))) := by
  refine surdref08_Fits_vc e w _ (br_intro (fun h => ⟨rfl, ?_⟩) (fun h => ⟨rfl, ?_⟩))
  · have h1 : -1099511627776 ≤ e := by simpa using h
    congr 2
    simp [wi, h1]
  · have h1 : ¬ -1099511627776 ≤ e := by simpa using h
    congr 2
    simp [wi, h1]
theorem fit_spec {w : World} {e : Int} : Calls pr surdlaw08_fit_id #[.int .i64 e] w fun en w' => w' = w ∧ en = .returned (.bool (decide (wi e))) := by
  refine surdlaw08_fit_vc e w _ (br_intro (fun h => ⟨rfl, ?_⟩) (fun h => ⟨rfl, ?_⟩))
  · have h1 : -1099511627776 ≤ e := by simpa using h
    congr 2
    simp [wi, h1]
  · have h1 : ¬ -1099511627776 ≤ e := by simpa using h
    congr 2
    simp [wi, h1]
/-- Told, of a dyadic in lowest terms. -/
def tK (n : Nat) (e : Int) : Int := if 67108864 < bl n then 3 else if wi e then 0 else 80
theorem dTold_spec {w : World} {neg : Bool} {s : Slc} {n : Nat} {e : Int} (h : RN w s n) (hl : (digs B32 n).length ≤ 2 ^ 46) :
    Calls pr surdref08_Told_id #[.agg (c3 neg s e)] w fun en w' => Ahead w w' ∧ ∃ x s' e', en = .returned (.tuple #[.agg (c3 x s' e'), .int .i64 (tK n e)]) ∧ (tK n e = 0 → x = neg ∧ e' = e ∧ RN w' s' n) := by
  refine surdref08_Told_vc neg s e w _ (newC_b fun b1 w1 hb1 h1 hs1 B1 => newC_b fun b2 w2 hb2 h2 hs2 B2 => ?_)
  have h12 := h1.trans h2
  have hb : w.heap.size ≤ b2 := by have := h1.size; omega
  refine ldS_b 1 (B1.ahead h2) rfl (Calls.mono (Len_spec (h.ahead h12) hl) ?_)
  rintro en w3 ⟨rfl, rfl⟩
  refine ⟨_, rfl, br_intro (fun hg => ?_) (fun hg => ?_)⟩
  · have hc : tK n e = 3 := if_pos (by simp at hg; omega)
    rw [hc]
    exact ret3 B2 fun w' u _ => ⟨u.ahead h12 hb, _, _, _, rfl, fun h => by omega⟩
  · refine ldI_b 2 (B1.ahead h2) rfl (Calls.mono Fits_spec ?_)
    rintro en w7 ⟨rfl, rfl⟩
    refine ⟨_, rfl, br_intro (fun hw => ?_) (fun hw => ?_)⟩
    · have hc : tK n e = 80 := by rw [tK, if_neg (by simp at hg; omega), if_neg (by simpa using hw)]
      rw [hc]
      exact ret3 B2 fun w' u _ => ⟨u.ahead h12 hb, _, _, _, rfl, fun h => by omega⟩
    · have hc : tK n e = 0 := by rw [tK, if_neg (by simp at hg; omega), if_pos (by simpa using hw)]
      rw [hc]
      exact get3 (B1.ahead h2) (ret3 B2 fun w' u _ => ⟨u.ahead h12 hb, _, _, _, rfl, fun _ => ⟨rfl, rfl, u.rd _ _ (h.ahead h12)⟩⟩)
theorem tK_bl {n : Nat} {e : Int} (h : tK n e = 0) : bl n ≤ 67108864 := by
  unfold tK at h
  split at h
  · omega
  · omega

theorem num_spec {w : World} {c : Int} : Calls pr surdlaw08_num_id #[.int .i64 c] w fun e w' => w' = w ∧ e = .returned (.int .i64 c) :=
  surdlaw08_num_vc c w _ ⟨rfl, rfl⟩

theorem awake_spec {w : World} (hT : Tab w) : Calls pr surdlaw08_awake_id #[] w (Yes w) := by
  have hB := B64v
  refine surdlaw08_awake_vc w _ (newC_b fun b1 w1 hb1 h1 hs1 B1 => ?_)
  have hrd : Rd .u64 w1 ⟨some ⟨b1, 0, none⟩, 1, 1⟩ (nn [12]) := by
    obtain ⟨t, hm⟩ := B1
    exact ⟨rfl, Nat.le_refl _, fun i hi => ⟨_, rfl, by
      have : i = 0 := by simpa using hi
      subst this
      simp [World.cell?, Addr.add, hm, nn]⟩⟩
  have hnum : Num w1 ⟨some ⟨b1, 0, none⟩, 1, 1⟩ 12 := ⟨[12], hrd, by simp, fun z hz => by simp at hz; omega, by simp [val]⟩
  refine Calls.mono (Make_spec (e := -3) (hT.ahead h1) hnum) ?_
  have htz : tz 12 = 2 := tz_eq (k := 2) (m := 1) rfl
  have hod : od 12 = 3 := by rw [od, htz]
  have hwi : wi (-3) := by unfold wi; omega
  have htc : tC 12 (-3) = 0 := by
    have : bl 3 ≤ 2 := bl_le (by omega)
    rw [tC, hod, if_neg (by omega), if_pos (by rw [eD, if_neg (by omega), htz]; unfold wi; omega)]
  rw [if_pos hwi, htc]
  rintro en w2 ⟨h2, s1, rfl, o1⟩
  rw [if_pos rfl, hod] at o1
  have hnD : nD false 12 = false := rfl
  have heD : eD 12 (-3) = -1 := by rw [eD, if_neg (by omega), htz]; rfl
  rw [if_pos rfl, if_pos rfl, hnD, heD]
  refine ⟨_, _, _, _, rfl, newC_b fun b2 w3 hb2 h3 hs3 B2 => set3 B2 fun w6 u C2 => ?_⟩
  have h06 : Ahead w w6 := u.ahead ((h1.trans h2).trans h3) (by have := (h1.trans h2).size; omega)
  have hd := Ahead.drew w6
  refine Calls.mono num_spec ?_
  rintro en w7 ⟨rfl, rfl⟩
  refine ⟨_, rfl, Ahead.refl _, br_true rfl (get3 (C2.ahead hd) (Calls.mono (dInt_spec (v := 3) (e := -1) (by omega) (by omega) (by omega)) ?_))⟩
  rintro en w8 ⟨h8, s3, rfl, r3⟩
  have o3 : od (3 : Int).natAbs = 3 := od_of_odd rfl
  have t3 : tz 3 = 0 := tz_odd rfl
  have n3 : nD (decide ((3 : Int) < 0)) (3 : Int).natAbs = false := rfl
  have e3 : eD (3 : Int).natAbs (-1) = -1 := by show eD 3 (-1) = -1; rw [eD, if_neg (by omega), t3]; rfl
  rw [o3] at r3
  rw [n3, e3]
  have o6 := u.own2 o1 h3 (by omega)
  have hl : (digs B64 3).length ≤ 1 := digs_length_le two64 (by rw [B64v]; omega)
  refine ⟨_, _, _, rfl, h8, Calls.mono (dIs_spec r3 ((o6.ahead hd).ahead h8).rd (by omega)) ?_⟩
  rintro en w9 ⟨h9, rfl⟩
  exact ⟨_, rfl, h9, rfl, ((h06.trans hd).trans h8).trans h9⟩
theorem end_awake {w0 w : World} (hT : Tab w0) (ha : Ahead w0 w) : Calls pr surdlaw08_awake_id #[] w fun e w' => ∃ b : Bool, e = .returned (.bool b) ∧ Yes w0 (.returned (.bool b)) w' :=
  Calls.mono (awake_spec (hT.ahead ha)) fun e w' ⟨he, h⟩ => ⟨true, he, rfl, ha.trans h⟩

theorem DyadicNames_ok {w : World} (hT : Tab w) : Calls pr surdlaw08_DyadicNames_id #[] w (Yes w) := by
  refine surdlaw08_DyadicNames_vc w _ (Calls.mono num_spec ?_)
  rintro e w1 ⟨rfl, rfl⟩
  refine ⟨_, rfl, br_true rfl (Calls.mono num_spec ?_)⟩
  rintro e w2 ⟨rfl, rfl⟩
  refine ⟨_, rfl, br_true rfl (Calls.mono num_spec ?_)⟩
  rintro e w3 ⟨rfl, rfl⟩
  exact ⟨_, rfl, br_true rfl (end_awake hT (Ahead.refl _))⟩

end Dy
end Go.Proofs.YthhbjhdnaopcnaaDoor
