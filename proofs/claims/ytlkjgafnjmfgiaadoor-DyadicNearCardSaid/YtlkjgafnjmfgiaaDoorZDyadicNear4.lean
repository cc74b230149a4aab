/- What the law leans on, part 4. No condition. -/
import Derived.Test.YtlkjgafnjmfgiaaDoorZDyadicNear3
namespace Go.Proofs.YtlkjgafnjmfgiaaDoor
open Go Go.RowKit Eng Sp Dg L2
set_option linter.unusedVariables false
set_option linter.unusedSimpArgs false
set_option maxRecDepth 100000
namespace Dy
open _root_.Go.Proofs.YtlkjgafnjmfgiaaDoor.Nat (OwnNil Num Num.bl OwnNil.mono OwnNil.ext OwnNil.rd OwnNil.ahead OwnNil.nil digs_len_bl num_of Yes)
open _root_.Go.Proofs.YtlkjgafnjmfgiaaDoor.Ref (RN RN.nil RN.ext RN.ahead Len_spec len_mono bl_len32 len32)
open Sb

/-- A dyadic in lowest terms, as a whole number and an exponent. -/
structure NZ (z e : Int) : Prop where
  o : od z.natAbs = z.natAbs
  z : z = 0 → e = 0
theorem NF.nz {neg : Bool} {n : Nat} {e : Int} (h : NF neg n e) : NZ (sg neg n) e :=
  ⟨by rw [sg_abs]; exact h.o, fun h0 => h.z (by have := congrArg Int.natAbs h0; rw [sg_abs] at this; simpa using this)⟩
theorem NZ.nf {z e : Int} (h : NZ z e) : NF (zb z) z.natAbs e := ⟨zb_nD z, h.o, fun h0 => h.z (by omega)⟩
theorem NF.zb {neg : Bool} {n : Nat} {e : Int} (h : NF neg n e) : Dy.zb (sg neg n) = neg := by rw [zb_sg, h.s]
theorem NZ.neg {z e : Int} (h : NZ z e) : NZ (-z) e := ⟨by rw [Int.natAbs_neg]; exact h.o, fun h0 => h.z (by omega)⟩
theorem dv_neg (z e b : Int) : dv (-z) e b = -dv z e b := Int.neg_mul _ _

theorem dNeg_spec {w : World} {s : Slc} {z e : Int} (r : RN w s z.natAbs) : Calls pr surdref08_Neg_id #[.agg (c3 (zb z) s e)] w fun en w' => Ahead w w' ∧ ∃ s', en = .returned (.agg (c3 (zb (-z)) s' e)) ∧ RN w' s' (-z).natAbs := by
  refine surdref08_Neg_v2 (zb z) s e w _ fun w1 X1 a1 => Calls.mono (zNeg_spec (r.ahead a1)) ?_
  rintro en w2 ⟨h2, s1, rfl, r1⟩
  exact ⟨_, _, rfl, h2, fun w3 X3 a3 => ⟨s1, rfl, r1.ext X3⟩⟩

theorem dCmpZ {w : World} {s s' : Slc} {z z' e e' : Int} (r : RN w s z.natAbs) (r' : RN w s' z'.natAbs) (hl : (digs B32 z.natAbs).length + 2 ≤ 2 ^ 45) (hl' : (digs B32 z'.natAbs).length + 2 ≤ 2 ^ 45) (he : far e) (he' : far e') :
    Calls pr surdref08_Cmp_id #[.agg (c3 (zb z) s e), .agg (c3 (zb z') s' e')] w fun en w' => Ahead w w' ∧ en = .returned (.int .i64 (dcmp z e z' e')) := by
  have := dCmp_spec (e := e) (e' := e') r r' (zb_nD z) (zb_nD z') hl hl' he he'
  rw [sg_zb, sg_zb] at this
  exact this

def addOk (z e z' e' : Int) : Prop := z = 0 ∨ z' = 0 ∨ if e < e' then e' - e ≤ 67108864 + bl z.natAbs + 2 else e - e' ≤ 67108864 + bl z'.natAbs + 2
/-- A sum in lowest terms. -/
structure SumOf (Z E z e z' e' : Int) : Prop where
  nz : NZ Z E
  len : (digs B32 Z.natAbs).length + 3 ≤ 2 ^ 45
  lo : min (min e e') 0 ≤ E
  hi : E ≤ max (max e e') 0 + 2251799813685248
  val : ∀ b, b ≤ e → b ≤ e' → dv Z E b = dv z e b + dv z' e' b
theorem dl_shl {x k : Nat} : (digs B32 (x * 2 ^ k)).length ≤ (digs B32 x).length + k / 32 + 1 := by
  by_cases h : x = 0
  · rw [h, Nat.zero_mul, digs_zero]; simp
  · have h1 := bl_len32 (ok_digs two32 x)
    rw [val_digs two32] at h1
    have h2 := bl_shl (n := k) h
    exact digs_len_bl32 (by omega)
theorem dv_add (x y e b : Int) : dv (x + y) e b = dv x e b + dv y e b := Int.add_mul _ _ _
theorem hiLo {w0 w : World} {sh sl : Slc} {zh zl eh el : Int} (hw : Ahead w0 w) (rh : RN w sh zh.natAbs) (rl : RN w sl zl.natAbs) (hle : el ≤ eh) (heh : far eh) (hel : far el) (l1 : (digs B32 zh.natAbs).length + (eh - el).toNat / 32 + 6 ≤ 2 ^ 45) (l2 : (digs B32 zl.natAbs).length + 6 ≤ 2 ^ 45)
    {K : Bool → Slc → Int → World → Prop} (hk : ∀ Z E, NZ Z E → (digs B32 Z.natAbs).length + 3 ≤ 2 ^ 45 → min (min eh el) 0 ≤ E → E ≤ max (max eh el) 0 + 2251799813685248 → (∀ b, b ≤ el → dv Z E b = dv zh eh b + dv zl el b) → ∀ s w', RN w' s Z.natAbs → K (zb Z) s E w') :
    Calls pr surdref06_Shift_id #[.agg (c2 (zb zh) sh), .int .i64 (eh - el)] w fun e4 w10 => ∃ b1 : Bool, ∃ s1 : Slc, e4 = .returned (Value.agg #[Value.bool b1, s1.v]) ∧ Ahead w w10 ∧
      (Calls pr surdref06_Add_id #[Value.agg #[Value.bool b1, s1.v], .agg (c2 (zb zl) sl)] w10 fun e5 w11 => ∃ b2 : Bool, ∃ s2 : Slc, e5 = .returned (Value.agg #[Value.bool b2, s2.v]) ∧ Ahead w10 w11 ∧
        (Calls pr surdref08_Of_id #[Value.agg #[Value.bool b2, s2.v], Value.int .i64 el] w11 fun e6 w12 => ∃ b3 : Bool, ∃ s3 : Slc, ∃ x4 : Int, e6 = .returned (Value.agg #[Value.bool b3, s3.v, Value.int .i64 x4]) ∧ Ahead w11 w12 ∧
          (∀ w13, Ext w12 w13 → Ahead w0 w13 → K b3 s3 x4 w13))) := by
  unfold far at heh hel
  refine Calls.mono (zShift_spec rh (by omega) (by omega) (by omega)) ?_
  rintro en w2 ⟨h2, s1, rfl, r1⟩
  have ep : (2 : Int) ^ (eh - el).toNat = ((2 ^ (eh - el).toNat : Nat) : Int) := by push_cast; rfl
  rw [ep] at r1
  rw [ep]
  have ls : (digs B32 (zh * ((2 ^ (eh - el).toNat : Nat) : Int)).natAbs).length + 5 ≤ 2 ^ 45 := by
    rw [Int.natAbs_mul, Int.natAbs_natCast]
    have := dl_shl (x := zh.natAbs) (k := (eh - el).toNat)
    omega
  refine ⟨_, _, rfl, h2, Calls.mono (zAdd_spec r1 (rl.ahead h2) (by omega) (by omega)) ?_⟩
  rintro en w3 ⟨h3, s2, rfl, r2⟩
  have lS : (digs B32 (zh * ((2 ^ (eh - el).toNat : Nat) : Int) + zl).natAbs).length + 4 ≤ 2 ^ 45 := by
    have h1 := dl_le two32 (Int.natAbs_add_le (zh * ((2 ^ (eh - el).toNat : Nat) : Int)) zl)
    have h2 := dl_add (x := (zh * ((2 ^ (eh - el).toNat : Nat) : Int)).natAbs) (y := zl.natAbs) (k := 2 ^ 45 - 5) (by omega) (by omega)
    omega
  have hval : ∀ b, b ≤ el → dv (zh * ((2 ^ (eh - el).toNat : Nat) : Int) + zl) el b = dv zh eh b + dv zl el b := by
    intro b hb
    rw [dv_add]
    congr 1
    show zh * _ * _ = zh * _
    rw [Int.mul_assoc, ← Int.natCast_mul, ← Nat.pow_add]
    congr 3
    omega
  generalize zh * ((2 ^ (eh - el).toNat : Nat) : Int) + zl = S at *
  have hof := dOf_spec (neg := zb S) (e := el) r2 (by omega) (by omega)
  rw [zb_nD] at hof
  refine ⟨_, _, rfl, h3, Calls.mono hof ?_⟩
  rintro en w4 ⟨h4, s3, rfl, r3⟩
  refine ⟨_, _, _, rfl, h4, fun w5 X5 a5 => ?_⟩
  have hnf := NF.of (zb S) S.natAbs el
  have hzb := hnf.zb
  have hbl := bl_len32 (ok_digs two32 S.natAbs)
  rw [val_digs two32] at hbl
  have htz := tz_le S.natAbs
  have := hk _ _ hnf.nz (by rw [sg_abs]; have := dl_le two32 (od_le S.natAbs); omega) (by unfold eD; split <;> omega) (by unfold eD; split <;> omega) (fun b hb => by rw [dv_od hb, sg_zb]; exact hval b hb) s3 w5 (by rw [sg_abs]; exact r3.ext X5)
  rw [hzb, zb_nD] at this
  exact this

/-- A sum, or that it is too long for sure. -/
def AddRet (z e z' e' : Int) (en : Ending) (w' : World) : Prop := ∃ Z E s2 fl, en = .returned (.tuple #[.agg (c3 (zb Z) s2 E), .bool fl]) ∧ RN w' s2 Z.natAbs ∧ (fl = true ↔ addOk z e z' e') ∧ (fl = true → SumOf Z E z e z' e')
theorem dAdd_spec {w : World} {s s' : Slc} {z z' e e' : Int} (r : RN w s z.natAbs) (r' : RN w s' z'.natAbs) (h : NZ z e) (h' : NZ z' e') (he : far e) (he' : far e')
    (l : (digs B32 z.natAbs).length + 6 ≤ 2 ^ 45) (l' : (digs B32 z'.natAbs).length + 6 ≤ 2 ^ 45)
    (room : addOk z e z' e' → (digs B32 z.natAbs).length + (e - e').toNat / 32 + 6 ≤ 2 ^ 45 ∧ (digs B32 z'.natAbs).length + (e' - e).toNat / 32 + 6 ≤ 2 ^ 45) :
    Calls pr surdref08_Add_id #[.agg (c3 (zb z) s e), .agg (c3 (zb z') s' e')] w fun en w' => Ahead w w' ∧ AddRet z e z' e' en w' := by
  have hb1 := bl_len32 (ok_digs two32 z.natAbs)
  rw [val_digs two32] at hb1
  have hb2 := bl_len32 (ok_digs two32 z'.natAbs)
  rw [val_digs two32] at hb2
  have he0 := he
  have he0' := he'
  unfold far at he he'
  refine surdref08_Add_v2 (zb z) s e (zb z') s' e' w _ fun w1 X1 a1 => Calls.mono (zSign_zb (r.ahead a1)) ?_
  rintro en w2 ⟨h2, rfl⟩
  have a2 := a1.trans h2
  refine ⟨_, rfl, h2, br_intro (fun hz => ?_) (fun hz => ?_)⟩
  · have hz' : z = 0 := sgn_zb.1 (eq_of_beq hz)
    have hee := h.z hz'
    subst hz' hee
    exact fun w3 X3 a3 => ⟨z', e', s', true, rfl, r'.ahead a3, ⟨fun _ => .inl rfl, fun _ => rfl⟩, fun _ => ⟨h', by omega, by omega, by omega, fun b h1 h2 => by rw [dv_zero, Int.zero_add]⟩⟩
  have hz' : z ≠ 0 := fun h => by rw [sgn_zb.2 h] at hz; simp at hz
  refine Calls.mono (zSign_zb (r'.ahead a2)) ?_
  rintro en w4 ⟨h4, rfl⟩
  have a4 := a2.trans h4
  refine ⟨_, rfl, h4, br_intro (fun hy => ?_) (fun hy => ?_)⟩
  · have hy' : z' = 0 := sgn_zb.1 (eq_of_beq hy)
    have hee := h'.z hy'
    subst hy' hee
    exact fun w3 X3 a3 => ⟨z, e, s, true, rfl, r.ahead a3, ⟨fun _ => .inr (.inl rfl), fun _ => rfl⟩, fun _ => ⟨h, by omega, by omega, by omega, fun b h1 h2 => by rw [dv_zero, Int.add_zero]⟩⟩
  have hy' : z' ≠ 0 := fun h => by rw [sgn_zb.2 h] at hy; simp at hy
  refine br_intro (fun hlt => fun w6 X6 a6 => ?_) (fun hlt => ?_)
  · have hlt' : e < e' := of_decide_eq_true hlt
    have hok : addOk z e z' e' ↔ e' - e ≤ 67108864 + bl z.natAbs + 2 := by
      unfold addOk
      rw [if_pos hlt']
      constructor
      · rintro (h | h | h)
        · exact absurd h hz'
        · exact absurd h hy'
        · exact h
      · exact fun h => .inr (.inr h)
    refine Calls.mono (Len_spec (r.ahead a6) (by omega)) ?_
    rintro en w7 ⟨rfl, rfl⟩
    refine ⟨_, rfl, Ahead.refl _, ?_⟩
    rw [wrap_i64 (x := 67108864 + _) (by omega) (by omega), wrap_i64 (x := _ + 2) (by omega) (by omega), wrap_i64 (x := e' - e) (by omega) (by omega)]
    refine br_intro (fun hf => fun w8 X8 a8 => ?_) (fun hf => fun w9 X9 a9 => ?_)
    · have hf' := of_decide_eq_true hf
      exact ⟨0, 0, _, false, rfl, RN.nil, ⟨fun h => (by cases h), fun h => (by have := hok.1 h; omega)⟩, fun h => by cases h⟩
    · have hf' := of_decide_eq_false hf
      have hk : addOk z e z' e' := hok.2 (by omega)
      refine hiLo a9 (r'.ahead a9) (r.ahead a9) (by omega) he0' he0 (room hk).2 l fun Z E h1 h2 h3 h4 h5 s3 w13 r13 => ⟨Z, E, s3, true, rfl, r13, ⟨fun _ => hk, fun _ => rfl⟩, fun _ => ⟨h1, h2, by omega, by omega, fun b hb hb' => by rw [h5 b hb, Int.add_comm]⟩⟩
  · have hlt' : ¬ e < e' := of_decide_eq_false hlt
    have hok : addOk z e z' e' ↔ e - e' ≤ 67108864 + bl z'.natAbs + 2 := by
      unfold addOk
      rw [if_neg hlt']
      constructor
      · rintro (h | h | h)
        · exact absurd h hz'
        · exact absurd h hy'
        · exact h
      · exact fun h => .inr (.inr h)
    refine Calls.mono (Len_spec (r'.ahead a4) (by omega)) ?_
    rintro en w7 ⟨rfl, rfl⟩
    refine ⟨_, rfl, Ahead.refl _, ?_⟩
    rw [wrap_i64 (x := 67108864 + _) (by omega) (by omega), wrap_i64 (x := _ + 2) (by omega) (by omega), wrap_i64 (x := e - e') (by omega) (by omega)]
    refine br_intro (fun hf => fun w8 X8 a8 => ?_) (fun hf => fun w9 X9 a9 => ?_)
    · have hf' := of_decide_eq_true hf
      exact ⟨0, 0, _, false, rfl, RN.nil, ⟨fun h => (by cases h), fun h => (by have := hok.1 h; omega)⟩, fun h => by cases h⟩
    · have hf' := of_decide_eq_false hf
      have hk : addOk z e z' e' := hok.2 (by omega)
      refine hiLo a9 (r.ahead a9) (r'.ahead a9) (by omega) he0 he0' (room hk).1 l' fun Z E h1 h2 h3 h4 h5 s3 w13 r13 => ⟨Z, E, s3, true, rfl, r13, ⟨fun _ => hk, fun _ => rfl⟩, fun _ => ⟨h1, h2, by omega, by omega, fun b hb hb' => h5 b hb'⟩⟩
/-- What a law reads of an answer. -/
theorem dread_spec {w : World} {neg : Bool} {s : Slc} {n : Nat} {e : Int} (h : NF neg n e) (r : Rd .u64 w s (nn (digs B64 n))) (hl : (digs B64 n).length * 8 ≤ 140737488351232) (he : far e) :
    Calls pr surdlaw08_read_id #[.agg (c3 neg s e)] w fun en w' => Ahead w w' ∧ ∃ s', en = .returned (.agg (c3 (zb (sg neg n)) s' e)) ∧ RN w' s' (sg neg n).natAbs := by
  have h32 := len32 (ok_digs two64 n)
  rw [val_digs two64] at h32
  unfold far at he
  refine surdlaw08_read_v2 neg s e w _ fun w1 X1 a1 => Calls.mono (zOf_spec (r.ahead a1) hl (ok_digs two64 _)) ?_
  rw [val_digs two64]
  rintro en w2 ⟨h2, s1, rfl, r1⟩
  refine ⟨_, _, rfl, h2, Calls.mono (dOf_spec r1 (by omega) (by omega)) ?_⟩
  rw [h.s, h.o, h.eD]
  rintro en w3 ⟨h3, s2, rfl, r2⟩
  exact ⟨_, _, _, rfl, h3, fun w4 X4 a4 => ⟨s2, by rw [h.zb], by rw [sg_abs]; exact r2.ext X4⟩⟩

end Dy
end Go.Proofs.YtlkjgafnjmfgiaaDoor
namespace Go.Proofs.YtlkjgafnjmfgiaaDoor
open Go Go.RowKit Eng Sp Dg L2
set_option linter.unusedVariables false
set_option linter.unusedSimpArgs false
set_option maxRecDepth 100000
namespace Dy

theorem nz_eq {z e z' e' b : Int} (h : NZ z e) (h' : NZ z' e') (hb : b ≤ e) (hb' : b ≤ e') (he : dv z e b = dv z' e' b) : z = z' ∧ e = e' := by
  obtain ⟨h1, h2, h3⟩ := h.nf.eq h'.nf hb hb' (by rw [sg_zb, sg_zb]; exact he)
  refine ⟨?_, h3⟩
  rw [← sg_zb z, ← sg_zb z', h1, h2]
/-- Is a number a multiple of 2^pos? -/
def atP (z e pos : Int) : Prop := z = 0 ∨ pos ≤ e
instance (z e pos : Int) : Decidable (atP z e pos) := inferInstanceAs (Decidable (_ ∨ _))
theorem at_iff {z e pos b : Int} (h : NZ z e) (hb : b ≤ e) (hp : b ≤ pos) : atP z e pos ↔ ((2 ^ (pos - b).toNat : Nat) : Int) ∣ dv z e b := by
  constructor
  · rintro (rfl | h1)
    · rw [dv_zero]; exact Int.dvd_zero _
    · rw [dv_scale hp h1]; exact Int.dvd_mul_left _ _
  · intro hd
    by_cases hz : z = 0
    · exact .inl hz
    · refine .inr ?_
      rcases Int.lt_or_le e pos with hlt | hle
      · exfalso
        obtain ⟨k, hk⟩ := hd
        have e1 : (pos - b).toNat = ((pos - e).toNat - 1) + 1 + (e - b).toNat := by omega
        rw [dv, e1, Nat.pow_add, Int.natCast_mul] at hk
        have h2 : z = ((2 ^ ((pos - e).toNat - 1 + 1) : Nat) : Int) * k := by
          refine Int.eq_of_mul_eq_mul_right (a := ((2 ^ (e - b).toNat : Nat) : Int)) (by have := two_pos (e - b).toNat; omega) ?_
          rw [hk]
          simp only [Int.mul_assoc, Int.mul_comm, Int.mul_left_comm]
        rw [Nat.pow_succ, Int.natCast_mul] at h2
        have h3 : z = 2 * (((2 ^ ((pos - e).toNat - 1) : Nat) : Int) * k) := by rw [h2]; simp only [Int.mul_assoc, Int.mul_comm, Int.mul_left_comm]; rfl
        generalize ((2 ^ ((pos - e).toNat - 1) : Nat) : Int) * k = q at h3
        have h4 := od_odd (x := z.natAbs) (by omega)
        rw [h.o] at h4
        omega
      · exact hle

/-- A number rounded. -/
def rZ (neg : Bool) (n : Nat) (e pos m : Int) : Int := sg (nD neg (rX neg n e pos m)) (od (rX neg n e pos m))
def rF (neg : Bool) (n : Nat) (e pos m : Int) : Int := eD (rX neg n e pos m) (rE n e pos)
theorem rz_nz (neg : Bool) (n : Nat) (e pos m : Int) : NZ (rZ neg n e pos m) (rF neg n e pos m) := (NF.of neg _ _).nz
theorem rf_ge {neg : Bool} {n : Nat} {e pos m b : Int} (h1 : b ≤ e) (h2 : b ≤ pos) (h0 : b ≤ 0) : b ≤ rF neg n e pos m := by
  have := rE_ge (n := n) h1 h2
  unfold rF eD; split <;> omega
theorem rz_dv {neg : Bool} {n : Nat} {e pos m b : Int} (h : NF neg n e) (hm : okM m) (h1 : b ≤ e) (h2 : b ≤ pos) :
    dv (rZ neg n e pos m) (rF neg n e pos m) b = rdm m (dv (sg neg n) e b) (2 ^ (pos - b).toNat) * ((2 ^ (pos - b).toNat : Nat) : Int) := by
  rw [rZ, rF, dv_od (rE_ge h1 h2), rX_dv h hm h1 h2]

theorem mul_uniq {a c y : Int} {S : Nat} (hS : 0 < S) (h1 : a * (S : Int) ≤ y) (h2 : y < a * (S : Int) + S) (h3 : c * (S : Int) ≤ y) (h4 : y < c * (S : Int) + S) : a = c := by
  have e1 : a * (S : Int) + S = (a + 1) * S := by rw [Int.add_mul, Int.one_mul]
  have e2 : c * (S : Int) + S = (c + 1) * S := by rw [Int.add_mul, Int.one_mul]
  have l1 : a < c + 1 := lt_mul_cancel (S := S) (by omega)
  have l2 : c < a + 1 := lt_mul_cancel (S := S) (by omega)
  omega
theorem rdm_down_neg {v : Int} {S : Nat} (hS : 0 < S) : rdm 0 (-v) S = -rdm 1 v S := by
  have h1 := rdm_down (v := -v) hS
  have h2 := rdm_up (v := v) hS
  have e : -rdm 1 v S * (S : Int) = -(rdm 1 v S * S) := Int.neg_mul _ _
  exact mul_uniq (y := -v) hS h1.1 h1.2 (by omega) (by omega)
theorem rdm_near_neg {v : Int} {S : Nat} (hS : 0 < S) : rdm 2 (-v) S = -rdm 2 v S := by
  have h1 := rdm_near (v := -v) hS
  have h2 := rdm_near (v := v) hS
  generalize rdm 2 (-v) S = a at *
  generalize rdm 2 v S = c at *
  have e : (a + c) * (S : Int) = a * S + c * S := Int.add_mul _ _ _
  have u1 : (a + c) * (S : Int) < 2 * (S : Int) := by omega
  have u2 : -2 * (S : Int) < (a + c) * (S : Int) := by omega
  have l1 : a + c < 2 := lt_mul_cancel (S := S) u1
  have l2 : -2 < a + c := lt_mul_cancel (S := S) u2
  have : a + c = 0 ∨ a + c = 1 ∨ a + c = -1 := by omega
  rcases this with h | h | h
  · omega
  · rw [h, Int.one_mul] at e
    have := h1.2.2 (by omega)
    have := h2.2.2 (by omega)
    omega
  · rw [h] at e
    have := h1.2.2 (by omega)
    have := h2.2.2 (by omega)
    omega
theorem rdm_exact_all {m v : Int} {S : Nat} (hS : 0 < S) (hd : (S : Int) ∣ v) : rdm m v S * (S : Int) = v := by
  obtain ⟨k, rfl⟩ := hd
  rw [Int.mul_comm (S : Int) k, rdm_exact hS]
/-- Between two steps. -/
theorem rdm_in {v : Int} {S : Nat} (hS : 0 < S) (hd : ¬ (S : Int) ∣ v) : ∃ q r : Int, v = q * (S : Int) + r ∧ 0 < r ∧ r < S ∧ rdm 0 v S = q ∧ rdm 1 v S = q + 1 ∧ (2 * r < S → rdm 2 v S = q) ∧ ((S : Int) < 2 * r → rdm 2 v S = q + 1) ∧ (2 * r = S → rdm 2 v S % 2 = 0) ∧ (rdm 2 v S = q ∨ rdm 2 v S = q + 1) := by
  have hne : v % (S : Int) ≠ 0 := fun h => hd (Int.dvd_of_emod_eq_zero h)
  have h0 := Int.emod_nonneg v (show (S : Int) ≠ 0 by omega)
  have h1 := Int.emod_lt_of_pos v (show (0 : Int) < S by omega)
  have h2 := Int.emod_add_mul_ediv v (S : Int)
  have hc : (S : Int) * (v / S) = v / S * S := Int.mul_comm _ _
  refine ⟨v / S, v % S, by omega, by omega, h1, ?_, ?_, fun h => ?_, fun h => ?_, fun h => ?_, ?_⟩
  · simp [rdm]
  · simp [rdm, hne]
  · have : nearUp v S = false := by
      unfold nearUp
      rw [decide_eq_false_iff_not]
      omega
    simp [rdm, this]
  · have : nearUp v S = true := by
      unfold nearUp
      rw [decide_eq_true_iff]
      omega
    simp [rdm, this]
  · have hn := rdm_near (v := v) hS
    refine hn.2.2 ?_
    have : rdm 2 v S = v / S ∨ rdm 2 v S = v / S + 1 := by
      simp only [rdm]
      cases nearUp v S <;> simp
    rcases this with h | h <;> rw [h]
    · omega
    · rw [Int.add_mul]; omega
  · simp only [rdm]
    cases nearUp v S <;> simp

/-- What is true of a number, the two about it, the near one, and those of its opposite. -/
structure Facts (zv ev zd ed zu eu zr er zs es zt et pos : Int) : Prop where
  dv_ : dcmp zd ed zv ev ≤ 0
  uv : 0 ≤ dcmp zu eu zv ev
  rdu : (zr = zd ∧ er = ed) ∨ (zr = zu ∧ er = eu)
  ad : atP zd ed pos
  au : atP zu eu pos
  ex : atP zv ev pos → (zd = zu ∧ ed = eu) ∧ dcmp zd ed zv ev = 0
  gap : ¬ atP zv ev pos → ∀ Z E, SumOf Z E zu eu (-zd) ed → dcmp Z E 1 pos = 0
  near : ¬ atP zv ev pos → ∀ Z1 E1 Z2 E2, SumOf Z1 E1 zv ev (-zd) ed → SumOf Z2 E2 zu eu (-zv) ev →
    (dcmp Z1 E1 Z2 E2 < 0 → zr = zd ∧ er = ed) ∧ (0 < dcmp Z1 E1 Z2 E2 → zr = zu ∧ er = eu) ∧ (dcmp Z1 E1 Z2 E2 = 0 → atP zr er (pos + 1))
  sn : -zs = zu ∧ es = eu
  tn : -zt = zr ∧ et = er
theorem dcmp_self (z e : Int) : dcmp z e z e = 0 := by rw [dcmp_dv (Int.le_refl _) (Int.le_refl _)]; exact cmpZ_eq.2 rfl

theorem facts {neg neg' : Bool} {n : Nat} {e pos : Int} (h : NF neg n e) (h' : NF neg' n e) (hs : sg neg' n = -sg neg n) :
    Facts (sg neg n) e (rZ neg n e pos 0) (rF neg n e pos 0) (rZ neg n e pos 1) (rF neg n e pos 1) (rZ neg n e pos 2) (rF neg n e pos 2) (rZ neg' n e pos 0) (rF neg' n e pos 0) (rZ neg' n e pos 2) (rF neg' n e pos 2) pos := by
  have key : ∀ b0 : Int, ∃ b : Int, b ≤ b0 ∧ b ≤ e ∧ b ≤ pos ∧ b ≤ 0 := fun b0 => ⟨min b0 (min e (min pos 0)), by omega, by omega, by omega, by omega⟩
  obtain ⟨b, -, he, hp, h0⟩ := key 0
  have o0 : okM 0 := by unfold okM; omega
  have o1 : okM 1 := by unfold okM; omega
  have o2 : okM 2 := by unfold okM; omega
  have D : ∀ {b : Int}, b ≤ e → b ≤ pos → dv (rZ neg n e pos 0) (rF neg n e pos 0) b = _ := fun h1 h2 => rz_dv h o0 h1 h2
  have U : ∀ {b : Int}, b ≤ e → b ≤ pos → dv (rZ neg n e pos 1) (rF neg n e pos 1) b = _ := fun h1 h2 => rz_dv h o1 h1 h2
  have R : ∀ {b : Int}, b ≤ e → b ≤ pos → dv (rZ neg n e pos 2) (rF neg n e pos 2) b = _ := fun h1 h2 => rz_dv h o2 h1 h2
  have gd : ∀ {b : Int}, b ≤ e → b ≤ pos → b ≤ 0 → b ≤ rF neg n e pos 0 := rf_ge
  have gu : ∀ {b : Int}, b ≤ e → b ≤ pos → b ≤ 0 → b ≤ rF neg n e pos 1 := rf_ge
  have gr : ∀ {b : Int}, b ≤ e → b ≤ pos → b ≤ 0 → b ≤ rF neg n e pos 2 := rf_ge
  have nd := rz_nz neg n e pos 0
  have nu := rz_nz neg n e pos 1
  have nr := rz_nz neg n e pos 2
  have nv := h.nz
  have S0 : ∀ b : Int, 0 < 2 ^ (pos - b).toNat := fun b => two_pos _
  have ns := rz_nz neg' n e pos 0
  have nt := rz_nz neg' n e pos 2
  have gs : ∀ {b : Int}, b ≤ e → b ≤ pos → b ≤ 0 → b ≤ rF neg' n e pos 0 := rf_ge
  have gt : ∀ {b : Int}, b ≤ e → b ≤ pos → b ≤ 0 → b ≤ rF neg' n e pos 2 := rf_ge
  have sN := nz_eq ns.neg nu (gs he hp h0) (gu he hp h0) (by rw [dv_neg, rz_dv h' o0 he hp, U he hp, hs, dv_neg, rdm_down_neg (S0 b), Int.neg_mul, Int.neg_neg])
  have tN := nz_eq nt.neg nr (gt he hp h0) (gr he hp h0) (by rw [dv_neg, rz_dv h' o2 he hp, R he hp, hs, dv_neg, rdm_near_neg (S0 b), Int.neg_mul, Int.neg_neg])
  generalize rZ neg' n e pos 0 = zs at *
  generalize rF neg' n e pos 0 = es at *
  generalize rZ neg' n e pos 2 = zt at *
  generalize rF neg' n e pos 2 = et at *
  generalize rZ neg n e pos 0 = zd at *
  generalize rF neg n e pos 0 = ed at *
  generalize rZ neg n e pos 1 = zu at *
  generalize rF neg n e pos 1 = eu at *
  generalize rZ neg n e pos 2 = zr at *
  generalize rF neg n e pos 2 = er at *
  generalize sg neg n = zv at *
  refine ⟨?_, ?_, ?_, ?_, ?_, fun ha => ?_, fun ha Z E hZ => ?_, fun ha Z1 E1 Z2 E2 h1 h2 => ?_, sN, tN⟩
  · rw [dcmp_dv (gd he hp h0) he, D he hp]; exact cmpZ_le.2 (rdm_down (S0 b)).1
  · rw [dcmp_dv (gu he hp h0) he, U he hp]; exact cmpZ_ge.2 (rdm_up (S0 b)).1
  · by_cases ha : atP zv e pos
    · have hd := (at_iff nv he hp).1 ha
      exact .inl (nz_eq nr nd (gr he hp h0) (gd he hp h0) (by rw [R he hp, D he hp, rdm_exact_all (S0 b) hd, rdm_exact_all (S0 b) hd]))
    · have hd := fun h => ha ((at_iff nv he hp).2 h)
      obtain ⟨q, r, _, _, _, q0, q1, _, _, _, q2 | q2⟩ := rdm_in (S0 b) hd
      · exact .inl (nz_eq nr nd (gr he hp h0) (gd he hp h0) (by rw [R he hp, D he hp, q2, q0]))
      · exact .inr (nz_eq nr nu (gr he hp h0) (gu he hp h0) (by rw [R he hp, U he hp, q2, q1]))
  · exact (at_iff nd (gd he hp h0) hp).2 (by rw [D he hp]; exact Int.dvd_mul_left _ _)
  · exact (at_iff nu (gu he hp h0) hp).2 (by rw [U he hp]; exact Int.dvd_mul_left _ _)
  · have hd := (at_iff nv he hp).1 ha
    have e1 : dv zd ed b = dv zv e b := by rw [D he hp, rdm_exact_all (S0 b) hd]
    refine ⟨nz_eq nd nu (gd he hp h0) (gu he hp h0) (by rw [D he hp, U he hp, rdm_exact_all (S0 b) hd, rdm_exact_all (S0 b) hd]), ?_⟩
    rw [dcmp_dv (gd he hp h0) he, e1]; exact cmpZ_eq.2 rfl
  · obtain ⟨b, hE, he, hp, h0⟩ := key E
    have hd := fun h => ha ((at_iff nv he hp).2 h)
    obtain ⟨q, r, _, _, _, q0, q1, _⟩ := rdm_in (S0 b) hd
    rw [dcmp_dv hE hp, hZ.val b (gu he hp h0) (gd he hp h0), dv_neg, U he hp, D he hp, q0, q1]
    refine cmpZ_eq.2 ?_
    rw [dv, Int.one_mul, Int.add_mul, Int.one_mul]; omega
  · obtain ⟨b, hE, he, hp, h0⟩ := key (min E1 E2)
    have hd := fun h => ha ((at_iff nv he hp).2 h)
    obtain ⟨q, r, hv, r0, r1, q0, q1, q2, q3, q4, _⟩ := rdm_in (S0 b) hd
    have hc : dcmp Z1 E1 Z2 E2 = cmpZ r (((2 ^ (pos - b).toNat : Nat) : Int) - r) := by
      rw [dcmp_dv (b := b) (by omega) (by omega), h1.val b he (gd he hp h0), h2.val b (gu he hp h0) he, dv_neg, dv_neg, U he hp, D he hp, q0, q1, Int.add_mul, Int.one_mul]
      congr 1 <;> omega
    rw [hc]
    refine ⟨fun h => ?_, fun h => ?_, fun h => ?_⟩
    · have := cmpZ_lt.1 h
      exact nz_eq nr nd (gr he hp h0) (gd he hp h0) (by rw [R he hp, D he hp, q2 (by omega), q0])
    · have := cmpZ_gt.1 h
      exact nz_eq nr nu (gr he hp h0) (gu he hp h0) (by rw [R he hp, U he hp, q3 (by omega), q1])
    · have := cmpZ_eq.1 h
      have hev := q4 (by omega)
      obtain ⟨k, hk⟩ := Int.dvd_of_emod_eq_zero hev
      refine (at_iff (b := b) (pos := pos + 1) nr (gr he hp h0) (by omega)).2 ?_
      rw [R he hp, hk]
      refine ⟨k, ?_⟩
      rw [show (pos + 1 - b).toNat = (pos - b).toNat + 1 by omega, Nat.pow_succ, Int.natCast_mul]
      simp only [Int.mul_assoc, Int.mul_comm, Int.mul_left_comm]; rfl
end Dy
end Go.Proofs.YtlkjgafnjmfgiaaDoor
namespace Go.Proofs.YtlkjgafnjmfgiaaDoor
open Go Go.RowKit Eng Sp Dg L2
set_option linter.unusedVariables false
set_option linter.unusedSimpArgs false
set_option maxRecDepth 100000
namespace Dy
open _root_.Go.Proofs.YtlkjgafnjmfgiaaDoor.Nat (ldNf OwnNil Num Num.bl Num.ext OwnNil.mono OwnNil.ext OwnNil.rd OwnNil.ahead OwnNil.nil digs_len_bl num_of Yes)
open _root_.Go.Proofs.YtlkjgafnjmfgiaaDoor.Ref (RN RN.nil RN.ext RN.ahead Limbs_spec len_mono bl_len32 len32)
open Sb

theorem IsD_spec {w : World} {s t : Slc} {n m : Nat} (h : RN w s n) (ht : Rd .u64 w t (nn (digs B64 m))) (hl : (digs B64 n).length ≤ 2 ^ 44) (hl' : (digs B64 m).length ≤ 2 ^ 44) :
    Calls pr surdref01_Num_Is_id #[s.v, t.v] w fun e w' => Ahead w w' ∧ e = .returned (.bool (decide (n = m))) := by
  have htn : t.n = (digs B64 m).length := by rw [ht.n, nn_length]
  refine surdref01_Num_Is_vc s t w _ (fun p q k i w' => p = t ∧ k = ((digs B64 n).length : Int) ∧ (digs B64 n).length = (digs B64 m).length ∧ Ahead w w' ∧ Rd .u64 w' q (nn (digs B64 n)) ∧ ∃ j : Nat, i = (j : Int) ∧ j ≤ (digs B64 n).length ∧ (digs B64 n).take j = (digs B64 m).take j) (fun _ _ k i _ => (k - i).toNat) ?_ ?_
  · refine Calls.mono (Limbs_spec h hl) ?_
    rintro e w1 ⟨ha, s', rfl, ho⟩
    have hr := ho.rd
    have hn' : s'.n = (digs B64 n).length := by rw [hr.n, nn_length]
    refine ⟨_, rfl, br_intro (fun hne => ?_) (fun heq => ?_)⟩
    · have : n ≠ m := fun h => by subst h; rw [hn', htn] at hne; simp at hne
      exact ⟨ha, by rw [decide_eq_false this]⟩
    · have hlen : (digs B64 n).length = (digs B64 m).length := by rw [hn', htn] at heq; simp at heq; omega
      exact ⟨rfl, by rw [hn'], hlen, ha, hr, 0, rfl, Nat.zero_le _, by simp⟩
  · rintro p q k i w1 ⟨rfl, rfl, hlen, ha, hr, j, rfl, hj, htk⟩
    refine br_intro (fun hlt => ?_) (fun hge => ?_)
    · have hj' : j < (digs B64 n).length := by simp at hlt; omega
      refine ldNf hr (by omega) (by omega) ?_
      refine ldNf (ht.ahead ha) (by omega) (by omega) ?_
      intro w2 ha2
      have e8 : IntKind.i64.wrap ((j : Int) + 1) = ((j + 1 : Nat) : Int) := by rw [wrap_i64 (by omega) (by omega)]; omega
      refine br_intro (fun hx => ?_) (fun hx => ?_)
      · have : n ≠ m := fun h => by subst h; simp at hx
        exact ⟨ha.trans ha2, by rw [decide_eq_false this]⟩
      · refine ⟨⟨rfl, rfl, hlen, ha.trans ha2, hr.ahead ha2, j + 1, e8, hj', ?_⟩, by rw [e8]; omega⟩
        have hd : (digs B64 n).getD j 0 = (digs B64 m).getD j 0 := by
          simp only [Int.toNat_natCast, bne_eq_false_iff_eq] at hx
          omega
        rw [List.take_succ_eq_append_getElem hj', List.take_succ_eq_append_getElem (by omega), htk, ← getD_lt _ 0 hj', ← getD_lt _ 0 (by omega), hd]
    · have hj' : j = (digs B64 n).length := by simp at hge; omega
      subst hj'
      rw [List.take_length, hlen, List.take_length] at htk
      exact ⟨ha, by rw [decide_eq_true (digs_inj two64 htk)]⟩
theorem zIsD {w : World} {neg neg' : Bool} {s t : Slc} {n m : Nat} (h : RN w s n) (ht : Rd .u64 w t (nn (digs B64 m))) (hl : (digs B64 n).length ≤ 2 ^ 44) (hl' : (digs B64 m).length ≤ 2 ^ 44) :
    Calls pr surdref06_Z_Is_id #[.agg (c2 neg s), .bool neg', t.v] w fun e w' => Ahead w w' ∧ e = .returned (.bool (decide (neg = neg' ∧ n = m))) := by
  refine surdref06_Z_Is_vc neg s neg' t w _ (newC_b fun b w1 hb h1 hs1 B1 => ldB_b 0 B1 rfl (br_intro (fun he => ?_) (fun he => ?_)))
  · have he' : neg = neg' := by simpa using he
    refine ldS_b 1 B1 rfl (Calls.mono (IsD_spec (h.ahead h1) (ht.ahead h1) hl hl') ?_)
    rintro e w2 ⟨h2, rfl⟩
    exact ⟨_, rfl, h1.trans h2, by simp [he']⟩
  · have he' : neg ≠ neg' := by simpa using he
    exact ⟨h1, by rw [decide_eq_false (fun h => he' h.1)]⟩

def PN (z e : Int) (b : Bool) (s : Slc) (x : Int) (w : World) : Prop := zb z = b ∧ e = x ∧ Rd .u64 w s (nn (digs B64 z.natAbs))
def QN (z e : Int) (b : Bool) (s : Slc) (x : Int) (w : World) : Prop := zb z = b ∧ e = x ∧ RN w s z.natAbs
theorem PN.ext {z e : Int} {b : Bool} {s : Slc} {x : Int} {w w' : World} (h : PN z e b s x w) (X : Ext w w') : PN z e b s x w' := ⟨h.1, h.2.1, Rd.ext h.2.2 X⟩
theorem QN.ext {z e : Int} {b : Bool} {s : Slc} {x : Int} {w w' : World} (h : QN z e b s x w) (X : Ext w w') : QN z e b s x w' := ⟨h.1, h.2.1, RN.ext h.2.2 X⟩
theorem lenz {z : Int} (h : bl z.natAbs ≤ 67108864) : (digs B32 z.natAbs).length ≤ 2 ^ 21 := digs_len_bl32 (by omega)
theorem lenz64 {z : Int} (h : bl z.natAbs ≤ 67108864) : (digs B64 z.natAbs).length ≤ 2 ^ 20 := digs_len_bl (by omega)

theorem sameD {w : World} {s s' : Slc} {z z' e e' : Int} (r : Rd .u64 w s (nn (digs B64 z.natAbs))) (r' : Rd .u64 w s' (nn (digs B64 z'.natAbs))) (hb : bl z.natAbs ≤ 67108864) (hb' : bl z'.natAbs ≤ 67108864) :
    Calls pr surdlaw08_same_id #[.agg (c3 (zb z) s e), .agg (c3 (zb z') s' e')] w fun en w' => Ahead w w' ∧ en = .returned (.bool (decide (z = z' ∧ e = e'))) := by
  have l1 := lenz64 hb
  have l2 := lenz64 hb'
  refine surdlaw08_same_v2 (zb z) s e (zb z') s' e' w _ fun w1 X1 a1 => Calls.mono (zOf_spec (r.ahead a1) (by omega) (ok_digs two64 _)) ?_
  rw [val_digs two64, zb_nD]
  rintro en w2 ⟨h2, s1, rfl, r1⟩
  refine ⟨_, _, rfl, h2, Calls.mono (zIsD r1 (r'.ahead (a1.trans h2)) (by omega) (by omega)) ?_⟩
  rintro en w3 ⟨h3, rfl⟩
  have key : (zb z = zb z' ∧ z.natAbs = z'.natAbs) ↔ z = z' := ⟨fun h => by rw [← sg_zb z, ← sg_zb z', h.1, h.2], fun h => by rw [h]; exact ⟨rfl, rfl⟩⟩
  refine ⟨_, rfl, h3, br_intro (fun hc => ?_) (fun hc => ?_)⟩
  · have hz := key.1 (of_decide_eq_true hc)
    show _ = _
    congr 2
    simp only [hz, true_and]
    exact Bool.eq_iff_iff.2 (by simp)
  · have hz : ¬ z = z' := fun h => of_decide_eq_false hc (key.2 h)
    show _ = _
    rw [decide_eq_false (fun h => hz h.1)]
theorem atD {w : World} {s : Slc} {z e pos : Int} (r : RN w s z.natAbs) :
    Calls pr surdlaw08_at_id #[.agg (c3 (zb z) s e), .int .i64 pos] w fun en w' => Ahead w w' ∧ en = .returned (.bool (decide (atP z e pos))) := by
  refine surdlaw08_at_v2 (zb z) s e pos w _ fun w1 X1 a1 => Calls.mono (zSign_zb (r.ahead a1)) ?_
  rintro en w2 ⟨h2, rfl⟩
  refine ⟨_, rfl, h2, br_intro (fun hz => ?_) (fun hz => ?_)⟩
  · have hz' := sgn_zb.1 (eq_of_beq hz)
    show _ = _
    rw [decide_eq_true (show atP z e pos from .inl hz')]
  · have hz' : z ≠ 0 := fun h => by rw [sgn_zb.2 h] at hz; simp at hz
    show _ = _
    congr 2
    exact Bool.eq_iff_iff.2 (by simp [atP, hz'])
theorem readP {w : World} {s : Slc} {z e : Int} (h : NZ z e) (r : Rd .u64 w s (nn (digs B64 z.natAbs))) (hb : bl z.natAbs ≤ 67108864) (we : wi e) :
    Calls pr surdlaw08_read_id #[.agg (c3 (zb z) s e)] w fun en w' => Ahead w w' ∧ ∃ s', en = .returned (.agg (c3 (zb z) s' e)) ∧ RN w' s' z.natAbs := by
  have l1 := lenz64 hb
  have := dread_spec h.nf r (by omega) (by unfold wi at we; unfold far; omega)
  rw [sg_zb] at this
  exact this
theorem addP {w : World} {s s' : Slc} {z z' e e' : Int} (r : RN w s z.natAbs) (r' : RN w s' z'.natAbs) (h : NZ z e) (h' : NZ z' e') (hb : bl z.natAbs ≤ 67108864) (hb' : bl z'.natAbs ≤ 67108864) (we : wi e) (we' : wi e') :
    Calls pr surdref08_Add_id #[.agg (c3 (zb z) s e), .agg (c3 (zb z') s' e')] w fun en w' => Ahead w w' ∧ AddRet z e z' e' en w' := by
  have l1 := lenz hb
  have l2 := lenz hb'
  unfold wi at we we'
  exact dAdd_spec r r' h h' (by unfold far; omega) (by unfold far; omega) (by omega) (by omega) (fun _ => ⟨by omega, by omega⟩)
theorem cmpP {w : World} {s s' : Slc} {z z' e e' : Int} (r : RN w s z.natAbs) (r' : RN w s' z'.natAbs) (hb : bl z.natAbs ≤ 67108864) (hb' : bl z'.natAbs ≤ 67108864) (we : wi e) (we' : wi e') :
    Calls pr surdref08_Cmp_id #[.agg (c3 (zb z) s e), .agg (c3 (zb z') s' e')] w fun en w' => Ahead w w' ∧ en = .returned (.int .i64 (dcmp z e z' e')) := by
  have l1 := lenz hb
  have l2 := lenz hb'
  unfold wi at we we'
  exact dCmpZ r r' (by omega) (by omega) (by unfold far; omega) (by unfold far; omega)

theorem RoundP {w : World} {neg : Bool} {s : Slc} {x : Nat} {e pos m : Int} (hT : Tab w) (h : Num w s x) (hl : (digs B64 x).length + 1 ≤ 2 ^ 44) :
    Calls pr dyadic_Round_id #[.agg (c3 neg s e), .int .i64 pos, .int .i64 m] w fun en w' => Ahead w w' ∧ ∃ b s' x', en = .returned (.tuple #[.agg (c3 b s' x'), .int .i64 (rdC neg x e pos m)]) ∧
      (rdC neg x e pos m = 0 → PN (rZ (nD neg x) (od x) (eD x e) pos m) (rF (nD neg x) (od x) (eD x e) pos m) b s' x' w') := by
  refine Calls.mono (Round_spec hT h hl) ?_
  rintro en w' ⟨h1, s', rfl, o⟩
  refine ⟨h1, _, _, _, rfl, fun hc => ?_⟩
  rw [if_pos hc] at o
  rw [if_pos hc, if_pos hc]
  exact ⟨(NF.of _ _ (rE (od x) (eD x e) pos)).zb, rfl, by rw [rZ, sg_abs]; exact o.rd⟩
theorem rd_small {neg : Bool} {x : Nat} {e pos m : Int} (hc : rdC neg x e pos m = 0) : bl (rZ (nD neg x) (od x) (eD x e) pos m).natAbs ≤ 67108864 ∧ wi (rF (nD neg x) (od x) (eD x e) pos m) := by
  obtain ⟨b, f⟩ := tC_zero (rdC_zero hc).2.2
  exact ⟨by rw [rZ, sg_abs]; exact b, f⟩
def ngC (x : Nat) (e : Int) : Int := if wi e then tC (od x) (eD x e) else 80
theorem DNeg_spec {w : World} {neg : Bool} {s : Slc} {x : Nat} {e : Int} (hT : Tab w) (h : Num w s x) (hl : (digs B64 x).length ≤ 2 ^ 44) :
    Calls pr dyadic_Neg_id #[.agg (c3 neg s e)] w (DOut w (ngC x e) (!(nD neg x)) (od x) (eD x e)) := by
  refine Calls.mono (dyadic_Neg_v2 neg s e w (fun en w' => Ahead w w' → DOut w (ngC x e) (!(nD neg x)) (od x) (eD x e) en w') ?_) fun en w' ⟨h1, h2⟩ => h2 h1
  intro w1 x1 a1
  refine Calls.mono (read_spec (hT.ahead a1) (h.ahead a1)) ?_
  rintro en w2 ⟨h2, s2, rfl, o2⟩
  refine ⟨_, _, _, _, rfl, h2, br_intro (fun hw => ?_) (fun hw => ?_)⟩
  · have hw' : ¬ wi e := fun h => by rw [if_pos h] at hw; simp at hw
    rw [if_neg hw']
    exact fun w3 x3 a3 _ => DOut.refused a3 (if_neg hw') (by omega)
  · have hw' : wi e := by
      by_cases h : wi e
      · exact h
      · rw [if_neg h] at hw; simp at hw
    rw [if_pos hw'] at o2
    rw [if_pos hw', if_pos hw']
    intro w4 x4 a4
    have lo := len_mono two64 (od_le x)
    refine Calls.mono (told_spec (hT.ahead a4) (num_digs (o2.ext x4).rd (by omega)) (by have := eD_far h hw'; omega)) ?_
    rintro en w5 ⟨h5, s5, rfl, o5⟩
    have hc : ngC x e = tC (od x) (eD x e) := if_pos hw'
    rw [hc]
    exact ⟨_, _, _, _, rfl, h5, fun w6 x6 a6 _ => ⟨a6, s5, rfl, (o5.ext x6).mono a4.size⟩⟩
theorem int1 {w : World} {pos : Int} (hp : wi pos) : Calls pr surdref08_Int_id #[.int .i64 1, .int .i64 pos] w fun en w' => Ahead w w' ∧ ∃ s', en = .returned (.agg (c3 (zb 1) s' pos)) ∧ RN w' s' (1 : Int).natAbs := by
  refine Calls.mono (dInt_spec (v := 1) (e := pos) (by omega) (by omega) (by unfold wi at hp; omega)) ?_
  rintro en w' ⟨h, s', rfl, r⟩
  have o1 : od (1 : Int).natAbs = 1 := od_of_odd rfl
  have t1 : tz 1 = 0 := tz_odd rfl
  have e1 : eD (1 : Int).natAbs pos = pos := by show eD 1 pos = pos; rw [eD, if_neg (by omega), t1]; omega
  rw [o1] at r
  exact ⟨h, s', by rw [e1]; rfl, r⟩
theorem SumOf.far {Z E z e z' e' : Int} (S : SumOf Z E z e z' e') (we : wi e) (we' : wi e') : far E := by
  have h1 := S.lo
  have h2 := S.hi
  unfold wi at we we'
  unfold Dy.far
  omega
theorem sg_flip (neg : Bool) (n : Nat) : sg (nD (!neg) n) n = -sg neg n := by
  by_cases h : n = 0
  · subst h; rw [sg_zero, sg_zero]; rfl
  · rw [nD_ne h]; cases neg <;> simp [sg]

end Dy
end Go.Proofs.YtlkjgafnjmfgiaaDoor
namespace Go.Proofs.YtlkjgafnjmfgiaaDoor
open Go Go.RowKit Eng
set_option linter.unusedVariables false

def surdlaw08_DyadicNear_cut (K16 : Int → Addr → Addr → Addr → Addr → Addr → Addr → World → Prop) (K17 : Int → Addr → Addr → Addr → Addr → Addr → Addr → Addr → Addr → Addr → World → Prop) (K19 : Int → Addr → Addr → Addr → Addr → Addr → Addr → Addr → Addr → Addr → World → Prop) (K23 : Int → Addr → Bool → Addr → Addr → Addr → Addr → Addr → Addr → Addr → Addr → Addr → Addr → World → Prop) (K24 : Int → Addr → Bool → Addr → Addr → Addr → Addr → Addr → Addr → Addr → Addr → Addr → Addr → Bool → World → Prop) (K25 : Int → Bool → Addr → Addr → Addr → Addr → Addr → Addr → Addr → Addr → Addr → Addr → Bool → Addr → Bool → World → Prop) (K27 : Int → Addr → Addr → Addr → Addr → Addr → Addr → Addr → Addr → Bool → Addr → Bool → World → Prop) (K28 : Int → Addr → Addr → Addr → Addr → Addr → Addr → Addr → Addr → Addr → Bool → World → Prop) (K31 : Addr → Addr → Addr → Addr → World → Prop) : Nat → Option ((Act → World → Prop) × (Act → World → Nat))
  | 3000016 => some (fun a_ w_ => atSz a_ 231 (atI .i64 a_ 1 fun t1 => atA a_ 6 fun t6 => atA a_ 8 fun t8 => atA a_ 10 fun t10 => atA a_ 12 fun t12 => atA a_ 16 fun t16 => atA a_ 18 fun t18 => K16 t1 t6 t8 t10 t12 t16 t18 w_), fun _ _ => 0)
  | 3000017 => some (fun a_ w_ => atSz a_ 231 (atI .i64 a_ 1 fun t1 => atA a_ 6 fun t6 => atA a_ 8 fun t8 => atA a_ 10 fun t10 => atA a_ 12 fun t12 => atA a_ 16 fun t16 => atA a_ 18 fun t18 => atA a_ 20 fun t20 => atA a_ 21 fun t21 => atA a_ 22 fun t22 => K17 t1 t6 t8 t10 t12 t16 t18 t20 t21 t22 w_), fun _ _ => 0)
  | 3000019 => some (fun a_ w_ => atSz a_ 231 (atI .i64 a_ 1 fun t1 => atA a_ 6 fun t6 => atA a_ 8 fun t8 => atA a_ 10 fun t10 => atA a_ 12 fun t12 => atA a_ 16 fun t16 => atA a_ 18 fun t18 => atA a_ 20 fun t20 => atA a_ 21 fun t21 => atA a_ 22 fun t22 => K19 t1 t6 t8 t10 t12 t16 t18 t20 t21 t22 w_), fun _ _ => 0)
  | 3000023 => some (fun a_ w_ => atSz a_ 231 (atI .i64 a_ 1 fun t1 => atA a_ 6 fun t6 => atB a_ 7 fun t7 => atA a_ 8 fun t8 => atA a_ 10 fun t10 => atA a_ 12 fun t12 => atA a_ 16 fun t16 => atA a_ 18 fun t18 => atA a_ 20 fun t20 => atA a_ 21 fun t21 => atA a_ 22 fun t22 => atA a_ 23 fun t23 => atA a_ 24 fun t24 => K23 t1 t6 t7 t8 t10 t12 t16 t18 t20 t21 t22 t23 t24 w_), fun _ _ => 0)
  | 3000024 => some (fun a_ w_ => atSz a_ 231 (atI .i64 a_ 1 fun t1 => atA a_ 6 fun t6 => atB a_ 7 fun t7 => atA a_ 8 fun t8 => atA a_ 10 fun t10 => atA a_ 12 fun t12 => atA a_ 16 fun t16 => atA a_ 18 fun t18 => atA a_ 21 fun t21 => atA a_ 22 fun t22 => atA a_ 23 fun t23 => atA a_ 24 fun t24 => atA a_ 25 fun t25 => atB a_ 26 fun t26 => K24 t1 t6 t7 t8 t10 t12 t16 t18 t21 t22 t23 t24 t25 t26 w_), fun _ _ => 0)
  | 3000025 => some (fun a_ w_ => atSz a_ 231 (atI .i64 a_ 1 fun t1 => atB a_ 7 fun t7 => atA a_ 8 fun t8 => atA a_ 10 fun t10 => atA a_ 12 fun t12 => atA a_ 16 fun t16 => atA a_ 18 fun t18 => atA a_ 21 fun t21 => atA a_ 22 fun t22 => atA a_ 23 fun t23 => atA a_ 24 fun t24 => atA a_ 25 fun t25 => atB a_ 26 fun t26 => atA a_ 27 fun t27 => atB a_ 28 fun t28 => K25 t1 t7 t8 t10 t12 t16 t18 t21 t22 t23 t24 t25 t26 t27 t28 w_), fun _ _ => 0)
  | 3000027 => some (fun a_ w_ => atSz a_ 231 (atI .i64 a_ 1 fun t1 => atA a_ 8 fun t8 => atA a_ 10 fun t10 => atA a_ 12 fun t12 => atA a_ 16 fun t16 => atA a_ 18 fun t18 => atA a_ 21 fun t21 => atA a_ 22 fun t22 => atA a_ 25 fun t25 => atB a_ 26 fun t26 => atA a_ 27 fun t27 => atB a_ 28 fun t28 => K27 t1 t8 t10 t12 t16 t18 t21 t22 t25 t26 t27 t28 w_), fun _ _ => 0)
  | 3000028 => some (fun a_ w_ => atSz a_ 231 (atI .i64 a_ 1 fun t1 => atA a_ 8 fun t8 => atA a_ 10 fun t10 => atA a_ 12 fun t12 => atA a_ 16 fun t16 => atA a_ 18 fun t18 => atA a_ 21 fun t21 => atA a_ 22 fun t22 => atA a_ 25 fun t25 => atA a_ 27 fun t27 => atB a_ 181 fun t181 => K28 t1 t8 t10 t12 t16 t18 t21 t22 t25 t27 t181 w_), fun _ _ => 0)
  | 3000031 => some (fun a_ w_ => atSz a_ 231 (atA a_ 16 fun t16 => atA a_ 18 fun t18 => atA a_ 21 fun t21 => atA a_ 22 fun t22 => K31 t16 t18 t21 t22 w_), fun _ _ => 0)
  | _ => none

set_option maxRecDepth 100000 in
theorem surdlaw08_DyadicNear_b21 : heldAllB (regOps Tryd.f3.body 21) (regOps Tryd.f3.body 21).size (itemsOf 0 (regOps Tryd.f3.body 21).toList) = true := by kernel_rfl

set_option maxRecDepth 100000 in
theorem surdlaw08_DyadicNear_b22 : heldAllB (regOps Tryd.f3.body 22) (regOps Tryd.f3.body 22).size (itemsOf 0 (regOps Tryd.f3.body 22).toList) = true := by kernel_rfl

set_option maxRecDepth 100000 in
theorem surdlaw08_DyadicNear_b23 : heldAllB (regOps Tryd.f3.body 23) (regOps Tryd.f3.body 23).size (itemsOf 0 (regOps Tryd.f3.body 23).toList) = true := by kernel_rfl

def surdlaw08_DyadicNear_t16 (K16 : Int → Addr → Addr → Addr → Addr → Addr → Addr → World → Prop) (K17 : Int → Addr → Addr → Addr → Addr → Addr → Addr → Addr → Addr → Addr → World → Prop) (K19 : Int → Addr → Addr → Addr → Addr → Addr → Addr → Addr → Addr → Addr → World → Prop) (K23 : Int → Addr → Bool → Addr → Addr → Addr → Addr → Addr → Addr → Addr → Addr → Addr → Addr → World → Prop) (K24 : Int → Addr → Bool → Addr → Addr → Addr → Addr → Addr → Addr → Addr → Addr → Addr → Addr → Bool → World → Prop) (K25 : Int → Bool → Addr → Addr → Addr → Addr → Addr → Addr → Addr → Addr → Addr → Addr → Bool → Addr → Bool → World → Prop) (K27 : Int → Addr → Addr → Addr → Addr → Addr → Addr → Addr → Addr → Bool → Addr → Bool → World → Prop) (K28 : Int → Addr → Addr → Addr → Addr → Addr → Addr → Addr → Addr → Addr → Bool → World → Prop) (K31 : Addr → Addr → Addr → Addr → World → Prop) (R : Ending → World → Prop) (t1 : Int) (t6 : Addr) (t8 : Addr) (t10 : Addr) (t12 : Addr) (t16 : Addr) (t18 : Addr) (w_ : World) : Prop :=
    ldB t8 w_.drew fun b24 =>
    ldS (t8.add 1) w_.drew fun s17 =>
    ldI .i64 (t8.add 2) w_.drew fun x23 =>
    ldB t10 w_.drew fun b25 =>
    ldS (t10.add 1) w_.drew fun s18 =>
    ldI .i64 (t10.add 2) w_.drew fun x24 =>
    ldB t12 w_.drew fun b26 =>
    ldS (t12.add 1) w_.drew fun s19 =>
    ldI .i64 (t12.add 2) w_.drew fun x25 =>
    ∀ w50, Ahead w_.drew w50 →
    (Calls Tryd.prog 11 #[Value.agg #[Value.bool b24, s17.v, Value.int .i64 x23]] w50 fun e15 w51 =>
     ∃ b27 : Bool, ∃ s20 : Slc, ∃ x26 : Int, e15 = .returned (Value.agg #[Value.bool b27, s20.v, Value.int .i64 x26]) ∧
     (Ahead w50 w51 ∧
      (∀ w52, Ahead w51 w52 →
       (Calls Tryd.prog 11 #[Value.agg #[Value.bool b25, s18.v, Value.int .i64 x24]] w52 fun e16 w53 =>
        ∃ b28 : Bool, ∃ s21 : Slc, ∃ x27 : Int, e16 = .returned (Value.agg #[Value.bool b28, s21.v, Value.int .i64 x27]) ∧
        (Ahead w52 w53 ∧
         (∀ w54, Ahead w53 w54 →
          (Calls Tryd.prog 11 #[Value.agg #[Value.bool b26, s19.v, Value.int .i64 x25]] w54 fun e17 w55 =>
           ∃ b29 : Bool, ∃ s22 : Slc, ∃ x28 : Int, e17 = .returned (Value.agg #[Value.bool b29, s22.v, Value.int .i64 x28]) ∧
           (Ahead w54 w55 ∧
            (∀ w56, Ahead w55 w56 →
             (∀ bn1 : Nat, NewB w_.drew [] w56 bn1 #[Value.bool false, (⟨none, 0, 0⟩ : Slc).v, Value.int .i64 0] 35 →
              ∀ bn2 : Nat, NewB w_.drew [bn1] w56 bn2 #[Value.bool false, (⟨none, 0, 0⟩ : Slc).v, Value.int .i64 0] 35 →
              ∀ bn3 : Nat, NewB w_.drew [bn2, bn1] w56 bn3 #[Value.bool false, (⟨none, 0, 0⟩ : Slc).v, Value.int .i64 0] 35 →
              stC (⟨bn1, 0, none⟩ : Addr) (Value.bool b27) w56 fun w57 =>
              stC ((⟨bn1, 0, none⟩ : Addr).add 1) s20.v w57 fun w58 =>
              stC ((⟨bn1, 0, none⟩ : Addr).add 2) (Value.int .i64 x26) w58 fun w59 =>
              stC (⟨bn2, 0, none⟩ : Addr) (Value.bool b28) w59 fun w60 =>
              stC ((⟨bn2, 0, none⟩ : Addr).add 1) s21.v w60 fun w61 =>
              stC ((⟨bn2, 0, none⟩ : Addr).add 2) (Value.int .i64 x27) w61 fun w62 =>
              stC (⟨bn3, 0, none⟩ : Addr) (Value.bool b29) w62 fun w63 =>
              stC ((⟨bn3, 0, none⟩ : Addr).add 1) s22.v w63 fun w64 =>
              stC ((⟨bn3, 0, none⟩ : Addr).add 2) (Value.int .i64 x28) w64 fun w65 =>
              K17 t1 t6 t8 t10 t12 t16 t18 (⟨bn1, 0, none⟩ : Addr) (⟨bn2, 0, none⟩ : Addr) (⟨bn3, 0, none⟩ : Addr) w65))))))))))

set_option maxRecDepth 100000 in
theorem surdlaw08_DyadicNear_p16 (K16 : Int → Addr → Addr → Addr → Addr → Addr → Addr → World → Prop) (K17 : Int → Addr → Addr → Addr → Addr → Addr → Addr → Addr → Addr → Addr → World → Prop) (K19 : Int → Addr → Addr → Addr → Addr → Addr → Addr → Addr → Addr → Addr → World → Prop) (K23 : Int → Addr → Bool → Addr → Addr → Addr → Addr → Addr → Addr → Addr → Addr → Addr → Addr → World → Prop) (K24 : Int → Addr → Bool → Addr → Addr → Addr → Addr → Addr → Addr → Addr → Addr → Addr → Addr → Bool → World → Prop) (K25 : Int → Bool → Addr → Addr → Addr → Addr → Addr → Addr → Addr → Addr → Addr → Addr → Bool → Addr → Bool → World → Prop) (K27 : Int → Addr → Addr → Addr → Addr → Addr → Addr → Addr → Addr → Bool → Addr → Bool → World → Prop) (K28 : Int → Addr → Addr → Addr → Addr → Addr → Addr → Addr → Addr → Addr → Bool → World → Prop) (K31 : Addr → Addr → Addr → Addr → World → Prop) (R : Ending → World → Prop) (t1 : Int) (t6 : Addr) (t8 : Addr) (t10 : Addr) (t12 : Addr) (t16 : Addr) (t18 : Addr) (g : Nat → Value) (w_ : World) (h : surdlaw08_DyadicNear_t16 K16 K17 K19 K23 K24 K25 K27 K28 K31 R t1 t6 t8 t10 t12 t16 t18 w_) :
    Hold (vc Tryd.prog (marks [2000021, 2000022, 2000023, 4000015] (surdlaw08_DyadicNear_cut K16 K17 K19 K23 K24 K25 K27 K28 K31)) (sqR (sqR (sqR (sqR (sqR (sqR (sqR (sqR (sqR (sqR (sqR (sqR (bodyOf Tryd.f3.body))))))))))))) (vcPost Tryd.prog Tryd.f3 R) (Fr 231 [(1, Value.int .i64 t1), (6, Value.pointer (some t6)), (8, Value.pointer (some t8)), (10, Value.pointer (some t10)), (12, Value.pointer (some t12)), (16, Value.pointer (some t16)), (18, Value.pointer (some t18))] g) w_) := by
  unfold surdlaw08_DyadicNear_t16 at h
  refine kcast h ?_; kernel_rfl

def surdlaw08_DyadicNear_t17 (K16 : Int → Addr → Addr → Addr → Addr → Addr → Addr → World → Prop) (K17 : Int → Addr → Addr → Addr → Addr → Addr → Addr → Addr → Addr → Addr → World → Prop) (K19 : Int → Addr → Addr → Addr → Addr → Addr → Addr → Addr → Addr → Addr → World → Prop) (K23 : Int → Addr → Bool → Addr → Addr → Addr → Addr → Addr → Addr → Addr → Addr → Addr → Addr → World → Prop) (K24 : Int → Addr → Bool → Addr → Addr → Addr → Addr → Addr → Addr → Addr → Addr → Addr → Addr → Bool → World → Prop) (K25 : Int → Bool → Addr → Addr → Addr → Addr → Addr → Addr → Addr → Addr → Addr → Addr → Bool → Addr → Bool → World → Prop) (K27 : Int → Addr → Addr → Addr → Addr → Addr → Addr → Addr → Addr → Bool → Addr → Bool → World → Prop) (K28 : Int → Addr → Addr → Addr → Addr → Addr → Addr → Addr → Addr → Addr → Bool → World → Prop) (K31 : Addr → Addr → Addr → Addr → World → Prop) (R : Ending → World → Prop) (t1 : Int) (t6 : Addr) (t8 : Addr) (t10 : Addr) (t12 : Addr) (t16 : Addr) (t18 : Addr) (t20 : Addr) (t21 : Addr) (t22 : Addr) (w_ : World) : Prop :=
    ldB t20 w_ fun b30 =>
    ldS (t20.add 1) w_ fun s23 =>
    ldI .i64 (t20.add 2) w_ fun x29 =>
    ldB t6 w_ fun b31 =>
    ldS (t6.add 1) w_ fun s24 =>
    ldI .i64 (t6.add 2) w_ fun x30 =>
    Calls Tryd.prog 12 #[Value.agg #[Value.bool b30, s23.v, Value.int .i64 x29], Value.agg #[Value.bool b31, s24.v, Value.int .i64 x30]] w_ fun e18 w66 =>
    ∃ x31 : Int, e18 = .returned (Value.int .i64 x31) ∧
    (br (decide (x31 > 0))
     (R (.returned (Value.bool false)) w66)
     (ldB t21 w66 fun b32 =>
      ldS (t21.add 1) w66 fun s25 =>
      ldI .i64 (t21.add 2) w66 fun x32 =>
      ldB t6 w66 fun b33 =>
      ldS (t6.add 1) w66 fun s26 =>
      ldI .i64 (t6.add 2) w66 fun x33 =>
      Calls Tryd.prog 12 #[Value.agg #[Value.bool b32, s25.v, Value.int .i64 x32], Value.agg #[Value.bool b33, s26.v, Value.int .i64 x33]] w66 fun e19 w67 =>
      ∃ x34 : Int, e19 = .returned (Value.int .i64 x34) ∧
      (br (decide (x34 < 0))
       (R (.returned (Value.bool false)) w67)
       (ldB t12 w67 fun b34 =>
        ldS (t12.add 1) w67 fun s27 =>
        ldI .i64 (t12.add 2) w67 fun x35 =>
        ldB t8 w67 fun b35 =>
        ldS (t8.add 1) w67 fun s28 =>
        ldI .i64 (t8.add 2) w67 fun x36 =>
        Calls Tryd.prog 13 #[Value.agg #[Value.bool b34, s27.v, Value.int .i64 x35], Value.agg #[Value.bool b35, s28.v, Value.int .i64 x36]] w67 fun e20 w68 =>
        ∃ b36 : Bool, e20 = .returned (Value.bool b36) ∧
        (br (!b36)
         (ldB t12 w68 fun b37 =>
          ldS (t12.add 1) w68 fun s29 =>
          ldI .i64 (t12.add 2) w68 fun x37 =>
          ldB t10 w68 fun b38 =>
          ldS (t10.add 1) w68 fun s30 =>
          ldI .i64 (t10.add 2) w68 fun x38 =>
          Calls Tryd.prog 13 #[Value.agg #[Value.bool b37, s29.v, Value.int .i64 x37], Value.agg #[Value.bool b38, s30.v, Value.int .i64 x38]] w68 fun e21 w69 =>
          ∃ b39 : Bool, e21 = .returned (Value.bool b39) ∧
          (br (!b39)
           (R (.returned (Value.bool false)) w69)
           (ldB t20 w69 fun b40 =>
            ldS (t20.add 1) w69 fun s31 =>
            ldI .i64 (t20.add 2) w69 fun x39 =>
            Calls Tryd.prog 14 #[Value.agg #[Value.bool b40, s31.v, Value.int .i64 x39], Value.int .i64 t1] w69 fun e22 w70 =>
            ∃ b41 : Bool, e22 = .returned (Value.bool b41) ∧
            (br (!b41)
             (R (.returned (Value.bool false)) w70)
             (ldB t21 w70 fun b42 =>
              ldS (t21.add 1) w70 fun s32 =>
              ldI .i64 (t21.add 2) w70 fun x40 =>
              Calls Tryd.prog 14 #[Value.agg #[Value.bool b42, s32.v, Value.int .i64 x40], Value.int .i64 t1] w70 fun e23 w71 =>
              ∃ b43 : Bool, e23 = .returned (Value.bool b43) ∧
              (br (!b43)
               (R (.returned (Value.bool false)) w71)
               (K19 t1 t6 t8 t10 t12 t16 t18 t20 t21 t22 w71)))))))
         (ldB t20 w68 fun b113 =>
          ldS (t20.add 1) w68 fun s82 =>
          ldI .i64 (t20.add 2) w68 fun x95 =>
          Calls Tryd.prog 14 #[Value.agg #[Value.bool b113, s82.v, Value.int .i64 x95], Value.int .i64 t1] w68 fun e60 w148 =>
          ∃ b114 : Bool, e60 = .returned (Value.bool b114) ∧
          (br (!b114)
           (R (.returned (Value.bool false)) w148)
           (ldB t21 w148 fun b115 =>
            ldS (t21.add 1) w148 fun s83 =>
            ldI .i64 (t21.add 2) w148 fun x96 =>
            Calls Tryd.prog 14 #[Value.agg #[Value.bool b115, s83.v, Value.int .i64 x96], Value.int .i64 t1] w148 fun e61 w149 =>
            ∃ b116 : Bool, e61 = .returned (Value.bool b116) ∧
            (br (!b116)
             (R (.returned (Value.bool false)) w149)
             (K19 t1 t6 t8 t10 t12 t16 t18 t20 t21 t22 w149))))))))))

set_option maxRecDepth 100000 in
theorem surdlaw08_DyadicNear_p17 (K16 : Int → Addr → Addr → Addr → Addr → Addr → Addr → World → Prop) (K17 : Int → Addr → Addr → Addr → Addr → Addr → Addr → Addr → Addr → Addr → World → Prop) (K19 : Int → Addr → Addr → Addr → Addr → Addr → Addr → Addr → Addr → Addr → World → Prop) (K23 : Int → Addr → Bool → Addr → Addr → Addr → Addr → Addr → Addr → Addr → Addr → Addr → Addr → World → Prop) (K24 : Int → Addr → Bool → Addr → Addr → Addr → Addr → Addr → Addr → Addr → Addr → Addr → Addr → Bool → World → Prop) (K25 : Int → Bool → Addr → Addr → Addr → Addr → Addr → Addr → Addr → Addr → Addr → Addr → Bool → Addr → Bool → World → Prop) (K27 : Int → Addr → Addr → Addr → Addr → Addr → Addr → Addr → Addr → Bool → Addr → Bool → World → Prop) (K28 : Int → Addr → Addr → Addr → Addr → Addr → Addr → Addr → Addr → Addr → Bool → World → Prop) (K31 : Addr → Addr → Addr → Addr → World → Prop) (R : Ending → World → Prop) (t1 : Int) (t6 : Addr) (t8 : Addr) (t10 : Addr) (t12 : Addr) (t16 : Addr) (t18 : Addr) (t20 : Addr) (t21 : Addr) (t22 : Addr) (g : Nat → Value) (w_ : World) (h : surdlaw08_DyadicNear_t17 K16 K17 K19 K23 K24 K25 K27 K28 K31 R t1 t6 t8 t10 t12 t16 t18 t20 t21 t22 w_) :
    Hold (vc Tryd.prog (marks [2000021, 2000022, 2000023, 4000015] (surdlaw08_DyadicNear_cut K16 K17 K19 K23 K24 K25 K27 K28 K31)) (sqR (sqR (sqR (sqR (sqR (sqR (sqR (sqR (sqR (sqR (sqR (sqR (sqR (bodyOf Tryd.f3.body)))))))))))))) (vcPost Tryd.prog Tryd.f3 R) (Fr 231 [(1, Value.int .i64 t1), (6, Value.pointer (some t6)), (8, Value.pointer (some t8)), (10, Value.pointer (some t10)), (12, Value.pointer (some t12)), (16, Value.pointer (some t16)), (18, Value.pointer (some t18)), (20, Value.pointer (some t20)), (21, Value.pointer (some t21)), (22, Value.pointer (some t22))] g) w_) := by
  unfold surdlaw08_DyadicNear_t17 at h
  refine kcast h ?_; kernel_rfl

set_option maxRecDepth 100000 in
/-- surd/surdlaw08.DyadicNear: function 3. -/
theorem surdlaw08_DyadicNear_vc (a0_0 : Bool) (a0_1 : Slc) (a0_2 : Int) (a1 : Int) (w : World) (R : Ending → World → Prop)
    (K16 : Int → Addr → Addr → Addr → Addr → Addr → Addr → World → Prop) (K17 : Int → Addr → Addr → Addr → Addr → Addr → Addr → Addr → Addr → Addr → World → Prop) (K19 : Int → Addr → Addr → Addr → Addr → Addr → Addr → Addr → Addr → Addr → World → Prop) (K23 : Int → Addr → Bool → Addr → Addr → Addr → Addr → Addr → Addr → Addr → Addr → Addr → Addr → World → Prop) (K24 : Int → Addr → Bool → Addr → Addr → Addr → Addr → Addr → Addr → Addr → Addr → Addr → Addr → Bool → World → Prop) (K25 : Int → Bool → Addr → Addr → Addr → Addr → Addr → Addr → Addr → Addr → Addr → Addr → Bool → Addr → Bool → World → Prop) (K27 : Int → Addr → Addr → Addr → Addr → Addr → Addr → Addr → Addr → Bool → Addr → Bool → World → Prop) (K28 : Int → Addr → Addr → Addr → Addr → Addr → Addr → Addr → Addr → Addr → Bool → World → Prop) (K31 : Addr → Addr → Addr → Addr → World → Prop)
    (h : newC w #[Value.bool a0_0, a0_1.v, Value.int .i64 a0_2] 24 fun ad1 w1 =>
    ldB ad1 w1 fun b1 =>
    ldS (ad1.add 1) w1 fun s1 =>
    ldI .i64 (ad1.add 2) w1 fun x1 =>
    Calls Tryd.prog 4 #[Value.agg #[Value.bool b1, s1.v, Value.int .i64 x1]] w1 fun e1 w2 =>
    ∃ b2 : Bool, ∃ s2 : Slc, ∃ x2 : Int, e1 = .returned (Value.agg #[Value.bool b2, s2.v, Value.int .i64 x2]) ∧
    (newC w2 #[Value.bool false, (⟨none, 0, 0⟩ : Slc).v, Value.int .i64 0] 29 fun ad2 w3 =>
     stC ad2 (Value.bool b2) w3 fun w4 =>
     stC (ad2.add 1) s2.v w4 fun w5 =>
     stC (ad2.add 2) (Value.int .i64 x2) w5 fun w6 =>
     ldB ad1 w6 fun b3 =>
     ldS (ad1.add 1) w6 fun s3 =>
     ldI .i64 (ad1.add 2) w6 fun x3 =>
     Calls Tryd.prog 5 #[Value.agg #[Value.bool b3, s3.v, Value.int .i64 x3]] w6 fun e2 w7 =>
     ∃ b4 : Bool, ∃ s4 : Slc, ∃ x4 : Int, ∃ b5 : Bool, e2 = .returned (Value.tuple #[Value.agg #[Value.bool b4, s4.v, Value.int .i64 x4], Value.bool b5]) ∧
     (newC w7 #[Value.bool false, (⟨none, 0, 0⟩ : Slc).v, Value.int .i64 0] 35 fun ad3 w8 =>
      stC ad3 (Value.bool b4) w8 fun w9 =>
      stC (ad3.add 1) s4.v w9 fun w10 =>
      stC (ad3.add 2) (Value.int .i64 x4) w10 fun w11 =>
      br (!b5)
      (Calls Tryd.prog 7 #[] w11 fun e3 w12 =>
       ∃ b6 : Bool, e3 = .returned (Value.bool b6) ∧
       (R (.returned (Value.bool b6)) w12))
      (Calls Tryd.prog 6 #[Value.int .i64 a1] w11 fun e4 w13 =>
       ∃ b7 : Bool, e4 = .returned (Value.bool b7) ∧
       (br (!b7)
        (Calls Tryd.prog 7 #[] w13 fun e5 w14 =>
         ∃ b8 : Bool, e5 = .returned (Value.bool b8) ∧
         (R (.returned (Value.bool b8)) w14))
        (ldB ad2 w13 fun b9 =>
         ldS (ad2.add 1) w13 fun s5 =>
         ldI .i64 (ad2.add 2) w13 fun x5 =>
         Calls Tryd.prog 8 #[Value.agg #[Value.bool b9, s5.v, Value.int .i64 x5], Value.int .i64 a1, Value.int .i64 0] w13 fun e6 w15 =>
         ∃ b10 : Bool, ∃ s6 : Slc, ∃ x6 : Int, ∃ x7 : Int, e6 = .returned (Value.tuple #[Value.agg #[Value.bool b10, s6.v, Value.int .i64 x6], Value.int .i64 x7]) ∧
         (newC w15 #[Value.bool false, (⟨none, 0, 0⟩ : Slc).v, Value.int .i64 0] 29 fun ad4 w16 =>
          stC ad4 (Value.bool b10) w16 fun w17 =>
          stC (ad4.add 1) s6.v w17 fun w18 =>
          stC (ad4.add 2) (Value.int .i64 x6) w18 fun w19 =>
          ldB ad2 w19 fun b11 =>
          ldS (ad2.add 1) w19 fun s7 =>
          ldI .i64 (ad2.add 2) w19 fun x8 =>
          Calls Tryd.prog 8 #[Value.agg #[Value.bool b11, s7.v, Value.int .i64 x8], Value.int .i64 a1, Value.int .i64 1] w19 fun e7 w20 =>
          ∃ b12 : Bool, ∃ s8 : Slc, ∃ x9 : Int, ∃ x10 : Int, e7 = .returned (Value.tuple #[Value.agg #[Value.bool b12, s8.v, Value.int .i64 x9], Value.int .i64 x10]) ∧
          (newC w20 #[Value.bool false, (⟨none, 0, 0⟩ : Slc).v, Value.int .i64 0] 29 fun ad5 w21 =>
           stC ad5 (Value.bool b12) w21 fun w22 =>
           stC (ad5.add 1) s8.v w22 fun w23 =>
           stC (ad5.add 2) (Value.int .i64 x9) w23 fun w24 =>
           ldB ad2 w24 fun b13 =>
           ldS (ad2.add 1) w24 fun s9 =>
           ldI .i64 (ad2.add 2) w24 fun x11 =>
           Calls Tryd.prog 8 #[Value.agg #[Value.bool b13, s9.v, Value.int .i64 x11], Value.int .i64 a1, Value.int .i64 2] w24 fun e8 w25 =>
           ∃ b14 : Bool, ∃ s10 : Slc, ∃ x12 : Int, ∃ x13 : Int, e8 = .returned (Value.tuple #[Value.agg #[Value.bool b14, s10.v, Value.int .i64 x12], Value.int .i64 x13]) ∧
           (newC w25 #[Value.bool false, (⟨none, 0, 0⟩ : Slc).v, Value.int .i64 0] 29 fun ad6 w26 =>
            stC ad6 (Value.bool b14) w26 fun w27 =>
            stC (ad6.add 1) s10.v w27 fun w28 =>
            stC (ad6.add 2) (Value.int .i64 x12) w28 fun w29 =>
            ldB ad2 w29 fun b15 =>
            ldS (ad2.add 1) w29 fun s11 =>
            ldI .i64 (ad2.add 2) w29 fun x14 =>
            Calls Tryd.prog 9 #[Value.agg #[Value.bool b15, s11.v, Value.int .i64 x14]] w29 fun e9 w30 =>
            ∃ b16 : Bool, ∃ s12 : Slc, ∃ x15 : Int, ∃ x16 : Int, e9 = .returned (Value.tuple #[Value.agg #[Value.bool b16, s12.v, Value.int .i64 x15], Value.int .i64 x16]) ∧
            (newC w30 #[Value.bool false, (⟨none, 0, 0⟩ : Slc).v, Value.int .i64 0] 29 fun ad7 w31 =>
             stC ad7 (Value.bool b16) w31 fun w32 =>
             stC (ad7.add 1) s12.v w32 fun w33 =>
             stC (ad7.add 2) (Value.int .i64 x15) w33 fun w34 =>
             newC w34 #[Value.int .i64 x7, Value.int .i64 x10, Value.int .i64 x13, Value.int .i64 x16] 40 fun ad8 w35 =>
             Calls Tryd.prog 10 #[(⟨some ad8, 4, 4⟩ : Slc).v] w35 fun e10 w36 =>
             ∃ b17 : Bool, e10 = .returned (Value.bool b17) ∧
             (br (!b17)
              (Calls Tryd.prog 7 #[] w36 fun e11 w37 =>
               ∃ b18 : Bool, e11 = .returned (Value.bool b18) ∧
               (R (.returned (Value.bool b18)) w37))
              (ldB ad7 w36 fun b19 =>
               ldS (ad7.add 1) w36 fun s13 =>
               ldI .i64 (ad7.add 2) w36 fun x17 =>
               Calls Tryd.prog 8 #[Value.agg #[Value.bool b19, s13.v, Value.int .i64 x17], Value.int .i64 a1, Value.int .i64 0] w36 fun e12 w38 =>
               ∃ b20 : Bool, ∃ s14 : Slc, ∃ x18 : Int, ∃ x19 : Int, e12 = .returned (Value.tuple #[Value.agg #[Value.bool b20, s14.v, Value.int .i64 x18], Value.int .i64 x19]) ∧
               (newC w38 #[Value.bool false, (⟨none, 0, 0⟩ : Slc).v, Value.int .i64 0] 29 fun ad9 w39 =>
                stC ad9 (Value.bool b20) w39 fun w40 =>
                stC (ad9.add 1) s14.v w40 fun w41 =>
                stC (ad9.add 2) (Value.int .i64 x18) w41 fun w42 =>
                ldB ad7 w42 fun b21 =>
                ldS (ad7.add 1) w42 fun s15 =>
                ldI .i64 (ad7.add 2) w42 fun x20 =>
                Calls Tryd.prog 8 #[Value.agg #[Value.bool b21, s15.v, Value.int .i64 x20], Value.int .i64 a1, Value.int .i64 2] w42 fun e13 w43 =>
                ∃ b22 : Bool, ∃ s16 : Slc, ∃ x21 : Int, ∃ x22 : Int, e13 = .returned (Value.tuple #[Value.agg #[Value.bool b22, s16.v, Value.int .i64 x21], Value.int .i64 x22]) ∧
                (newC w43 #[Value.bool false, (⟨none, 0, 0⟩ : Slc).v, Value.int .i64 0] 29 fun ad10 w44 =>
                 stC ad10 (Value.bool b22) w44 fun w45 =>
                 stC (ad10.add 1) s16.v w45 fun w46 =>
                 stC (ad10.add 2) (Value.int .i64 x21) w46 fun w47 =>
                 newC w47 #[Value.int .i64 x19, Value.int .i64 x22] 40 fun ad11 w48 =>
                 Calls Tryd.prog 10 #[(⟨some ad11, 2, 2⟩ : Slc).v] w48 fun e14 w49 =>
                 ∃ b23 : Bool, e14 = .returned (Value.bool b23) ∧
                 (br (!b23)
                  (R (.returned (Value.bool false)) w49)
                  (K16 a1 ad3 ad4 ad5 ad6 ad9 ad10 w49))))))))))))))))
    (h3000016 : ∀ (t1 : Int) (t6 : Addr) (t8 : Addr) (t10 : Addr) (t12 : Addr) (t16 : Addr) (t18 : Addr) (w_ : World), K16 t1 t6 t8 t10 t12 t16 t18 w_ →  surdlaw08_DyadicNear_t16 K16 K17 K19 K23 K24 K25 K27 K28 K31 R t1 t6 t8 t10 t12 t16 t18 w_)
    (h3000017 : ∀ (t1 : Int) (t6 : Addr) (t8 : Addr) (t10 : Addr) (t12 : Addr) (t16 : Addr) (t18 : Addr) (t20 : Addr) (t21 : Addr) (t22 : Addr) (w_ : World), K17 t1 t6 t8 t10 t12 t16 t18 t20 t21 t22 w_ →  surdlaw08_DyadicNear_t17 K16 K17 K19 K23 K24 K25 K27 K28 K31 R t1 t6 t8 t10 t12 t16 t18 t20 t21 t22 w_)
    (h3000019 : ∀ (t1 : Int) (t6 : Addr) (t8 : Addr) (t10 : Addr) (t12 : Addr) (t16 : Addr) (t18 : Addr) (t20 : Addr) (t21 : Addr) (t22 : Addr) (w_ : World), K19 t1 t6 t8 t10 t12 t16 t18 t20 t21 t22 w_ → 
    ldB t6 w_ fun b44 =>
    ldS (t6.add 1) w_ fun s33 =>
    ldI .i64 (t6.add 2) w_ fun x41 =>
    Calls Tryd.prog 14 #[Value.agg #[Value.bool b44, s33.v, Value.int .i64 x41], Value.int .i64 t1] w_ fun e24 w72 =>
    ∃ b45 : Bool, e24 = .returned (Value.bool b45) ∧
    (br b45
     (ldB t8 w72 fun b46 =>
      ldS (t8.add 1) w72 fun s34 =>
      ldI .i64 (t8.add 2) w72 fun x42 =>
      ldB t10 w72 fun b47 =>
      ldS (t10.add 1) w72 fun s35 =>
      ldI .i64 (t10.add 2) w72 fun x43 =>
      Calls Tryd.prog 13 #[Value.agg #[Value.bool b46, s34.v, Value.int .i64 x42], Value.agg #[Value.bool b47, s35.v, Value.int .i64 x43]] w72 fun e25 w73 =>
      ∃ b48 : Bool, e25 = .returned (Value.bool b48) ∧
      (br b48
       (ldB t20 w73 fun b49 =>
        ldS (t20.add 1) w73 fun s36 =>
        ldI .i64 (t20.add 2) w73 fun x44 =>
        ldB t6 w73 fun b50 =>
        ldS (t6.add 1) w73 fun s37 =>
        ldI .i64 (t6.add 2) w73 fun x45 =>
        Calls Tryd.prog 12 #[Value.agg #[Value.bool b49, s36.v, Value.int .i64 x44], Value.agg #[Value.bool b50, s37.v, Value.int .i64 x45]] w73 fun e26 w74 =>
        ∃ x46 : Int, e26 = .returned (Value.int .i64 x46) ∧
        (br (x46 == 0)
         (Calls Tryd.prog 7 #[] w74 fun e27 w75 =>
          ∃ b51 : Bool, e27 = .returned (Value.bool b51) ∧
          (R (.returned (Value.bool b51)) w75))
         (R (.returned (Value.bool false)) w74)))
       (R (.returned (Value.bool false)) w73)))
     (Calls Tryd.prog 15 #[Value.int .i64 1, Value.int .i64 t1] w72 fun e28 w76 =>
      ∃ b52 : Bool, ∃ s38 : Slc, ∃ x47 : Int, e28 = .returned (Value.agg #[Value.bool b52, s38.v, Value.int .i64 x47]) ∧
      (newC w76 #[Value.bool false, (⟨none, 0, 0⟩ : Slc).v, Value.int .i64 0] 35 fun ad12 w77 =>
       stC ad12 (Value.bool b52) w77 fun w78 =>
       stC (ad12.add 1) s38.v w78 fun w79 =>
       stC (ad12.add 2) (Value.int .i64 x47) w79 fun w80 =>
       ∃ V1 : Nat → Nat → Prop, Out (V1 0) t21 (ldB t21 w80.drew fun b53 =>
        ldS (t21.add 1) w80.drew fun s39 =>
        ldI .i64 (t21.add 2) w80.drew fun x48 =>
        Out (V1 1) t20 (ldB t20 w80.drew fun b54 =>
         ldS (t20.add 1) w80.drew fun s40 =>
         ldI .i64 (t20.add 2) w80.drew fun x49 =>
         (Calls Tryd.prog 17 #[Value.agg #[Value.bool b54, s40.v, Value.int .i64 x49]] w80.drew fun e29 w81 =>
          ∃ b55 : Bool, ∃ s41 : Slc, ∃ x50 : Int, e29 = .returned (Value.agg #[Value.bool b55, s41.v, Value.int .i64 x50]) ∧
          (Bar (V1 0) w80.drew w81 ∧
           ((Calls Tryd.prog 16 #[Value.agg #[Value.bool b53, s39.v, Value.int .i64 x48], Value.agg #[Value.bool b55, s41.v, Value.int .i64 x50]] w81 fun e30 w82 =>
             ∃ b56 : Bool, ∃ s42 : Slc, ∃ x51 : Int, ∃ b57 : Bool, e30 = .returned (Value.tuple #[Value.agg #[Value.bool b56, s42.v, Value.int .i64 x51], Value.bool b57]) ∧
             (newC w82 #[Value.bool false, (⟨none, 0, 0⟩ : Slc).v, Value.int .i64 0] 35 fun ad13 w83 =>
              Bar (V1 0) w82 w83 ∧
              (Bar (V1 1) w82 w83 ∧
               (stC ad13 (Value.bool b56) w83 fun w84 =>
                stC (ad13.add 1) s42.v w84 fun w85 =>
                stC (ad13.add 2) (Value.int .i64 x51) w85 fun w86 =>
                K23 t1 t6 b57 t8 t10 t12 t16 t18 t20 t21 t22 ad12 ad13 w86)))) ∧
            (newC w81 #[Value.bool false, (⟨none, 0, 0⟩ : Slc).v, Value.int .i64 0] 35 fun ad20 w137 =>
             Bar (V1 0) w81 w137 ∧
             (Bar (V1 1) w81 w137 ∧
              (Calls Tryd.prog 16 #[Value.agg #[Value.bool b53, s39.v, Value.int .i64 x48], Value.agg #[Value.bool b55, s41.v, Value.int .i64 x50]] w137 fun e57 w138 =>
               ∃ b108 : Bool, ∃ s79 : Slc, ∃ x92 : Int, ∃ b109 : Bool, e57 = .returned (Value.tuple #[Value.agg #[Value.bool b108, s79.v, Value.int .i64 x92], Value.bool b109]) ∧
               (stC ad20 (Value.bool b108) w138 fun w139 =>
                stC (ad20.add 1) s79.v w139 fun w140 =>
                stC (ad20.add 2) (Value.int .i64 x92) w140 fun w141 =>
                K23 t1 t6 b109 t8 t10 t12 t16 t18 t20 t21 t22 ad12 ad20 w141))))))) ∧
         (newC w80.drew #[Value.bool false, (⟨none, 0, 0⟩ : Slc).v, Value.int .i64 0] 35 fun ad21 w142 =>
          Bar (V1 0) w80.drew w142 ∧
          (Bar (V1 1) w80.drew w142 ∧
           (Calls Tryd.prog 17 #[Value.agg #[Value.bool b54, s40.v, Value.int .i64 x49]] w142 fun e58 w143 =>
            ∃ b110 : Bool, ∃ s80 : Slc, ∃ x93 : Int, e58 = .returned (Value.agg #[Value.bool b110, s80.v, Value.int .i64 x93]) ∧
            (Bar (V1 0) w142 w143 ∧
             (Calls Tryd.prog 16 #[Value.agg #[Value.bool b53, s39.v, Value.int .i64 x48], Value.agg #[Value.bool b110, s80.v, Value.int .i64 x93]] w143 fun e59 w144 =>
              ∃ b111 : Bool, ∃ s81 : Slc, ∃ x94 : Int, ∃ b112 : Bool, e59 = .returned (Value.tuple #[Value.agg #[Value.bool b111, s81.v, Value.int .i64 x94], Value.bool b112]) ∧
              (stC ad21 (Value.bool b111) w144 fun w145 =>
               stC (ad21.add 1) s81.v w145 fun w146 =>
               stC (ad21.add 2) (Value.int .i64 x94) w146 fun w147 =>
               K23 t1 t6 b112 t8 t10 t12 t16 t18 t20 t21 t22 ad12 ad21 w147))))))))))))
    (h3000023 : ∀ (t1 : Int) (t6 : Addr) (t7 : Bool) (t8 : Addr) (t10 : Addr) (t12 : Addr) (t16 : Addr) (t18 : Addr) (t20 : Addr) (t21 : Addr) (t22 : Addr) (t23 : Addr) (t24 : Addr) (w_ : World), K23 t1 t6 t7 t8 t10 t12 t16 t18 t20 t21 t22 t23 t24 w_ → 
    ∃ V2 : Nat → Nat → Prop, Out (V2 0) t6 (ldB t6 w_.drew fun b58 =>
     ldS (t6.add 1) w_.drew fun s43 =>
     ldI .i64 (t6.add 2) w_.drew fun x52 =>
     Out (V2 1) t20 (ldB t20 w_.drew fun b59 =>
      ldS (t20.add 1) w_.drew fun s44 =>
      ldI .i64 (t20.add 2) w_.drew fun x53 =>
      (Calls Tryd.prog 17 #[Value.agg #[Value.bool b59, s44.v, Value.int .i64 x53]] w_.drew fun e31 w87 =>
       ∃ b60 : Bool, ∃ s45 : Slc, ∃ x54 : Int, e31 = .returned (Value.agg #[Value.bool b60, s45.v, Value.int .i64 x54]) ∧
       (Bar (V2 0) w_.drew w87 ∧
        ((Calls Tryd.prog 16 #[Value.agg #[Value.bool b58, s43.v, Value.int .i64 x52], Value.agg #[Value.bool b60, s45.v, Value.int .i64 x54]] w87 fun e32 w88 =>
          ∃ b61 : Bool, ∃ s46 : Slc, ∃ x55 : Int, ∃ b62 : Bool, e32 = .returned (Value.tuple #[Value.agg #[Value.bool b61, s46.v, Value.int .i64 x55], Value.bool b62]) ∧
          (newC w88 #[Value.bool false, (⟨none, 0, 0⟩ : Slc).v, Value.int .i64 0] 35 fun ad14 w89 =>
           Bar (V2 0) w88 w89 ∧
           (Bar (V2 1) w88 w89 ∧
            (stC ad14 (Value.bool b61) w89 fun w90 =>
             stC (ad14.add 1) s46.v w90 fun w91 =>
             stC (ad14.add 2) (Value.int .i64 x55) w91 fun w92 =>
             K24 t1 t6 t7 t8 t10 t12 t16 t18 t21 t22 t23 t24 ad14 b62 w92)))) ∧
         (newC w87 #[Value.bool false, (⟨none, 0, 0⟩ : Slc).v, Value.int .i64 0] 35 fun ad18 w126 =>
          Bar (V2 0) w87 w126 ∧
          (Bar (V2 1) w87 w126 ∧
           (Calls Tryd.prog 16 #[Value.agg #[Value.bool b58, s43.v, Value.int .i64 x52], Value.agg #[Value.bool b60, s45.v, Value.int .i64 x54]] w126 fun e54 w127 =>
            ∃ b103 : Bool, ∃ s76 : Slc, ∃ x89 : Int, ∃ b104 : Bool, e54 = .returned (Value.tuple #[Value.agg #[Value.bool b103, s76.v, Value.int .i64 x89], Value.bool b104]) ∧
            (stC ad18 (Value.bool b103) w127 fun w128 =>
             stC (ad18.add 1) s76.v w128 fun w129 =>
             stC (ad18.add 2) (Value.int .i64 x89) w129 fun w130 =>
             K24 t1 t6 t7 t8 t10 t12 t16 t18 t21 t22 t23 t24 ad18 b104 w130))))))) ∧
      (newC w_.drew #[Value.bool false, (⟨none, 0, 0⟩ : Slc).v, Value.int .i64 0] 35 fun ad19 w131 =>
       Bar (V2 0) w_.drew w131 ∧
       (Bar (V2 1) w_.drew w131 ∧
        (Calls Tryd.prog 17 #[Value.agg #[Value.bool b59, s44.v, Value.int .i64 x53]] w131 fun e55 w132 =>
         ∃ b105 : Bool, ∃ s77 : Slc, ∃ x90 : Int, e55 = .returned (Value.agg #[Value.bool b105, s77.v, Value.int .i64 x90]) ∧
         (Bar (V2 0) w131 w132 ∧
          (Calls Tryd.prog 16 #[Value.agg #[Value.bool b58, s43.v, Value.int .i64 x52], Value.agg #[Value.bool b105, s77.v, Value.int .i64 x90]] w132 fun e56 w133 =>
           ∃ b106 : Bool, ∃ s78 : Slc, ∃ x91 : Int, ∃ b107 : Bool, e56 = .returned (Value.tuple #[Value.agg #[Value.bool b106, s78.v, Value.int .i64 x91], Value.bool b107]) ∧
           (stC ad19 (Value.bool b106) w133 fun w134 =>
            stC (ad19.add 1) s78.v w134 fun w135 =>
            stC (ad19.add 2) (Value.int .i64 x91) w135 fun w136 =>
            K24 t1 t6 t7 t8 t10 t12 t16 t18 t21 t22 t23 t24 ad19 b107 w136)))))))))
    (h3000024 : ∀ (t1 : Int) (t6 : Addr) (t7 : Bool) (t8 : Addr) (t10 : Addr) (t12 : Addr) (t16 : Addr) (t18 : Addr) (t21 : Addr) (t22 : Addr) (t23 : Addr) (t24 : Addr) (t25 : Addr) (t26 : Bool) (w_ : World), K24 t1 t6 t7 t8 t10 t12 t16 t18 t21 t22 t23 t24 t25 t26 w_ → 
    ∃ V3 : Nat → Nat → Prop, Out (V3 0) t21 (ldB t21 w_.drew fun b63 =>
     ldS (t21.add 1) w_.drew fun s47 =>
     ldI .i64 (t21.add 2) w_.drew fun x56 =>
     Out (V3 1) t6 (ldB t6 w_.drew fun b64 =>
      ldS (t6.add 1) w_.drew fun s48 =>
      ldI .i64 (t6.add 2) w_.drew fun x57 =>
      (Calls Tryd.prog 17 #[Value.agg #[Value.bool b64, s48.v, Value.int .i64 x57]] w_.drew fun e33 w93 =>
       ∃ b65 : Bool, ∃ s49 : Slc, ∃ x58 : Int, e33 = .returned (Value.agg #[Value.bool b65, s49.v, Value.int .i64 x58]) ∧
       (Bar (V3 0) w_.drew w93 ∧
        ((Calls Tryd.prog 16 #[Value.agg #[Value.bool b63, s47.v, Value.int .i64 x56], Value.agg #[Value.bool b65, s49.v, Value.int .i64 x58]] w93 fun e34 w94 =>
          ∃ b66 : Bool, ∃ s50 : Slc, ∃ x59 : Int, ∃ b67 : Bool, e34 = .returned (Value.tuple #[Value.agg #[Value.bool b66, s50.v, Value.int .i64 x59], Value.bool b67]) ∧
          (newC w94 #[Value.bool false, (⟨none, 0, 0⟩ : Slc).v, Value.int .i64 0] 35 fun ad15 w95 =>
           Bar (V3 0) w94 w95 ∧
           (Bar (V3 1) w94 w95 ∧
            (stC ad15 (Value.bool b66) w95 fun w96 =>
             stC (ad15.add 1) s50.v w96 fun w97 =>
             stC (ad15.add 2) (Value.int .i64 x59) w97 fun w98 =>
             K25 t1 t7 t8 t10 t12 t16 t18 t21 t22 t23 t24 t25 t26 ad15 b67 w98)))) ∧
         (newC w93 #[Value.bool false, (⟨none, 0, 0⟩ : Slc).v, Value.int .i64 0] 35 fun ad16 w115 =>
          Bar (V3 0) w93 w115 ∧
          (Bar (V3 1) w93 w115 ∧
           (Calls Tryd.prog 16 #[Value.agg #[Value.bool b63, s47.v, Value.int .i64 x56], Value.agg #[Value.bool b65, s49.v, Value.int .i64 x58]] w115 fun e51 w116 =>
            ∃ b98 : Bool, ∃ s73 : Slc, ∃ x86 : Int, ∃ b99 : Bool, e51 = .returned (Value.tuple #[Value.agg #[Value.bool b98, s73.v, Value.int .i64 x86], Value.bool b99]) ∧
            (stC ad16 (Value.bool b98) w116 fun w117 =>
             stC (ad16.add 1) s73.v w117 fun w118 =>
             stC (ad16.add 2) (Value.int .i64 x86) w118 fun w119 =>
             K25 t1 t7 t8 t10 t12 t16 t18 t21 t22 t23 t24 t25 t26 ad16 b99 w119))))))) ∧
      (newC w_.drew #[Value.bool false, (⟨none, 0, 0⟩ : Slc).v, Value.int .i64 0] 35 fun ad17 w120 =>
       Bar (V3 0) w_.drew w120 ∧
       (Bar (V3 1) w_.drew w120 ∧
        (Calls Tryd.prog 17 #[Value.agg #[Value.bool b64, s48.v, Value.int .i64 x57]] w120 fun e52 w121 =>
         ∃ b100 : Bool, ∃ s74 : Slc, ∃ x87 : Int, e52 = .returned (Value.agg #[Value.bool b100, s74.v, Value.int .i64 x87]) ∧
         (Bar (V3 0) w120 w121 ∧
          (Calls Tryd.prog 16 #[Value.agg #[Value.bool b63, s47.v, Value.int .i64 x56], Value.agg #[Value.bool b100, s74.v, Value.int .i64 x87]] w121 fun e53 w122 =>
           ∃ b101 : Bool, ∃ s75 : Slc, ∃ x88 : Int, ∃ b102 : Bool, e53 = .returned (Value.tuple #[Value.agg #[Value.bool b101, s75.v, Value.int .i64 x88], Value.bool b102]) ∧
           (stC ad17 (Value.bool b101) w122 fun w123 =>
            stC (ad17.add 1) s75.v w123 fun w124 =>
            stC (ad17.add 2) (Value.int .i64 x88) w124 fun w125 =>
            K25 t1 t7 t8 t10 t12 t16 t18 t21 t22 t23 t24 t25 t26 ad17 b102 w125)))))))))
    (h3000025 : ∀ (t1 : Int) (t7 : Bool) (t8 : Addr) (t10 : Addr) (t12 : Addr) (t16 : Addr) (t18 : Addr) (t21 : Addr) (t22 : Addr) (t23 : Addr) (t24 : Addr) (t25 : Addr) (t26 : Bool) (t27 : Addr) (t28 : Bool) (w_ : World), K25 t1 t7 t8 t10 t12 t16 t18 t21 t22 t23 t24 t25 t26 t27 t28 w_ → 
    br t7
    (ldB t24 w_ fun b68 =>
     ldS (t24.add 1) w_ fun s51 =>
     ldI .i64 (t24.add 2) w_ fun x60 =>
     ldB t23 w_ fun b69 =>
     ldS (t23.add 1) w_ fun s52 =>
     ldI .i64 (t23.add 2) w_ fun x61 =>
     Calls Tryd.prog 12 #[Value.agg #[Value.bool b68, s51.v, Value.int .i64 x60], Value.agg #[Value.bool b69, s52.v, Value.int .i64 x61]] w_ fun e35 w99 =>
     ∃ x62 : Int, e35 = .returned (Value.int .i64 x62) ∧
     (br (x62 != 0)
      (R (.returned (Value.bool false)) w99)
      (K27 t1 t8 t10 t12 t16 t18 t21 t22 t25 t26 t27 t28 w99)))
    (K27 t1 t8 t10 t12 t16 t18 t21 t22 t25 t26 t27 t28 w_))
    (h3000027 : ∀ (t1 : Int) (t8 : Addr) (t10 : Addr) (t12 : Addr) (t16 : Addr) (t18 : Addr) (t21 : Addr) (t22 : Addr) (t25 : Addr) (t26 : Bool) (t27 : Addr) (t28 : Bool) (w_ : World), K27 t1 t8 t10 t12 t16 t18 t21 t22 t25 t26 t27 t28 w_ → 
    br t26
    (K28 t1 t8 t10 t12 t16 t18 t21 t22 t25 t27 t28 w_)
    (K28 t1 t8 t10 t12 t16 t18 t21 t22 t25 t27 false w_))
    (h3000028 : ∀ (t1 : Int) (t8 : Addr) (t10 : Addr) (t12 : Addr) (t16 : Addr) (t18 : Addr) (t21 : Addr) (t22 : Addr) (t25 : Addr) (t27 : Addr) (t181 : Bool) (w_ : World), K28 t1 t8 t10 t12 t16 t18 t21 t22 t25 t27 t181 w_ → 
    br t181
    (ldB t25 w_ fun b70 =>
     ldS (t25.add 1) w_ fun s53 =>
     ldI .i64 (t25.add 2) w_ fun x63 =>
     ldB t27 w_ fun b71 =>
     ldS (t27.add 1) w_ fun s54 =>
     ldI .i64 (t27.add 2) w_ fun x64 =>
     Calls Tryd.prog 12 #[Value.agg #[Value.bool b70, s53.v, Value.int .i64 x63], Value.agg #[Value.bool b71, s54.v, Value.int .i64 x64]] w_ fun e36 w100 =>
     ∃ x65 : Int, e36 = .returned (Value.int .i64 x65) ∧
     (br (decide (x65 < 0))
      (ldB t12 w100 fun b72 =>
       ldS (t12.add 1) w100 fun s55 =>
       ldI .i64 (t12.add 2) w100 fun x66 =>
       ldB t8 w100 fun b73 =>
       ldS (t8.add 1) w100 fun s56 =>
       ldI .i64 (t8.add 2) w100 fun x67 =>
       Calls Tryd.prog 13 #[Value.agg #[Value.bool b72, s55.v, Value.int .i64 x66], Value.agg #[Value.bool b73, s56.v, Value.int .i64 x67]] w100 fun e37 w101 =>
       ∃ b74 : Bool, e37 = .returned (Value.bool b74) ∧
       (br (!b74)
        (R (.returned (Value.bool false)) w101)
        (br (decide (x65 > 0))
         (ldB t12 w101 fun b75 =>
          ldS (t12.add 1) w101 fun s57 =>
          ldI .i64 (t12.add 2) w101 fun x68 =>
          ldB t10 w101 fun b76 =>
          ldS (t10.add 1) w101 fun s58 =>
          ldI .i64 (t10.add 2) w101 fun x69 =>
          Calls Tryd.prog 13 #[Value.agg #[Value.bool b75, s57.v, Value.int .i64 x68], Value.agg #[Value.bool b76, s58.v, Value.int .i64 x69]] w101 fun e38 w102 =>
          ∃ b77 : Bool, e38 = .returned (Value.bool b77) ∧
          (br (!b77)
           (R (.returned (Value.bool false)) w102)
           (br (x65 == 0)
            (ldB t22 w102 fun b78 =>
             ldS (t22.add 1) w102 fun s59 =>
             ldI .i64 (t22.add 2) w102 fun x70 =>
             Calls Tryd.prog 14 #[Value.agg #[Value.bool b78, s59.v, Value.int .i64 x70], Value.int .i64 (IntKind.i64.wrap (t1 + 1))] w102 fun e39 w103 =>
             ∃ b79 : Bool, e39 = .returned (Value.bool b79) ∧
             (br (b79 == false)
              (R (.returned (Value.bool false)) w103)
              (K31 t16 t18 t21 t22 w103)))
            (K31 t16 t18 t21 t22 w102))))
         (br (x65 == 0)
          (ldB t22 w101 fun b89 =>
           ldS (t22.add 1) w101 fun s68 =>
           ldI .i64 (t22.add 2) w101 fun x81 =>
           Calls Tryd.prog 14 #[Value.agg #[Value.bool b89, s68.v, Value.int .i64 x81], Value.int .i64 (IntKind.i64.wrap (t1 + 1))] w101 fun e47 w111 =>
           ∃ b90 : Bool, e47 = .returned (Value.bool b90) ∧
           (br (b90 == false)
            (R (.returned (Value.bool false)) w111)
            (K31 t16 t18 t21 t22 w111)))
          (K31 t16 t18 t21 t22 w101)))))
      (br (decide (x65 > 0))
       (ldB t12 w100 fun b91 =>
        ldS (t12.add 1) w100 fun s69 =>
        ldI .i64 (t12.add 2) w100 fun x82 =>
        ldB t10 w100 fun b92 =>
        ldS (t10.add 1) w100 fun s70 =>
        ldI .i64 (t10.add 2) w100 fun x83 =>
        Calls Tryd.prog 13 #[Value.agg #[Value.bool b91, s69.v, Value.int .i64 x82], Value.agg #[Value.bool b92, s70.v, Value.int .i64 x83]] w100 fun e48 w112 =>
        ∃ b93 : Bool, e48 = .returned (Value.bool b93) ∧
        (br (!b93)
         (R (.returned (Value.bool false)) w112)
         (br (x65 == 0)
          (ldB t22 w112 fun b94 =>
           ldS (t22.add 1) w112 fun s71 =>
           ldI .i64 (t22.add 2) w112 fun x84 =>
           Calls Tryd.prog 14 #[Value.agg #[Value.bool b94, s71.v, Value.int .i64 x84], Value.int .i64 (IntKind.i64.wrap (t1 + 1))] w112 fun e49 w113 =>
           ∃ b95 : Bool, e49 = .returned (Value.bool b95) ∧
           (br (b95 == false)
            (R (.returned (Value.bool false)) w113)
            (K31 t16 t18 t21 t22 w113)))
          (K31 t16 t18 t21 t22 w112))))
       (br (x65 == 0)
        (ldB t22 w100 fun b96 =>
         ldS (t22.add 1) w100 fun s72 =>
         ldI .i64 (t22.add 2) w100 fun x85 =>
         Calls Tryd.prog 14 #[Value.agg #[Value.bool b96, s72.v, Value.int .i64 x85], Value.int .i64 (IntKind.i64.wrap (t1 + 1))] w100 fun e50 w114 =>
         ∃ b97 : Bool, e50 = .returned (Value.bool b97) ∧
         (br (b97 == false)
          (R (.returned (Value.bool false)) w114)
          (K31 t16 t18 t21 t22 w114)))
        (K31 t16 t18 t21 t22 w100)))))
    (K31 t16 t18 t21 t22 w_))
    (h3000031 : ∀ (t16 : Addr) (t18 : Addr) (t21 : Addr) (t22 : Addr) (w_ : World), K31 t16 t18 t21 t22 w_ → 
    ldB t16 w_.drew fun b80 =>
    ldS (t16.add 1) w_.drew fun s60 =>
    ldI .i64 (t16.add 2) w_.drew fun x71 =>
    ldB t21 w_.drew fun b81 =>
    ldS (t21.add 1) w_.drew fun s61 =>
    ldI .i64 (t21.add 2) w_.drew fun x72 =>
    Calls Tryd.prog 11 #[Value.agg #[Value.bool b80, s60.v, Value.int .i64 x71]] w_.drew fun e40 w104 =>
    ∃ b82 : Bool, ∃ s62 : Slc, ∃ x73 : Int, e40 = .returned (Value.agg #[Value.bool b82, s62.v, Value.int .i64 x73]) ∧
    (Ahead w_.drew w104 ∧
     (Calls Tryd.prog 17 #[Value.agg #[Value.bool b82, s62.v, Value.int .i64 x73]] w104 fun e41 w105 =>
      ∃ b83 : Bool, ∃ s63 : Slc, ∃ x74 : Int, e41 = .returned (Value.agg #[Value.bool b83, s63.v, Value.int .i64 x74]) ∧
      (Ahead w104 w105 ∧
       (Calls Tryd.prog 12 #[Value.agg #[Value.bool b83, s63.v, Value.int .i64 x74], Value.agg #[Value.bool b81, s61.v, Value.int .i64 x72]] w105 fun e42 w106 =>
        ∃ x75 : Int, e42 = .returned (Value.int .i64 x75) ∧
        (Ahead w105 w106 ∧
         (br (x75 == 0)
          (ldB t18 w106 fun b84 =>
           ldS (t18.add 1) w106 fun s64 =>
           ldI .i64 (t18.add 2) w106 fun x76 =>
           ldB t22 w106 fun b85 =>
           ldS (t22.add 1) w106 fun s65 =>
           ldI .i64 (t22.add 2) w106 fun x77 =>
           Calls Tryd.prog 11 #[Value.agg #[Value.bool b84, s64.v, Value.int .i64 x76]] w106 fun e43 w107 =>
           ∃ b86 : Bool, ∃ s66 : Slc, ∃ x78 : Int, e43 = .returned (Value.agg #[Value.bool b86, s66.v, Value.int .i64 x78]) ∧
           (Ahead w106 w107 ∧
            (Calls Tryd.prog 17 #[Value.agg #[Value.bool b86, s66.v, Value.int .i64 x78]] w107 fun e44 w108 =>
             ∃ b87 : Bool, ∃ s67 : Slc, ∃ x79 : Int, e44 = .returned (Value.agg #[Value.bool b87, s67.v, Value.int .i64 x79]) ∧
             (Ahead w107 w108 ∧
              (Calls Tryd.prog 12 #[Value.agg #[Value.bool b87, s67.v, Value.int .i64 x79], Value.agg #[Value.bool b85, s65.v, Value.int .i64 x77]] w108 fun e45 w109 =>
               ∃ x80 : Int, e45 = .returned (Value.int .i64 x80) ∧
               (Ahead w108 w109 ∧
                (br (x80 == 0)
                 (Calls Tryd.prog 7 #[] w109 fun e46 w110 =>
                  ∃ b88 : Bool, e46 = .returned (Value.bool b88) ∧
                  (Ahead w109 w110 ∧
                   (R (.returned (Value.bool b88)) w110)))
                 (R (.returned (Value.bool false)) w109))))))))
          (R (.returned (Value.bool false)) w106)))))))) :
    Calls Tryd.prog 3 #[Value.agg #[Value.bool a0_0, a0_1.v, Value.int .i64 a0_2], Value.int .i64 a1] w R := by
  refine calls_of_vc (marks [2000021, 2000022, 2000023, 4000015] (surdlaw08_DyadicNear_cut K16 K17 K19 K23 K24 K25 K27 K28 K31)) (by kernel_rfl) Tryd.func3 rfl ?_ ?_
  · refine kcast h ?_; kernel_rfl
  · exact (obl_seq rfl (obl_reg (obl_seq rfl (obl_reg (obl_seq rfl (obl_reg (obl_seq rfl (obl_seq rfl (obl_reg (obl_cond (obl_seq rfl (obl_reg (obl_ret (obl_skip (obl_seq rfl (obl_reg (obl_seq rfl (obl_reg (obl_seq rfl (obl_reg (obl_seq rfl (obl_reg (obl_seq rfl (obl_seq rfl (obl_reg (obl_cond (obl_seq rfl (obl_reg (obl_ret (obl_skip (obl_seq rfl (obl_reg (obl_seq rfl (obl_reg (obl_join _ rfl (obl_seq rfl (obl_reg (obl_cond (obl_seq rfl (obl_reg (obl_ret (obl_skip trivial))))))) (fun a_ w_ hL_ => (by
    obtain ⟨hz_, hd_, hL_⟩ := atSz_out hL_
    obtain ⟨t1, h1_, hL_⟩ := atI_out hL_
    obtain ⟨t6, h6_, hL_⟩ := atA_out hL_
    obtain ⟨t8, h8_, hL_⟩ := atA_out hL_
    obtain ⟨t10, h10_, hL_⟩ := atA_out hL_
    obtain ⟨t12, h12_, hL_⟩ := atA_out hL_
    obtain ⟨t16, h16_, hL_⟩ := atA_out hL_
    obtain ⟨t18, h18_, hL_⟩ := atA_out hL_
    obtain ⟨g3000016, rfl⟩ : ∃ g, a_ = Fr 231 [(1, Value.int .i64 t1), (6, Value.pointer (some t6)), (8, Value.pointer (some t8)), (10, Value.pointer (some t10)), (12, Value.pointer (some t12)), (16, Value.pointer (some t16)), (18, Value.pointer (some t18))] g := ⟨_, fr_of hz_ hd_ [(1, Value.int .i64 t1), (6, Value.pointer (some t6)), (8, Value.pointer (some t8)), (10, Value.pointer (some t10)), (12, Value.pointer (some t12)), (16, Value.pointer (some t16)), (18, Value.pointer (some t18))] (sel_cons h1_ (sel_cons h6_ (sel_cons h8_ (sel_cons h10_ (sel_cons h12_ (sel_cons h16_ (sel_cons h18_ sel_nil)))))))⟩
    clear hz_ hd_ h1_ h6_ h8_ h10_ h12_ h16_ h18_
    have hJ3000016_ := hL_
    refine ⟨(marks [2000021, 2000022, 2000023, 4000015] (surdlaw08_DyadicNear_cut K16 K17 K19 K23 K24 K25 K27 K28 K31)), kcast2 (surdlaw08_DyadicNear_p16 K16 K17 K19 K23 K24 K25 K27 K28 K31 R t1 t6 t8 t10 t12 t16 t18 g3000016 w_ (h3000016 t1 t6 t8 t10 t12 t16 t18 w_ hJ3000016_)) ?_, ?_⟩
    · kernel_rfl
    · exact (obl_join _ rfl (obl_float _ rfl (by kernel_rfl) trivial) (fun a_ w_ hL_ => (by
      obtain ⟨hz_, hd_, hL_⟩ := atSz_out hL_
      obtain ⟨t1, h1_, hL_⟩ := atI_out hL_
      obtain ⟨t6, h6_, hL_⟩ := atA_out hL_
      obtain ⟨t8, h8_, hL_⟩ := atA_out hL_
      obtain ⟨t10, h10_, hL_⟩ := atA_out hL_
      obtain ⟨t12, h12_, hL_⟩ := atA_out hL_
      obtain ⟨t16, h16_, hL_⟩ := atA_out hL_
      obtain ⟨t18, h18_, hL_⟩ := atA_out hL_
      obtain ⟨t20, h20_, hL_⟩ := atA_out hL_
      obtain ⟨t21, h21_, hL_⟩ := atA_out hL_
      obtain ⟨t22, h22_, hL_⟩ := atA_out hL_
      obtain ⟨g3000017, rfl⟩ : ∃ g, a_ = Fr 231 [(1, Value.int .i64 t1), (6, Value.pointer (some t6)), (8, Value.pointer (some t8)), (10, Value.pointer (some t10)), (12, Value.pointer (some t12)), (16, Value.pointer (some t16)), (18, Value.pointer (some t18)), (20, Value.pointer (some t20)), (21, Value.pointer (some t21)), (22, Value.pointer (some t22))] g := ⟨_, fr_of hz_ hd_ [(1, Value.int .i64 t1), (6, Value.pointer (some t6)), (8, Value.pointer (some t8)), (10, Value.pointer (some t10)), (12, Value.pointer (some t12)), (16, Value.pointer (some t16)), (18, Value.pointer (some t18)), (20, Value.pointer (some t20)), (21, Value.pointer (some t21)), (22, Value.pointer (some t22))] (sel_cons h1_ (sel_cons h6_ (sel_cons h8_ (sel_cons h10_ (sel_cons h12_ (sel_cons h16_ (sel_cons h18_ (sel_cons h20_ (sel_cons h21_ (sel_cons h22_ sel_nil))))))))))⟩
      clear hz_ hd_ h1_ h6_ h8_ h10_ h12_ h16_ h18_ h20_ h21_ h22_
      have hJ3000017_ := hL_
      refine ⟨(marks [2000021, 2000022, 2000023, 4000015] (surdlaw08_DyadicNear_cut K16 K17 K19 K23 K24 K25 K27 K28 K31)), kcast2 (surdlaw08_DyadicNear_p17 K16 K17 K19 K23 K24 K25 K27 K28 K31 R t1 t6 t8 t10 t12 t16 t18 t20 t21 t22 g3000017 w_ (h3000017 t1 t6 t8 t10 t12 t16 t18 t20 t21 t22 w_ hJ3000017_)) ?_, ?_⟩
      · kernel_rfl
      · exact (obl_join _ rfl (obl_seq rfl (obl_reg (obl_cond (obl_seq rfl (obl_reg (obl_ret (obl_skip trivial))))))) (fun a_ w_ hL_ => (by
        obtain ⟨hz_, hd_, hL_⟩ := atSz_out hL_
        obtain ⟨t1, h1_, hL_⟩ := atI_out hL_
        obtain ⟨t6, h6_, hL_⟩ := atA_out hL_
        obtain ⟨t8, h8_, hL_⟩ := atA_out hL_
        obtain ⟨t10, h10_, hL_⟩ := atA_out hL_
        obtain ⟨t12, h12_, hL_⟩ := atA_out hL_
        obtain ⟨t16, h16_, hL_⟩ := atA_out hL_
        obtain ⟨t18, h18_, hL_⟩ := atA_out hL_
        obtain ⟨t20, h20_, hL_⟩ := atA_out hL_
        obtain ⟨t21, h21_, hL_⟩ := atA_out hL_
        obtain ⟨t22, h22_, hL_⟩ := atA_out hL_
        obtain ⟨g3000019, rfl⟩ : ∃ g, a_ = Fr 231 [(1, Value.int .i64 t1), (6, Value.pointer (some t6)), (8, Value.pointer (some t8)), (10, Value.pointer (some t10)), (12, Value.pointer (some t12)), (16, Value.pointer (some t16)), (18, Value.pointer (some t18)), (20, Value.pointer (some t20)), (21, Value.pointer (some t21)), (22, Value.pointer (some t22))] g := ⟨_, fr_of hz_ hd_ [(1, Value.int .i64 t1), (6, Value.pointer (some t6)), (8, Value.pointer (some t8)), (10, Value.pointer (some t10)), (12, Value.pointer (some t12)), (16, Value.pointer (some t16)), (18, Value.pointer (some t18)), (20, Value.pointer (some t20)), (21, Value.pointer (some t21)), (22, Value.pointer (some t22))] (sel_cons h1_ (sel_cons h6_ (sel_cons h8_ (sel_cons h10_ (sel_cons h12_ (sel_cons h16_ (sel_cons h18_ (sel_cons h20_ (sel_cons h21_ (sel_cons h22_ sel_nil))))))))))⟩
        clear hz_ hd_ h1_ h6_ h8_ h10_ h12_ h16_ h18_ h20_ h21_ h22_
        have hJ3000019_ := hL_
        refine ⟨(marks [2000021, 2000022, 2000023, 4000015] (surdlaw08_DyadicNear_cut K16 K17 K19 K23 K24 K25 K27 K28 K31)), kcast (h3000019 t1 t6 t8 t10 t12 t16 t18 t20 t21 t22 w_ hJ3000019_) ?_, ?_⟩
        · kernel_rfl
        · exact (obl_seq rfl (obl_seq rfl (obl_reg (obl_cond (obl_seq rfl (obl_reg (obl_ret (obl_skip (obl_seq rfl (obl_reg (obl_join _ rfl (obl_store _ rfl (kq surdlaw08_DyadicNear_b21 (by kernel_rfl)) trivial) (fun a_ w_ hL_ => (by
          obtain ⟨hz_, hd_, hL_⟩ := atSz_out hL_
          obtain ⟨t1, h1_, hL_⟩ := atI_out hL_
          obtain ⟨t6, h6_, hL_⟩ := atA_out hL_
          obtain ⟨t7, h7_, hL_⟩ := atB_out hL_
          obtain ⟨t8, h8_, hL_⟩ := atA_out hL_
          obtain ⟨t10, h10_, hL_⟩ := atA_out hL_
          obtain ⟨t12, h12_, hL_⟩ := atA_out hL_
          obtain ⟨t16, h16_, hL_⟩ := atA_out hL_
          obtain ⟨t18, h18_, hL_⟩ := atA_out hL_
          obtain ⟨t20, h20_, hL_⟩ := atA_out hL_
          obtain ⟨t21, h21_, hL_⟩ := atA_out hL_
          obtain ⟨t22, h22_, hL_⟩ := atA_out hL_
          obtain ⟨t23, h23_, hL_⟩ := atA_out hL_
          obtain ⟨t24, h24_, hL_⟩ := atA_out hL_
          obtain ⟨g3000023, rfl⟩ : ∃ g, a_ = Fr 231 [(1, Value.int .i64 t1), (6, Value.pointer (some t6)), (7, Value.bool t7), (8, Value.pointer (some t8)), (10, Value.pointer (some t10)), (12, Value.pointer (some t12)), (16, Value.pointer (some t16)), (18, Value.pointer (some t18)), (20, Value.pointer (some t20)), (21, Value.pointer (some t21)), (22, Value.pointer (some t22)), (23, Value.pointer (some t23)), (24, Value.pointer (some t24))] g := ⟨_, fr_of hz_ hd_ [(1, Value.int .i64 t1), (6, Value.pointer (some t6)), (7, Value.bool t7), (8, Value.pointer (some t8)), (10, Value.pointer (some t10)), (12, Value.pointer (some t12)), (16, Value.pointer (some t16)), (18, Value.pointer (some t18)), (20, Value.pointer (some t20)), (21, Value.pointer (some t21)), (22, Value.pointer (some t22)), (23, Value.pointer (some t23)), (24, Value.pointer (some t24))] (sel_cons h1_ (sel_cons h6_ (sel_cons h7_ (sel_cons h8_ (sel_cons h10_ (sel_cons h12_ (sel_cons h16_ (sel_cons h18_ (sel_cons h20_ (sel_cons h21_ (sel_cons h22_ (sel_cons h23_ (sel_cons h24_ sel_nil)))))))))))))⟩
          clear hz_ hd_ h1_ h6_ h7_ h8_ h10_ h12_ h16_ h18_ h20_ h21_ h22_ h23_ h24_
          have hJ3000023_ := hL_
          refine ⟨(marks [2000021, 2000022, 2000023, 4000015] (surdlaw08_DyadicNear_cut K16 K17 K19 K23 K24 K25 K27 K28 K31)), kcast (h3000023 t1 t6 t7 t8 t10 t12 t16 t18 t20 t21 t22 t23 t24 w_ hJ3000023_) ?_, ?_⟩
          · kernel_rfl
          · exact (obl_join _ rfl (obl_store _ rfl (kq surdlaw08_DyadicNear_b22 (by kernel_rfl)) trivial) (fun a_ w_ hL_ => (by
            obtain ⟨hz_, hd_, hL_⟩ := atSz_out hL_
            obtain ⟨t1, h1_, hL_⟩ := atI_out hL_
            obtain ⟨t6, h6_, hL_⟩ := atA_out hL_
            obtain ⟨t7, h7_, hL_⟩ := atB_out hL_
            obtain ⟨t8, h8_, hL_⟩ := atA_out hL_
            obtain ⟨t10, h10_, hL_⟩ := atA_out hL_
            obtain ⟨t12, h12_, hL_⟩ := atA_out hL_
            obtain ⟨t16, h16_, hL_⟩ := atA_out hL_
            obtain ⟨t18, h18_, hL_⟩ := atA_out hL_
            obtain ⟨t21, h21_, hL_⟩ := atA_out hL_
            obtain ⟨t22, h22_, hL_⟩ := atA_out hL_
            obtain ⟨t23, h23_, hL_⟩ := atA_out hL_
            obtain ⟨t24, h24_, hL_⟩ := atA_out hL_
            obtain ⟨t25, h25_, hL_⟩ := atA_out hL_
            obtain ⟨t26, h26_, hL_⟩ := atB_out hL_
            obtain ⟨g3000024, rfl⟩ : ∃ g, a_ = Fr 231 [(1, Value.int .i64 t1), (6, Value.pointer (some t6)), (7, Value.bool t7), (8, Value.pointer (some t8)), (10, Value.pointer (some t10)), (12, Value.pointer (some t12)), (16, Value.pointer (some t16)), (18, Value.pointer (some t18)), (21, Value.pointer (some t21)), (22, Value.pointer (some t22)), (23, Value.pointer (some t23)), (24, Value.pointer (some t24)), (25, Value.pointer (some t25)), (26, Value.bool t26)] g := ⟨_, fr_of hz_ hd_ [(1, Value.int .i64 t1), (6, Value.pointer (some t6)), (7, Value.bool t7), (8, Value.pointer (some t8)), (10, Value.pointer (some t10)), (12, Value.pointer (some t12)), (16, Value.pointer (some t16)), (18, Value.pointer (some t18)), (21, Value.pointer (some t21)), (22, Value.pointer (some t22)), (23, Value.pointer (some t23)), (24, Value.pointer (some t24)), (25, Value.pointer (some t25)), (26, Value.bool t26)] (sel_cons h1_ (sel_cons h6_ (sel_cons h7_ (sel_cons h8_ (sel_cons h10_ (sel_cons h12_ (sel_cons h16_ (sel_cons h18_ (sel_cons h21_ (sel_cons h22_ (sel_cons h23_ (sel_cons h24_ (sel_cons h25_ (sel_cons h26_ sel_nil))))))))))))))⟩
            clear hz_ hd_ h1_ h6_ h7_ h8_ h10_ h12_ h16_ h18_ h21_ h22_ h23_ h24_ h25_ h26_
            have hJ3000024_ := hL_
            refine ⟨(marks [2000021, 2000022, 2000023, 4000015] (surdlaw08_DyadicNear_cut K16 K17 K19 K23 K24 K25 K27 K28 K31)), kcast (h3000024 t1 t6 t7 t8 t10 t12 t16 t18 t21 t22 t23 t24 t25 t26 w_ hJ3000024_) ?_, ?_⟩
            · kernel_rfl
            · exact (obl_join _ rfl (obl_store _ rfl (kq surdlaw08_DyadicNear_b23 (by kernel_rfl)) trivial) (fun a_ w_ hL_ => (by
              obtain ⟨hz_, hd_, hL_⟩ := atSz_out hL_
              obtain ⟨t1, h1_, hL_⟩ := atI_out hL_
              obtain ⟨t7, h7_, hL_⟩ := atB_out hL_
              obtain ⟨t8, h8_, hL_⟩ := atA_out hL_
              obtain ⟨t10, h10_, hL_⟩ := atA_out hL_
              obtain ⟨t12, h12_, hL_⟩ := atA_out hL_
              obtain ⟨t16, h16_, hL_⟩ := atA_out hL_
              obtain ⟨t18, h18_, hL_⟩ := atA_out hL_
              obtain ⟨t21, h21_, hL_⟩ := atA_out hL_
              obtain ⟨t22, h22_, hL_⟩ := atA_out hL_
              obtain ⟨t23, h23_, hL_⟩ := atA_out hL_
              obtain ⟨t24, h24_, hL_⟩ := atA_out hL_
              obtain ⟨t25, h25_, hL_⟩ := atA_out hL_
              obtain ⟨t26, h26_, hL_⟩ := atB_out hL_
              obtain ⟨t27, h27_, hL_⟩ := atA_out hL_
              obtain ⟨t28, h28_, hL_⟩ := atB_out hL_
              obtain ⟨g3000025, rfl⟩ : ∃ g, a_ = Fr 231 [(1, Value.int .i64 t1), (7, Value.bool t7), (8, Value.pointer (some t8)), (10, Value.pointer (some t10)), (12, Value.pointer (some t12)), (16, Value.pointer (some t16)), (18, Value.pointer (some t18)), (21, Value.pointer (some t21)), (22, Value.pointer (some t22)), (23, Value.pointer (some t23)), (24, Value.pointer (some t24)), (25, Value.pointer (some t25)), (26, Value.bool t26), (27, Value.pointer (some t27)), (28, Value.bool t28)] g := ⟨_, fr_of hz_ hd_ [(1, Value.int .i64 t1), (7, Value.bool t7), (8, Value.pointer (some t8)), (10, Value.pointer (some t10)), (12, Value.pointer (some t12)), (16, Value.pointer (some t16)), (18, Value.pointer (some t18)), (21, Value.pointer (some t21)), (22, Value.pointer (some t22)), (23, Value.pointer (some t23)), (24, Value.pointer (some t24)), (25, Value.pointer (some t25)), (26, Value.bool t26), (27, Value.pointer (some t27)), (28, Value.bool t28)] (sel_cons h1_ (sel_cons h7_ (sel_cons h8_ (sel_cons h10_ (sel_cons h12_ (sel_cons h16_ (sel_cons h18_ (sel_cons h21_ (sel_cons h22_ (sel_cons h23_ (sel_cons h24_ (sel_cons h25_ (sel_cons h26_ (sel_cons h27_ (sel_cons h28_ sel_nil)))))))))))))))⟩
              clear hz_ hd_ h1_ h7_ h8_ h10_ h12_ h16_ h18_ h21_ h22_ h23_ h24_ h25_ h26_ h27_ h28_
              have hJ3000025_ := hL_
              refine ⟨(marks [2000021, 2000022, 2000023, 4000015] (surdlaw08_DyadicNear_cut K16 K17 K19 K23 K24 K25 K27 K28 K31)), kcast (h3000025 t1 t7 t8 t10 t12 t16 t18 t21 t22 t23 t24 t25 t26 t27 t28 w_ hJ3000025_) ?_, ?_⟩
              · kernel_rfl
              · exact (obl_join _ rfl (obl_seq rfl (obl_reg (obl_cond (obl_seq rfl (obl_reg (obl_ret (obl_skip trivial))))))) (fun a_ w_ hL_ => (by
                obtain ⟨hz_, hd_, hL_⟩ := atSz_out hL_
                obtain ⟨t1, h1_, hL_⟩ := atI_out hL_
                obtain ⟨t8, h8_, hL_⟩ := atA_out hL_
                obtain ⟨t10, h10_, hL_⟩ := atA_out hL_
                obtain ⟨t12, h12_, hL_⟩ := atA_out hL_
                obtain ⟨t16, h16_, hL_⟩ := atA_out hL_
                obtain ⟨t18, h18_, hL_⟩ := atA_out hL_
                obtain ⟨t21, h21_, hL_⟩ := atA_out hL_
                obtain ⟨t22, h22_, hL_⟩ := atA_out hL_
                obtain ⟨t25, h25_, hL_⟩ := atA_out hL_
                obtain ⟨t26, h26_, hL_⟩ := atB_out hL_
                obtain ⟨t27, h27_, hL_⟩ := atA_out hL_
                obtain ⟨t28, h28_, hL_⟩ := atB_out hL_
                obtain ⟨g3000027, rfl⟩ : ∃ g, a_ = Fr 231 [(1, Value.int .i64 t1), (8, Value.pointer (some t8)), (10, Value.pointer (some t10)), (12, Value.pointer (some t12)), (16, Value.pointer (some t16)), (18, Value.pointer (some t18)), (21, Value.pointer (some t21)), (22, Value.pointer (some t22)), (25, Value.pointer (some t25)), (26, Value.bool t26), (27, Value.pointer (some t27)), (28, Value.bool t28)] g := ⟨_, fr_of hz_ hd_ [(1, Value.int .i64 t1), (8, Value.pointer (some t8)), (10, Value.pointer (some t10)), (12, Value.pointer (some t12)), (16, Value.pointer (some t16)), (18, Value.pointer (some t18)), (21, Value.pointer (some t21)), (22, Value.pointer (some t22)), (25, Value.pointer (some t25)), (26, Value.bool t26), (27, Value.pointer (some t27)), (28, Value.bool t28)] (sel_cons h1_ (sel_cons h8_ (sel_cons h10_ (sel_cons h12_ (sel_cons h16_ (sel_cons h18_ (sel_cons h21_ (sel_cons h22_ (sel_cons h25_ (sel_cons h26_ (sel_cons h27_ (sel_cons h28_ sel_nil))))))))))))⟩
                clear hz_ hd_ h1_ h8_ h10_ h12_ h16_ h18_ h21_ h22_ h25_ h26_ h27_ h28_
                have hJ3000027_ := hL_
                refine ⟨(marks [2000021, 2000022, 2000023, 4000015] (surdlaw08_DyadicNear_cut K16 K17 K19 K23 K24 K25 K27 K28 K31)), kcast (h3000027 t1 t8 t10 t12 t16 t18 t21 t22 t25 t26 t27 t28 w_ hJ3000027_) ?_, ?_⟩
                · kernel_rfl
                · exact (obl_join _ rfl (obl_join _ rfl (obl_reg trivial) (fun a_ w_ hL_ => (by
                  obtain ⟨hz_, hd_, hL_⟩ := atSz_out hL_
                  obtain ⟨t1, h1_, hL_⟩ := atI_out hL_
                  obtain ⟨t8, h8_, hL_⟩ := atA_out hL_
                  obtain ⟨t10, h10_, hL_⟩ := atA_out hL_
                  obtain ⟨t12, h12_, hL_⟩ := atA_out hL_
                  obtain ⟨t16, h16_, hL_⟩ := atA_out hL_
                  obtain ⟨t18, h18_, hL_⟩ := atA_out hL_
                  obtain ⟨t21, h21_, hL_⟩ := atA_out hL_
                  obtain ⟨t22, h22_, hL_⟩ := atA_out hL_
                  obtain ⟨t25, h25_, hL_⟩ := atA_out hL_
                  obtain ⟨t27, h27_, hL_⟩ := atA_out hL_
                  obtain ⟨t181, h181_, hL_⟩ := atB_out hL_
                  obtain ⟨g3000028, rfl⟩ : ∃ g, a_ = Fr 231 [(1, Value.int .i64 t1), (8, Value.pointer (some t8)), (10, Value.pointer (some t10)), (12, Value.pointer (some t12)), (16, Value.pointer (some t16)), (18, Value.pointer (some t18)), (21, Value.pointer (some t21)), (22, Value.pointer (some t22)), (25, Value.pointer (some t25)), (27, Value.pointer (some t27)), (181, Value.bool t181)] g := ⟨_, fr_of hz_ hd_ [(1, Value.int .i64 t1), (8, Value.pointer (some t8)), (10, Value.pointer (some t10)), (12, Value.pointer (some t12)), (16, Value.pointer (some t16)), (18, Value.pointer (some t18)), (21, Value.pointer (some t21)), (22, Value.pointer (some t22)), (25, Value.pointer (some t25)), (27, Value.pointer (some t27)), (181, Value.bool t181)] (sel_cons h1_ (sel_cons h8_ (sel_cons h10_ (sel_cons h12_ (sel_cons h16_ (sel_cons h18_ (sel_cons h21_ (sel_cons h22_ (sel_cons h25_ (sel_cons h27_ (sel_cons h181_ sel_nil)))))))))))⟩
                  clear hz_ hd_ h1_ h8_ h10_ h12_ h16_ h18_ h21_ h22_ h25_ h27_ h181_
                  have hJ3000028_ := hL_
                  refine ⟨(marks [2000021, 2000022, 2000023, 4000015] (surdlaw08_DyadicNear_cut K16 K17 K19 K23 K24 K25 K27 K28 K31)), kcast (h3000028 t1 t8 t10 t12 t16 t18 t21 t22 t25 t27 t181 w_ hJ3000028_) ?_, ?_⟩
                  · kernel_rfl
                  · exact (obl_cond (obl_seq rfl (obl_reg (obl_seq rfl (obl_reg (obl_cond (obl_seq rfl (obl_reg (obl_ret (obl_skip (obl_skip trivial)))))))))))))) (fun a_ w_ hL_ => (by
                  obtain ⟨hz_, hd_, hL_⟩ := atSz_out hL_
                  obtain ⟨t16, h16_, hL_⟩ := atA_out hL_
                  obtain ⟨t18, h18_, hL_⟩ := atA_out hL_
                  obtain ⟨t21, h21_, hL_⟩ := atA_out hL_
                  obtain ⟨t22, h22_, hL_⟩ := atA_out hL_
                  obtain ⟨g3000031, rfl⟩ : ∃ g, a_ = Fr 231 [(16, Value.pointer (some t16)), (18, Value.pointer (some t18)), (21, Value.pointer (some t21)), (22, Value.pointer (some t22))] g := ⟨_, fr_of hz_ hd_ [(16, Value.pointer (some t16)), (18, Value.pointer (some t18)), (21, Value.pointer (some t21)), (22, Value.pointer (some t22))] (sel_cons h16_ (sel_cons h18_ (sel_cons h21_ (sel_cons h22_ sel_nil))))⟩
                  clear hz_ hd_ h16_ h18_ h21_ h22_
                  have hJ3000031_ := hL_
                  refine ⟨(marks [2000021, 2000022, 2000023, 4000015] (surdlaw08_DyadicNear_cut K16 K17 K19 K23 K24 K25 K27 K28 K31)), kcast (h3000031 t16 t18 t21 t22 w_ hJ3000031_) ?_, ?_⟩
                  · kernel_rfl
                  · exact (obl_seq rfl (obl_held (by kernel_rfl) (by kernel_rfl) (by kernel_rfl) (obl_ret trivial)))))))))))))))))))))))))))))))))))))))))))))))))))))))))))))))))))))))

end Go.Proofs.YtlkjgafnjmfgiaaDoor
namespace Go.Proofs.YtlkjgafnjmfgiaaDoor
open Go Go.RowKit Eng L2
set_option linter.unusedVariables false
set_option maxHeartbeats 2000000
set_option maxRecDepth 100000

/-- surd/surdlaw08.DyadicNear: function 3, its local variables as values. -/
theorem surdlaw08_DyadicNear_v2 (a0_0 : Bool) (a0_1 : Slc) (a0_2 : Int) (a1 : Int) (w : World) (R : Ending → World → Prop)
    (K16 : Int → Bool → Slc → Int → Bool → Slc → Int → Bool → Slc → Int → Bool → Slc → Int → Bool → Slc → Int → Bool → Slc → Int → World → Prop) (K17 : Int → Bool → Slc → Int → Bool → Slc → Int → Bool → Slc → Int → Bool → Slc → Int → Bool → Slc → Int → Bool → Slc → Int → Bool → Slc → Int → Bool → Slc → Int → Bool → Slc → Int → World → Prop) (K19 : Int → Bool → Slc → Int → Bool → Slc → Int → Bool → Slc → Int → Bool → Slc → Int → Bool → Slc → Int → Bool → Slc → Int → Bool → Slc → Int → Bool → Slc → Int → Bool → Slc → Int → World → Prop) (K23 : Int → Bool → Bool → Slc → Int → Bool → Slc → Int → Bool → Slc → Int → Bool → Slc → Int → Bool → Slc → Int → Bool → Slc → Int → Bool → Slc → Int → Bool → Slc → Int → Bool → Slc → Int → Bool → Slc → Int → Bool → Slc → Int → World → Prop) (K24 : Int → Bool → Bool → Bool → Slc → Int → Bool → Slc → Int → Bool → Slc → Int → Bool → Slc → Int → Bool → Slc → Int → Bool → Slc → Int → Bool → Slc → Int → Bool → Slc → Int → Bool → Slc → Int → Bool → Slc → Int → Bool → Slc → Int → World → Prop) (K25 : Int → Bool → Bool → Bool → Bool → Slc → Int → Bool → Slc → Int → Bool → Slc → Int → Bool → Slc → Int → Bool → Slc → Int → Bool → Slc → Int → Bool → Slc → Int → Bool → Slc → Int → Bool → Slc → Int → Bool → Slc → Int → Bool → Slc → Int → World → Prop) (K27 : Int → Bool → Bool → Bool → Slc → Int → Bool → Slc → Int → Bool → Slc → Int → Bool → Slc → Int → Bool → Slc → Int → Bool → Slc → Int → Bool → Slc → Int → Bool → Slc → Int → Bool → Slc → Int → World → Prop) (K28 : Int → Bool → Bool → Slc → Int → Bool → Slc → Int → Bool → Slc → Int → Bool → Slc → Int → Bool → Slc → Int → Bool → Slc → Int → Bool → Slc → Int → Bool → Slc → Int → Bool → Slc → Int → World → Prop) (K31 : Bool → Slc → Int → Bool → Slc → Int → Bool → Slc → Int → Bool → Slc → Int → World → Prop)
    (h : ∀ w1, Ext w w1 → Ahead w w1 →
    (Calls Tryd.prog 4 #[Value.agg #[Value.bool a0_0, a0_1.v, Value.int .i64 a0_2]] w1 fun e1 w2 =>
     ∃ b1 : Bool, ∃ s1 : Slc, ∃ x1 : Int, e1 = .returned (Value.agg #[Value.bool b1, s1.v, Value.int .i64 x1]) ∧ Ahead w1 w2 ∧
     (∀ w3, Ext w2 w3 → Ahead w w3 →
      (Calls Tryd.prog 5 #[Value.agg #[Value.bool a0_0, a0_1.v, Value.int .i64 a0_2]] w3 fun e2 w4 =>
       ∃ b2 : Bool, ∃ s2 : Slc, ∃ x2 : Int, ∃ b3 : Bool, e2 = .returned (Value.tuple #[Value.agg #[Value.bool b2, s2.v, Value.int .i64 x2], Value.bool b3]) ∧ Ahead w3 w4 ∧
       (br (!b3)
        (∀ w5, Ext w4 w5 → Ahead w w5 →
         (Calls Tryd.prog 7 #[] w5 fun e3 w6 =>
          ∃ b4 : Bool, e3 = .returned (Value.bool b4) ∧ Ahead w5 w6 ∧
          (R (.returned (Value.bool b4)) w6)))
        (∀ w7, Ext w4 w7 → Ahead w w7 →
         (Calls Tryd.prog 6 #[Value.int .i64 a1] w7 fun e4 w8 =>
          ∃ b5 : Bool, e4 = .returned (Value.bool b5) ∧ Ahead w7 w8 ∧
          (br (!b5)
           (Calls Tryd.prog 7 #[] w8 fun e5 w9 =>
            ∃ b6 : Bool, e5 = .returned (Value.bool b6) ∧ Ahead w8 w9 ∧
            (R (.returned (Value.bool b6)) w9))
           (Calls Tryd.prog 8 #[Value.agg #[Value.bool b1, s1.v, Value.int .i64 x1], Value.int .i64 a1, Value.int .i64 0] w8 fun e6 w10 =>
            ∃ b7 : Bool, ∃ s3 : Slc, ∃ x3 : Int, ∃ x4 : Int, e6 = .returned (Value.tuple #[Value.agg #[Value.bool b7, s3.v, Value.int .i64 x3], Value.int .i64 x4]) ∧ Ahead w8 w10 ∧
            (∀ w11, Ext w10 w11 → Ahead w w11 →
             (Calls Tryd.prog 8 #[Value.agg #[Value.bool b1, s1.v, Value.int .i64 x1], Value.int .i64 a1, Value.int .i64 1] w11 fun e7 w12 =>
              ∃ b8 : Bool, ∃ s4 : Slc, ∃ x5 : Int, ∃ x6 : Int, e7 = .returned (Value.tuple #[Value.agg #[Value.bool b8, s4.v, Value.int .i64 x5], Value.int .i64 x6]) ∧ Ahead w11 w12 ∧
              (∀ w13, Ext w12 w13 → Ahead w w13 →
               (Calls Tryd.prog 8 #[Value.agg #[Value.bool b1, s1.v, Value.int .i64 x1], Value.int .i64 a1, Value.int .i64 2] w13 fun e8 w14 =>
                ∃ b9 : Bool, ∃ s5 : Slc, ∃ x7 : Int, ∃ x8 : Int, e8 = .returned (Value.tuple #[Value.agg #[Value.bool b9, s5.v, Value.int .i64 x7], Value.int .i64 x8]) ∧ Ahead w13 w14 ∧
                (∀ w15, Ext w14 w15 → Ahead w w15 →
                 (Calls Tryd.prog 9 #[Value.agg #[Value.bool b1, s1.v, Value.int .i64 x1]] w15 fun e9 w16 =>
                  ∃ b10 : Bool, ∃ s6 : Slc, ∃ x9 : Int, ∃ x10 : Int, e9 = .returned (Value.tuple #[Value.agg #[Value.bool b10, s6.v, Value.int .i64 x9], Value.int .i64 x10]) ∧ Ahead w15 w16 ∧
                  (∀ w17, Ext w16 w17 → Ahead w w17 →
                   (newC w17 #[Value.int .i64 x4, Value.int .i64 x6, Value.int .i64 x8, Value.int .i64 x10] 40 fun ad1 w18 =>
                    Calls Tryd.prog 10 #[(⟨some ad1, 4, 4⟩ : Slc).v] w18 fun e10 w19 =>
                    ∃ b11 : Bool, e10 = .returned (Value.bool b11) ∧ Ahead w18 w19 ∧
                    (br (!b11)
                     (Calls Tryd.prog 7 #[] w19 fun e11 w20 =>
                      ∃ b12 : Bool, e11 = .returned (Value.bool b12) ∧ Ahead w19 w20 ∧
                      (R (.returned (Value.bool b12)) w20))
                     (Calls Tryd.prog 8 #[Value.agg #[Value.bool b10, s6.v, Value.int .i64 x9], Value.int .i64 a1, Value.int .i64 0] w19 fun e12 w21 =>
                      ∃ b13 : Bool, ∃ s7 : Slc, ∃ x11 : Int, ∃ x12 : Int, e12 = .returned (Value.tuple #[Value.agg #[Value.bool b13, s7.v, Value.int .i64 x11], Value.int .i64 x12]) ∧ Ahead w19 w21 ∧
                      (∀ w22, Ext w21 w22 → Ahead w w22 →
                       (Calls Tryd.prog 8 #[Value.agg #[Value.bool b10, s6.v, Value.int .i64 x9], Value.int .i64 a1, Value.int .i64 2] w22 fun e13 w23 =>
                        ∃ b14 : Bool, ∃ s8 : Slc, ∃ x13 : Int, ∃ x14 : Int, e13 = .returned (Value.tuple #[Value.agg #[Value.bool b14, s8.v, Value.int .i64 x13], Value.int .i64 x14]) ∧ Ahead w22 w23 ∧
                        (∀ w24, Ext w23 w24 → Ahead w w24 →
                         (newC w24 #[Value.int .i64 x12, Value.int .i64 x14] 40 fun ad2 w25 =>
                          Calls Tryd.prog 10 #[(⟨some ad2, 2, 2⟩ : Slc).v] w25 fun e14 w26 =>
                          ∃ b15 : Bool, e14 = .returned (Value.bool b15) ∧ Ahead w25 w26 ∧
                          (br (!b15)
                           (R (.returned (Value.bool false)) w26)
                           (K16 a1 b2 s2 x2 b7 s3 x3 b8 s4 x5 b9 s5 x7 b13 s7 x11 b14 s8 x13 w26)))))))))))))))))))))))))
    (h3000016 : ∀ (t1 : Int) (t6_0 : Bool) (t6_1 : Slc) (t6_2 : Int) (t8_0 : Bool) (t8_1 : Slc) (t8_2 : Int) (t10_0 : Bool) (t10_1 : Slc) (t10_2 : Int) (t12_0 : Bool) (t12_1 : Slc) (t12_2 : Int) (t16_0 : Bool) (t16_1 : Slc) (t16_2 : Int) (t18_0 : Bool) (t18_1 : Slc) (t18_2 : Int) (w_ : World), Ahead w w_ → K16 t1 t6_0 t6_1 t6_2 t8_0 t8_1 t8_2 t10_0 t10_1 t10_2 t12_0 t12_1 t12_2 t16_0 t16_1 t16_2 t18_0 t18_1 t18_2 w_ → 
    ∀ w27, Ext w_ w27 → Ahead w w27 →
    (Calls Tryd.prog 11 #[Value.agg #[Value.bool t8_0, t8_1.v, Value.int .i64 t8_2]] w27 fun e15 w28 =>
     ∃ b16 : Bool, ∃ s9 : Slc, ∃ x15 : Int, e15 = .returned (Value.agg #[Value.bool b16, s9.v, Value.int .i64 x15]) ∧ Ahead w27 w28 ∧
     (∀ w29, Ext w28 w29 → Ahead w w29 →
      (Calls Tryd.prog 11 #[Value.agg #[Value.bool t10_0, t10_1.v, Value.int .i64 t10_2]] w29 fun e16 w30 =>
       ∃ b17 : Bool, ∃ s10 : Slc, ∃ x16 : Int, e16 = .returned (Value.agg #[Value.bool b17, s10.v, Value.int .i64 x16]) ∧ Ahead w29 w30 ∧
       (∀ w31, Ext w30 w31 → Ahead w w31 →
        (Calls Tryd.prog 11 #[Value.agg #[Value.bool t12_0, t12_1.v, Value.int .i64 t12_2]] w31 fun e17 w32 =>
         ∃ b18 : Bool, ∃ s11 : Slc, ∃ x17 : Int, e17 = .returned (Value.agg #[Value.bool b18, s11.v, Value.int .i64 x17]) ∧ Ahead w31 w32 ∧
         (∀ w102, Ext w32 w102 → Ahead w w102 →
          (K17 t1 t6_0 t6_1 t6_2 t8_0 t8_1 t8_2 t10_0 t10_1 t10_2 t12_0 t12_1 t12_2 t16_0 t16_1 t16_2 t18_0 t18_1 t18_2 b16 s9 x15 b17 s10 x16 b18 s11 x17 w102))))))))
    (h3000017 : ∀ (t1 : Int) (t6_0 : Bool) (t6_1 : Slc) (t6_2 : Int) (t8_0 : Bool) (t8_1 : Slc) (t8_2 : Int) (t10_0 : Bool) (t10_1 : Slc) (t10_2 : Int) (t12_0 : Bool) (t12_1 : Slc) (t12_2 : Int) (t16_0 : Bool) (t16_1 : Slc) (t16_2 : Int) (t18_0 : Bool) (t18_1 : Slc) (t18_2 : Int) (t20_0 : Bool) (t20_1 : Slc) (t20_2 : Int) (t21_0 : Bool) (t21_1 : Slc) (t21_2 : Int) (t22_0 : Bool) (t22_1 : Slc) (t22_2 : Int) (w_ : World), Ahead w w_ → K17 t1 t6_0 t6_1 t6_2 t8_0 t8_1 t8_2 t10_0 t10_1 t10_2 t12_0 t12_1 t12_2 t16_0 t16_1 t16_2 t18_0 t18_1 t18_2 t20_0 t20_1 t20_2 t21_0 t21_1 t21_2 t22_0 t22_1 t22_2 w_ → 
    Calls Tryd.prog 12 #[Value.agg #[Value.bool t20_0, t20_1.v, Value.int .i64 t20_2], Value.agg #[Value.bool t6_0, t6_1.v, Value.int .i64 t6_2]] w_ fun e18 w33 =>
    ∃ x18 : Int, e18 = .returned (Value.int .i64 x18) ∧ Ahead w_ w33 ∧
    (br (decide (x18 > 0))
     (R (.returned (Value.bool false)) w33)
     (Calls Tryd.prog 12 #[Value.agg #[Value.bool t21_0, t21_1.v, Value.int .i64 t21_2], Value.agg #[Value.bool t6_0, t6_1.v, Value.int .i64 t6_2]] w33 fun e19 w34 =>
      ∃ x19 : Int, e19 = .returned (Value.int .i64 x19) ∧ Ahead w33 w34 ∧
      (br (decide (x19 < 0))
       (R (.returned (Value.bool false)) w34)
       (Calls Tryd.prog 13 #[Value.agg #[Value.bool t12_0, t12_1.v, Value.int .i64 t12_2], Value.agg #[Value.bool t8_0, t8_1.v, Value.int .i64 t8_2]] w34 fun e20 w35 =>
        ∃ b19 : Bool, e20 = .returned (Value.bool b19) ∧ Ahead w34 w35 ∧
        (br (!b19)
         (Calls Tryd.prog 13 #[Value.agg #[Value.bool t12_0, t12_1.v, Value.int .i64 t12_2], Value.agg #[Value.bool t10_0, t10_1.v, Value.int .i64 t10_2]] w35 fun e21 w36 =>
          ∃ b20 : Bool, e21 = .returned (Value.bool b20) ∧ Ahead w35 w36 ∧
          (br (!b20)
           (R (.returned (Value.bool false)) w36)
           (Calls Tryd.prog 14 #[Value.agg #[Value.bool t20_0, t20_1.v, Value.int .i64 t20_2], Value.int .i64 t1] w36 fun e22 w37 =>
            ∃ b21 : Bool, e22 = .returned (Value.bool b21) ∧ Ahead w36 w37 ∧
            (br (!b21)
             (R (.returned (Value.bool false)) w37)
             (Calls Tryd.prog 14 #[Value.agg #[Value.bool t21_0, t21_1.v, Value.int .i64 t21_2], Value.int .i64 t1] w37 fun e23 w38 =>
              ∃ b22 : Bool, e23 = .returned (Value.bool b22) ∧ Ahead w37 w38 ∧
              (br (!b22)
               (R (.returned (Value.bool false)) w38)
               (K19 t1 t6_0 t6_1 t6_2 t8_0 t8_1 t8_2 t10_0 t10_1 t10_2 t12_0 t12_1 t12_2 t16_0 t16_1 t16_2 t18_0 t18_1 t18_2 t20_0 t20_1 t20_2 t21_0 t21_1 t21_2 t22_0 t22_1 t22_2 w38)))))))
         (Calls Tryd.prog 14 #[Value.agg #[Value.bool t20_0, t20_1.v, Value.int .i64 t20_2], Value.int .i64 t1] w35 fun e60 w100 =>
          ∃ b63 : Bool, e60 = .returned (Value.bool b63) ∧ Ahead w35 w100 ∧
          (br (!b63)
           (R (.returned (Value.bool false)) w100)
           (Calls Tryd.prog 14 #[Value.agg #[Value.bool t21_0, t21_1.v, Value.int .i64 t21_2], Value.int .i64 t1] w100 fun e61 w101 =>
            ∃ b64 : Bool, e61 = .returned (Value.bool b64) ∧ Ahead w100 w101 ∧
            (br (!b64)
             (R (.returned (Value.bool false)) w101)
             (K19 t1 t6_0 t6_1 t6_2 t8_0 t8_1 t8_2 t10_0 t10_1 t10_2 t12_0 t12_1 t12_2 t16_0 t16_1 t16_2 t18_0 t18_1 t18_2 t20_0 t20_1 t20_2 t21_0 t21_1 t21_2 t22_0 t22_1 t22_2 w101)))))))))))
    (h3000019 : ∀ (t1 : Int) (t6_0 : Bool) (t6_1 : Slc) (t6_2 : Int) (t8_0 : Bool) (t8_1 : Slc) (t8_2 : Int) (t10_0 : Bool) (t10_1 : Slc) (t10_2 : Int) (t12_0 : Bool) (t12_1 : Slc) (t12_2 : Int) (t16_0 : Bool) (t16_1 : Slc) (t16_2 : Int) (t18_0 : Bool) (t18_1 : Slc) (t18_2 : Int) (t20_0 : Bool) (t20_1 : Slc) (t20_2 : Int) (t21_0 : Bool) (t21_1 : Slc) (t21_2 : Int) (t22_0 : Bool) (t22_1 : Slc) (t22_2 : Int) (w_ : World), Ahead w w_ → K19 t1 t6_0 t6_1 t6_2 t8_0 t8_1 t8_2 t10_0 t10_1 t10_2 t12_0 t12_1 t12_2 t16_0 t16_1 t16_2 t18_0 t18_1 t18_2 t20_0 t20_1 t20_2 t21_0 t21_1 t21_2 t22_0 t22_1 t22_2 w_ → 
    Calls Tryd.prog 14 #[Value.agg #[Value.bool t6_0, t6_1.v, Value.int .i64 t6_2], Value.int .i64 t1] w_ fun e24 w39 =>
    ∃ b23 : Bool, e24 = .returned (Value.bool b23) ∧ Ahead w_ w39 ∧
    (br b23
     (Calls Tryd.prog 13 #[Value.agg #[Value.bool t8_0, t8_1.v, Value.int .i64 t8_2], Value.agg #[Value.bool t10_0, t10_1.v, Value.int .i64 t10_2]] w39 fun e25 w40 =>
      ∃ b24 : Bool, e25 = .returned (Value.bool b24) ∧ Ahead w39 w40 ∧
      (br b24
       (Calls Tryd.prog 12 #[Value.agg #[Value.bool t20_0, t20_1.v, Value.int .i64 t20_2], Value.agg #[Value.bool t6_0, t6_1.v, Value.int .i64 t6_2]] w40 fun e26 w41 =>
        ∃ x20 : Int, e26 = .returned (Value.int .i64 x20) ∧ Ahead w40 w41 ∧
        (br (x20 == 0)
         (Calls Tryd.prog 7 #[] w41 fun e27 w42 =>
          ∃ b25 : Bool, e27 = .returned (Value.bool b25) ∧ Ahead w41 w42 ∧
          (R (.returned (Value.bool b25)) w42))
         (R (.returned (Value.bool false)) w41)))
       (R (.returned (Value.bool false)) w40)))
     (Calls Tryd.prog 15 #[Value.int .i64 1, Value.int .i64 t1] w39 fun e28 w43 =>
      ∃ b26 : Bool, ∃ s12 : Slc, ∃ x21 : Int, e28 = .returned (Value.agg #[Value.bool b26, s12.v, Value.int .i64 x21]) ∧ Ahead w39 w43 ∧
      (∀ w44, Ext w43 w44 → Ahead w w44 →
       (Calls Tryd.prog 17 #[Value.agg #[Value.bool t20_0, t20_1.v, Value.int .i64 t20_2]] w44 fun e29 w45 =>
        ∃ b27 : Bool, ∃ s13 : Slc, ∃ x22 : Int, e29 = .returned (Value.agg #[Value.bool b27, s13.v, Value.int .i64 x22]) ∧ Ahead w44 w45 ∧
        (∀ w46, Ext w45 w46 → Ahead w w46 →
         (Calls Tryd.prog 16 #[Value.agg #[Value.bool t21_0, t21_1.v, Value.int .i64 t21_2], Value.agg #[Value.bool b27, s13.v, Value.int .i64 x22]] w46 fun e30 w47 =>
          ∃ b28 : Bool, ∃ s14 : Slc, ∃ x23 : Int, ∃ b29 : Bool, e30 = .returned (Value.tuple #[Value.agg #[Value.bool b28, s14.v, Value.int .i64 x23], Value.bool b29]) ∧ Ahead w46 w47 ∧
          (∀ w91, Ext w47 w91 → Ahead w w91 →
           (K23 t1 b29 t6_0 t6_1 t6_2 t8_0 t8_1 t8_2 t10_0 t10_1 t10_2 t12_0 t12_1 t12_2 t16_0 t16_1 t16_2 t18_0 t18_1 t18_2 t20_0 t20_1 t20_2 t21_0 t21_1 t21_2 t22_0 t22_1 t22_2 b26 s12 x21 b28 s14 x23 w91)))))))))
    (h3000023 : ∀ (t1 : Int) (t7 : Bool) (t6_0 : Bool) (t6_1 : Slc) (t6_2 : Int) (t8_0 : Bool) (t8_1 : Slc) (t8_2 : Int) (t10_0 : Bool) (t10_1 : Slc) (t10_2 : Int) (t12_0 : Bool) (t12_1 : Slc) (t12_2 : Int) (t16_0 : Bool) (t16_1 : Slc) (t16_2 : Int) (t18_0 : Bool) (t18_1 : Slc) (t18_2 : Int) (t20_0 : Bool) (t20_1 : Slc) (t20_2 : Int) (t21_0 : Bool) (t21_1 : Slc) (t21_2 : Int) (t22_0 : Bool) (t22_1 : Slc) (t22_2 : Int) (t23_0 : Bool) (t23_1 : Slc) (t23_2 : Int) (t24_0 : Bool) (t24_1 : Slc) (t24_2 : Int) (w_ : World), Ahead w w_ → K23 t1 t7 t6_0 t6_1 t6_2 t8_0 t8_1 t8_2 t10_0 t10_1 t10_2 t12_0 t12_1 t12_2 t16_0 t16_1 t16_2 t18_0 t18_1 t18_2 t20_0 t20_1 t20_2 t21_0 t21_1 t21_2 t22_0 t22_1 t22_2 t23_0 t23_1 t23_2 t24_0 t24_1 t24_2 w_ → 
    ∀ w48, Ext w_ w48 → Ahead w w48 →
    (Calls Tryd.prog 17 #[Value.agg #[Value.bool t20_0, t20_1.v, Value.int .i64 t20_2]] w48 fun e31 w49 =>
     ∃ b30 : Bool, ∃ s15 : Slc, ∃ x24 : Int, e31 = .returned (Value.agg #[Value.bool b30, s15.v, Value.int .i64 x24]) ∧ Ahead w48 w49 ∧
     (∀ w50, Ext w49 w50 → Ahead w w50 →
      (Calls Tryd.prog 16 #[Value.agg #[Value.bool t6_0, t6_1.v, Value.int .i64 t6_2], Value.agg #[Value.bool b30, s15.v, Value.int .i64 x24]] w50 fun e32 w51 =>
       ∃ b31 : Bool, ∃ s16 : Slc, ∃ x25 : Int, ∃ b32 : Bool, e32 = .returned (Value.tuple #[Value.agg #[Value.bool b31, s16.v, Value.int .i64 x25], Value.bool b32]) ∧ Ahead w50 w51 ∧
       (∀ w82, Ext w51 w82 → Ahead w w82 →
        (K24 t1 t7 b32 t6_0 t6_1 t6_2 t8_0 t8_1 t8_2 t10_0 t10_1 t10_2 t12_0 t12_1 t12_2 t16_0 t16_1 t16_2 t18_0 t18_1 t18_2 t21_0 t21_1 t21_2 t22_0 t22_1 t22_2 t23_0 t23_1 t23_2 t24_0 t24_1 t24_2 b31 s16 x25 w82))))))
    (h3000024 : ∀ (t1 : Int) (t7 : Bool) (t26 : Bool) (t6_0 : Bool) (t6_1 : Slc) (t6_2 : Int) (t8_0 : Bool) (t8_1 : Slc) (t8_2 : Int) (t10_0 : Bool) (t10_1 : Slc) (t10_2 : Int) (t12_0 : Bool) (t12_1 : Slc) (t12_2 : Int) (t16_0 : Bool) (t16_1 : Slc) (t16_2 : Int) (t18_0 : Bool) (t18_1 : Slc) (t18_2 : Int) (t21_0 : Bool) (t21_1 : Slc) (t21_2 : Int) (t22_0 : Bool) (t22_1 : Slc) (t22_2 : Int) (t23_0 : Bool) (t23_1 : Slc) (t23_2 : Int) (t24_0 : Bool) (t24_1 : Slc) (t24_2 : Int) (t25_0 : Bool) (t25_1 : Slc) (t25_2 : Int) (w_ : World), Ahead w w_ → K24 t1 t7 t26 t6_0 t6_1 t6_2 t8_0 t8_1 t8_2 t10_0 t10_1 t10_2 t12_0 t12_1 t12_2 t16_0 t16_1 t16_2 t18_0 t18_1 t18_2 t21_0 t21_1 t21_2 t22_0 t22_1 t22_2 t23_0 t23_1 t23_2 t24_0 t24_1 t24_2 t25_0 t25_1 t25_2 w_ → 
    ∀ w52, Ext w_ w52 → Ahead w w52 →
    (Calls Tryd.prog 17 #[Value.agg #[Value.bool t6_0, t6_1.v, Value.int .i64 t6_2]] w52 fun e33 w53 =>
     ∃ b33 : Bool, ∃ s17 : Slc, ∃ x26 : Int, e33 = .returned (Value.agg #[Value.bool b33, s17.v, Value.int .i64 x26]) ∧ Ahead w52 w53 ∧
     (∀ w54, Ext w53 w54 → Ahead w w54 →
      (Calls Tryd.prog 16 #[Value.agg #[Value.bool t21_0, t21_1.v, Value.int .i64 t21_2], Value.agg #[Value.bool b33, s17.v, Value.int .i64 x26]] w54 fun e34 w55 =>
       ∃ b34 : Bool, ∃ s18 : Slc, ∃ x27 : Int, ∃ b35 : Bool, e34 = .returned (Value.tuple #[Value.agg #[Value.bool b34, s18.v, Value.int .i64 x27], Value.bool b35]) ∧ Ahead w54 w55 ∧
       (∀ w73, Ext w55 w73 → Ahead w w73 →
        (K25 t1 t7 t26 b35 t8_0 t8_1 t8_2 t10_0 t10_1 t10_2 t12_0 t12_1 t12_2 t16_0 t16_1 t16_2 t18_0 t18_1 t18_2 t21_0 t21_1 t21_2 t22_0 t22_1 t22_2 t23_0 t23_1 t23_2 t24_0 t24_1 t24_2 t25_0 t25_1 t25_2 b34 s18 x27 w73))))))
    (h3000025 : ∀ (t1 : Int) (t7 : Bool) (t26 : Bool) (t28 : Bool) (t8_0 : Bool) (t8_1 : Slc) (t8_2 : Int) (t10_0 : Bool) (t10_1 : Slc) (t10_2 : Int) (t12_0 : Bool) (t12_1 : Slc) (t12_2 : Int) (t16_0 : Bool) (t16_1 : Slc) (t16_2 : Int) (t18_0 : Bool) (t18_1 : Slc) (t18_2 : Int) (t21_0 : Bool) (t21_1 : Slc) (t21_2 : Int) (t22_0 : Bool) (t22_1 : Slc) (t22_2 : Int) (t23_0 : Bool) (t23_1 : Slc) (t23_2 : Int) (t24_0 : Bool) (t24_1 : Slc) (t24_2 : Int) (t25_0 : Bool) (t25_1 : Slc) (t25_2 : Int) (t27_0 : Bool) (t27_1 : Slc) (t27_2 : Int) (w_ : World), Ahead w w_ → K25 t1 t7 t26 t28 t8_0 t8_1 t8_2 t10_0 t10_1 t10_2 t12_0 t12_1 t12_2 t16_0 t16_1 t16_2 t18_0 t18_1 t18_2 t21_0 t21_1 t21_2 t22_0 t22_1 t22_2 t23_0 t23_1 t23_2 t24_0 t24_1 t24_2 t25_0 t25_1 t25_2 t27_0 t27_1 t27_2 w_ → 
    br t7
    (Calls Tryd.prog 12 #[Value.agg #[Value.bool t24_0, t24_1.v, Value.int .i64 t24_2], Value.agg #[Value.bool t23_0, t23_1.v, Value.int .i64 t23_2]] w_ fun e35 w56 =>
     ∃ x28 : Int, e35 = .returned (Value.int .i64 x28) ∧ Ahead w_ w56 ∧
     (br (x28 != 0)
      (R (.returned (Value.bool false)) w56)
      (K27 t1 t26 t28 t8_0 t8_1 t8_2 t10_0 t10_1 t10_2 t12_0 t12_1 t12_2 t16_0 t16_1 t16_2 t18_0 t18_1 t18_2 t21_0 t21_1 t21_2 t22_0 t22_1 t22_2 t25_0 t25_1 t25_2 t27_0 t27_1 t27_2 w56)))
    (K27 t1 t26 t28 t8_0 t8_1 t8_2 t10_0 t10_1 t10_2 t12_0 t12_1 t12_2 t16_0 t16_1 t16_2 t18_0 t18_1 t18_2 t21_0 t21_1 t21_2 t22_0 t22_1 t22_2 t25_0 t25_1 t25_2 t27_0 t27_1 t27_2 w_))
    (h3000027 : ∀ (t1 : Int) (t26 : Bool) (t28 : Bool) (t8_0 : Bool) (t8_1 : Slc) (t8_2 : Int) (t10_0 : Bool) (t10_1 : Slc) (t10_2 : Int) (t12_0 : Bool) (t12_1 : Slc) (t12_2 : Int) (t16_0 : Bool) (t16_1 : Slc) (t16_2 : Int) (t18_0 : Bool) (t18_1 : Slc) (t18_2 : Int) (t21_0 : Bool) (t21_1 : Slc) (t21_2 : Int) (t22_0 : Bool) (t22_1 : Slc) (t22_2 : Int) (t25_0 : Bool) (t25_1 : Slc) (t25_2 : Int) (t27_0 : Bool) (t27_1 : Slc) (t27_2 : Int) (w_ : World), Ahead w w_ → K27 t1 t26 t28 t8_0 t8_1 t8_2 t10_0 t10_1 t10_2 t12_0 t12_1 t12_2 t16_0 t16_1 t16_2 t18_0 t18_1 t18_2 t21_0 t21_1 t21_2 t22_0 t22_1 t22_2 t25_0 t25_1 t25_2 t27_0 t27_1 t27_2 w_ → 
    br t26
    (K28 t1 t28 t8_0 t8_1 t8_2 t10_0 t10_1 t10_2 t12_0 t12_1 t12_2 t16_0 t16_1 t16_2 t18_0 t18_1 t18_2 t21_0 t21_1 t21_2 t22_0 t22_1 t22_2 t25_0 t25_1 t25_2 t27_0 t27_1 t27_2 w_)
    (K28 t1 false t8_0 t8_1 t8_2 t10_0 t10_1 t10_2 t12_0 t12_1 t12_2 t16_0 t16_1 t16_2 t18_0 t18_1 t18_2 t21_0 t21_1 t21_2 t22_0 t22_1 t22_2 t25_0 t25_1 t25_2 t27_0 t27_1 t27_2 w_))
    (h3000028 : ∀ (t1 : Int) (t181 : Bool) (t8_0 : Bool) (t8_1 : Slc) (t8_2 : Int) (t10_0 : Bool) (t10_1 : Slc) (t10_2 : Int) (t12_0 : Bool) (t12_1 : Slc) (t12_2 : Int) (t16_0 : Bool) (t16_1 : Slc) (t16_2 : Int) (t18_0 : Bool) (t18_1 : Slc) (t18_2 : Int) (t21_0 : Bool) (t21_1 : Slc) (t21_2 : Int) (t22_0 : Bool) (t22_1 : Slc) (t22_2 : Int) (t25_0 : Bool) (t25_1 : Slc) (t25_2 : Int) (t27_0 : Bool) (t27_1 : Slc) (t27_2 : Int) (w_ : World), Ahead w w_ → K28 t1 t181 t8_0 t8_1 t8_2 t10_0 t10_1 t10_2 t12_0 t12_1 t12_2 t16_0 t16_1 t16_2 t18_0 t18_1 t18_2 t21_0 t21_1 t21_2 t22_0 t22_1 t22_2 t25_0 t25_1 t25_2 t27_0 t27_1 t27_2 w_ → 
    br t181
    (Calls Tryd.prog 12 #[Value.agg #[Value.bool t25_0, t25_1.v, Value.int .i64 t25_2], Value.agg #[Value.bool t27_0, t27_1.v, Value.int .i64 t27_2]] w_ fun e36 w57 =>
     ∃ x29 : Int, e36 = .returned (Value.int .i64 x29) ∧ Ahead w_ w57 ∧
     (br (decide (x29 < 0))
      (Calls Tryd.prog 13 #[Value.agg #[Value.bool t12_0, t12_1.v, Value.int .i64 t12_2], Value.agg #[Value.bool t8_0, t8_1.v, Value.int .i64 t8_2]] w57 fun e37 w58 =>
       ∃ b36 : Bool, e37 = .returned (Value.bool b36) ∧ Ahead w57 w58 ∧
       (br (!b36)
        (R (.returned (Value.bool false)) w58)
        (br (decide (x29 > 0))
         (Calls Tryd.prog 13 #[Value.agg #[Value.bool t12_0, t12_1.v, Value.int .i64 t12_2], Value.agg #[Value.bool t10_0, t10_1.v, Value.int .i64 t10_2]] w58 fun e38 w59 =>
          ∃ b37 : Bool, e38 = .returned (Value.bool b37) ∧ Ahead w58 w59 ∧
          (br (!b37)
           (R (.returned (Value.bool false)) w59)
           (br (x29 == 0)
            (Calls Tryd.prog 14 #[Value.agg #[Value.bool t22_0, t22_1.v, Value.int .i64 t22_2], Value.int .i64 (IntKind.i64.wrap (t1 + 1))] w59 fun e39 w60 =>
             ∃ b38 : Bool, e39 = .returned (Value.bool b38) ∧ Ahead w59 w60 ∧
             (br (b38 == false)
              (R (.returned (Value.bool false)) w60)
              (K31 t16_0 t16_1 t16_2 t18_0 t18_1 t18_2 t21_0 t21_1 t21_2 t22_0 t22_1 t22_2 w60)))
            (K31 t16_0 t16_1 t16_2 t18_0 t18_1 t18_2 t21_0 t21_1 t21_2 t22_0 t22_1 t22_2 w59))))
         (br (x29 == 0)
          (Calls Tryd.prog 14 #[Value.agg #[Value.bool t22_0, t22_1.v, Value.int .i64 t22_2], Value.int .i64 (IntKind.i64.wrap (t1 + 1))] w58 fun e47 w69 =>
           ∃ b44 : Bool, e47 = .returned (Value.bool b44) ∧ Ahead w58 w69 ∧
           (br (b44 == false)
            (R (.returned (Value.bool false)) w69)
            (K31 t16_0 t16_1 t16_2 t18_0 t18_1 t18_2 t21_0 t21_1 t21_2 t22_0 t22_1 t22_2 w69)))
          (K31 t16_0 t16_1 t16_2 t18_0 t18_1 t18_2 t21_0 t21_1 t21_2 t22_0 t22_1 t22_2 w58)))))
      (br (decide (x29 > 0))
       (Calls Tryd.prog 13 #[Value.agg #[Value.bool t12_0, t12_1.v, Value.int .i64 t12_2], Value.agg #[Value.bool t10_0, t10_1.v, Value.int .i64 t10_2]] w57 fun e48 w70 =>
        ∃ b45 : Bool, e48 = .returned (Value.bool b45) ∧ Ahead w57 w70 ∧
        (br (!b45)
         (R (.returned (Value.bool false)) w70)
         (br (x29 == 0)
          (Calls Tryd.prog 14 #[Value.agg #[Value.bool t22_0, t22_1.v, Value.int .i64 t22_2], Value.int .i64 (IntKind.i64.wrap (t1 + 1))] w70 fun e49 w71 =>
           ∃ b46 : Bool, e49 = .returned (Value.bool b46) ∧ Ahead w70 w71 ∧
           (br (b46 == false)
            (R (.returned (Value.bool false)) w71)
            (K31 t16_0 t16_1 t16_2 t18_0 t18_1 t18_2 t21_0 t21_1 t21_2 t22_0 t22_1 t22_2 w71)))
          (K31 t16_0 t16_1 t16_2 t18_0 t18_1 t18_2 t21_0 t21_1 t21_2 t22_0 t22_1 t22_2 w70))))
       (br (x29 == 0)
        (Calls Tryd.prog 14 #[Value.agg #[Value.bool t22_0, t22_1.v, Value.int .i64 t22_2], Value.int .i64 (IntKind.i64.wrap (t1 + 1))] w57 fun e50 w72 =>
         ∃ b47 : Bool, e50 = .returned (Value.bool b47) ∧ Ahead w57 w72 ∧
         (br (b47 == false)
          (R (.returned (Value.bool false)) w72)
          (K31 t16_0 t16_1 t16_2 t18_0 t18_1 t18_2 t21_0 t21_1 t21_2 t22_0 t22_1 t22_2 w72)))
        (K31 t16_0 t16_1 t16_2 t18_0 t18_1 t18_2 t21_0 t21_1 t21_2 t22_0 t22_1 t22_2 w57)))))
    (K31 t16_0 t16_1 t16_2 t18_0 t18_1 t18_2 t21_0 t21_1 t21_2 t22_0 t22_1 t22_2 w_))
    (h3000031 : ∀ (t16_0 : Bool) (t16_1 : Slc) (t16_2 : Int) (t18_0 : Bool) (t18_1 : Slc) (t18_2 : Int) (t21_0 : Bool) (t21_1 : Slc) (t21_2 : Int) (t22_0 : Bool) (t22_1 : Slc) (t22_2 : Int) (w_ : World), Ahead w w_ → K31 t16_0 t16_1 t16_2 t18_0 t18_1 t18_2 t21_0 t21_1 t21_2 t22_0 t22_1 t22_2 w_ → 
    ∀ w61, Ext w_ w61 → Ahead w w61 →
    (Calls Tryd.prog 11 #[Value.agg #[Value.bool t16_0, t16_1.v, Value.int .i64 t16_2]] w61 fun e40 w62 =>
     ∃ b39 : Bool, ∃ s19 : Slc, ∃ x30 : Int, e40 = .returned (Value.agg #[Value.bool b39, s19.v, Value.int .i64 x30]) ∧ Ahead w61 w62 ∧
     (Calls Tryd.prog 17 #[Value.agg #[Value.bool b39, s19.v, Value.int .i64 x30]] w62 fun e41 w63 =>
      ∃ b40 : Bool, ∃ s20 : Slc, ∃ x31 : Int, e41 = .returned (Value.agg #[Value.bool b40, s20.v, Value.int .i64 x31]) ∧ Ahead w62 w63 ∧
      (Calls Tryd.prog 12 #[Value.agg #[Value.bool b40, s20.v, Value.int .i64 x31], Value.agg #[Value.bool t21_0, t21_1.v, Value.int .i64 t21_2]] w63 fun e42 w64 =>
       ∃ x32 : Int, e42 = .returned (Value.int .i64 x32) ∧ Ahead w63 w64 ∧
       (br (x32 == 0)
        (Calls Tryd.prog 11 #[Value.agg #[Value.bool t18_0, t18_1.v, Value.int .i64 t18_2]] w64 fun e43 w65 =>
         ∃ b41 : Bool, ∃ s21 : Slc, ∃ x33 : Int, e43 = .returned (Value.agg #[Value.bool b41, s21.v, Value.int .i64 x33]) ∧ Ahead w64 w65 ∧
         (Calls Tryd.prog 17 #[Value.agg #[Value.bool b41, s21.v, Value.int .i64 x33]] w65 fun e44 w66 =>
          ∃ b42 : Bool, ∃ s22 : Slc, ∃ x34 : Int, e44 = .returned (Value.agg #[Value.bool b42, s22.v, Value.int .i64 x34]) ∧ Ahead w65 w66 ∧
          (Calls Tryd.prog 12 #[Value.agg #[Value.bool b42, s22.v, Value.int .i64 x34], Value.agg #[Value.bool t22_0, t22_1.v, Value.int .i64 t22_2]] w66 fun e45 w67 =>
           ∃ x35 : Int, e45 = .returned (Value.int .i64 x35) ∧ Ahead w66 w67 ∧
           (br (x35 == 0)
            (Calls Tryd.prog 7 #[] w67 fun e46 w68 =>
             ∃ b43 : Bool, e46 = .returned (Value.bool b43) ∧ Ahead w67 w68 ∧
             (R (.returned (Value.bool b43)) w68))
            (R (.returned (Value.bool false)) w67)))))
        (R (.returned (Value.bool false)) w64)))))) :
    Calls Tryd.prog 3 #[Value.agg #[Value.bool a0_0, a0_1.v, Value.int .i64 a0_2], Value.int .i64 a1] w (fun e_ w_ => Ahead w w_ ∧ R e_ w_) := by
  refine surdlaw08_DyadicNear_vc a0_0 a0_1 a0_2 a1 w _ (fun t1 t6 t8 t10 t12 t16 t18 w_ => ∃ c6_ : Nat, ∃ c8_ : Nat, ∃ c10_ : Nat, ∃ c12_ : Nat, ∃ c16_ : Nat, ∃ c18_ : Nat, ∃ t6_0 : Bool, ∃ t6_1 : Slc, ∃ t6_2 : Int, ∃ t8_0 : Bool, ∃ t8_1 : Slc, ∃ t8_2 : Int, ∃ t10_0 : Bool, ∃ t10_1 : Slc, ∃ t10_2 : Int, ∃ t12_0 : Bool, ∃ t12_1 : Slc, ∃ t12_2 : Int, ∃ t16_0 : Bool, ∃ t16_1 : Slc, ∃ t16_2 : Int, ∃ t18_0 : Bool, ∃ t18_1 : Slc, ∃ t18_2 : Int, t6 = ⟨c6_, 0, none⟩ ∧ Blt w_ c6_ 35 #[Value.bool t6_0, t6_1.v, Value.int .i64 t6_2] ∧ w.heap.size ≤ c6_ ∧ t8 = ⟨c8_, 0, none⟩ ∧ Blt w_ c8_ 29 #[Value.bool t8_0, t8_1.v, Value.int .i64 t8_2] ∧ w.heap.size ≤ c8_ ∧ t10 = ⟨c10_, 0, none⟩ ∧ Blt w_ c10_ 29 #[Value.bool t10_0, t10_1.v, Value.int .i64 t10_2] ∧ w.heap.size ≤ c10_ ∧ t12 = ⟨c12_, 0, none⟩ ∧ Blt w_ c12_ 29 #[Value.bool t12_0, t12_1.v, Value.int .i64 t12_2] ∧ w.heap.size ≤ c12_ ∧ t16 = ⟨c16_, 0, none⟩ ∧ Blt w_ c16_ 29 #[Value.bool t16_0, t16_1.v, Value.int .i64 t16_2] ∧ w.heap.size ≤ c16_ ∧ t18 = ⟨c18_, 0, none⟩ ∧ Blt w_ c18_ 29 #[Value.bool t18_0, t18_1.v, Value.int .i64 t18_2] ∧ w.heap.size ≤ c18_ ∧ c6_ ≠ c8_ ∧ c6_ ≠ c10_ ∧ c6_ ≠ c12_ ∧ c6_ ≠ c16_ ∧ c6_ ≠ c18_ ∧ c8_ ≠ c10_ ∧ c8_ ≠ c12_ ∧ c8_ ≠ c16_ ∧ c8_ ≠ c18_ ∧ c10_ ≠ c12_ ∧ c10_ ≠ c16_ ∧ c10_ ≠ c18_ ∧ c12_ ≠ c16_ ∧ c12_ ≠ c18_ ∧ c16_ ≠ c18_ ∧ Ahead w w_ ∧ K16 t1 t6_0 t6_1 t6_2 t8_0 t8_1 t8_2 t10_0 t10_1 t10_2 t12_0 t12_1 t12_2 t16_0 t16_1 t16_2 t18_0 t18_1 t18_2 w_) (fun t1 t6 t8 t10 t12 t16 t18 t20 t21 t22 w_ => ∃ c6_ : Nat, ∃ c8_ : Nat, ∃ c10_ : Nat, ∃ c12_ : Nat, ∃ c16_ : Nat, ∃ c18_ : Nat, ∃ c20_ : Nat, ∃ c21_ : Nat, ∃ c22_ : Nat, ∃ t6_0 : Bool, ∃ t6_1 : Slc, ∃ t6_2 : Int, ∃ t8_0 : Bool, ∃ t8_1 : Slc, ∃ t8_2 : Int, ∃ t10_0 : Bool, ∃ t10_1 : Slc, ∃ t10_2 : Int, ∃ t12_0 : Bool, ∃ t12_1 : Slc, ∃ t12_2 : Int, ∃ t16_0 : Bool, ∃ t16_1 : Slc, ∃ t16_2 : Int, ∃ t18_0 : Bool, ∃ t18_1 : Slc, ∃ t18_2 : Int, ∃ t20_0 : Bool, ∃ t20_1 : Slc, ∃ t20_2 : Int, ∃ t21_0 : Bool, ∃ t21_1 : Slc, ∃ t21_2 : Int, ∃ t22_0 : Bool, ∃ t22_1 : Slc, ∃ t22_2 : Int, t6 = ⟨c6_, 0, none⟩ ∧ Blt w_ c6_ 35 #[Value.bool t6_0, t6_1.v, Value.int .i64 t6_2] ∧ w.heap.size ≤ c6_ ∧ t8 = ⟨c8_, 0, none⟩ ∧ Blt w_ c8_ 29 #[Value.bool t8_0, t8_1.v, Value.int .i64 t8_2] ∧ w.heap.size ≤ c8_ ∧ t10 = ⟨c10_, 0, none⟩ ∧ Blt w_ c10_ 29 #[Value.bool t10_0, t10_1.v, Value.int .i64 t10_2] ∧ w.heap.size ≤ c10_ ∧ t12 = ⟨c12_, 0, none⟩ ∧ Blt w_ c12_ 29 #[Value.bool t12_0, t12_1.v, Value.int .i64 t12_2] ∧ w.heap.size ≤ c12_ ∧ t16 = ⟨c16_, 0, none⟩ ∧ Blt w_ c16_ 29 #[Value.bool t16_0, t16_1.v, Value.int .i64 t16_2] ∧ w.heap.size ≤ c16_ ∧ t18 = ⟨c18_, 0, none⟩ ∧ Blt w_ c18_ 29 #[Value.bool t18_0, t18_1.v, Value.int .i64 t18_2] ∧ w.heap.size ≤ c18_ ∧ t20 = ⟨c20_, 0, none⟩ ∧ Blt w_ c20_ 35 #[Value.bool t20_0, t20_1.v, Value.int .i64 t20_2] ∧ w.heap.size ≤ c20_ ∧ t21 = ⟨c21_, 0, none⟩ ∧ Blt w_ c21_ 35 #[Value.bool t21_0, t21_1.v, Value.int .i64 t21_2] ∧ w.heap.size ≤ c21_ ∧ t22 = ⟨c22_, 0, none⟩ ∧ Blt w_ c22_ 35 #[Value.bool t22_0, t22_1.v, Value.int .i64 t22_2] ∧ w.heap.size ≤ c22_ ∧ c6_ ≠ c8_ ∧ c6_ ≠ c10_ ∧ c6_ ≠ c12_ ∧ c6_ ≠ c16_ ∧ c6_ ≠ c18_ ∧ c6_ ≠ c20_ ∧ c6_ ≠ c21_ ∧ c6_ ≠ c22_ ∧ c8_ ≠ c10_ ∧ c8_ ≠ c12_ ∧ c8_ ≠ c16_ ∧ c8_ ≠ c18_ ∧ c8_ ≠ c20_ ∧ c8_ ≠ c21_ ∧ c8_ ≠ c22_ ∧ c10_ ≠ c12_ ∧ c10_ ≠ c16_ ∧ c10_ ≠ c18_ ∧ c10_ ≠ c20_ ∧ c10_ ≠ c21_ ∧ c10_ ≠ c22_ ∧ c12_ ≠ c16_ ∧ c12_ ≠ c18_ ∧ c12_ ≠ c20_ ∧ c12_ ≠ c21_ ∧ c12_ ≠ c22_ ∧ c16_ ≠ c18_ ∧ c16_ ≠ c20_ ∧ c16_ ≠ c21_ ∧ c16_ ≠ c22_ ∧ c18_ ≠ c20_ ∧ c18_ ≠ c21_ ∧ c18_ ≠ c22_ ∧ c20_ ≠ c21_ ∧ c20_ ≠ c22_ ∧ c21_ ≠ c22_ ∧ Ahead w w_ ∧ K17 t1 t6_0 t6_1 t6_2 t8_0 t8_1 t8_2 t10_0 t10_1 t10_2 t12_0 t12_1 t12_2 t16_0 t16_1 t16_2 t18_0 t18_1 t18_2 t20_0 t20_1 t20_2 t21_0 t21_1 t21_2 t22_0 t22_1 t22_2 w_) (fun t1 t6 t8 t10 t12 t16 t18 t20 t21 t22 w_ => ∃ c6_ : Nat, ∃ c8_ : Nat, ∃ c10_ : Nat, ∃ c12_ : Nat, ∃ c16_ : Nat, ∃ c18_ : Nat, ∃ c20_ : Nat, ∃ c21_ : Nat, ∃ c22_ : Nat, ∃ t6_0 : Bool, ∃ t6_1 : Slc, ∃ t6_2 : Int, ∃ t8_0 : Bool, ∃ t8_1 : Slc, ∃ t8_2 : Int, ∃ t10_0 : Bool, ∃ t10_1 : Slc, ∃ t10_2 : Int, ∃ t12_0 : Bool, ∃ t12_1 : Slc, ∃ t12_2 : Int, ∃ t16_0 : Bool, ∃ t16_1 : Slc, ∃ t16_2 : Int, ∃ t18_0 : Bool, ∃ t18_1 : Slc, ∃ t18_2 : Int, ∃ t20_0 : Bool, ∃ t20_1 : Slc, ∃ t20_2 : Int, ∃ t21_0 : Bool, ∃ t21_1 : Slc, ∃ t21_2 : Int, ∃ t22_0 : Bool, ∃ t22_1 : Slc, ∃ t22_2 : Int, t6 = ⟨c6_, 0, none⟩ ∧ Blt w_ c6_ 35 #[Value.bool t6_0, t6_1.v, Value.int .i64 t6_2] ∧ w.heap.size ≤ c6_ ∧ t8 = ⟨c8_, 0, none⟩ ∧ Blt w_ c8_ 29 #[Value.bool t8_0, t8_1.v, Value.int .i64 t8_2] ∧ w.heap.size ≤ c8_ ∧ t10 = ⟨c10_, 0, none⟩ ∧ Blt w_ c10_ 29 #[Value.bool t10_0, t10_1.v, Value.int .i64 t10_2] ∧ w.heap.size ≤ c10_ ∧ t12 = ⟨c12_, 0, none⟩ ∧ Blt w_ c12_ 29 #[Value.bool t12_0, t12_1.v, Value.int .i64 t12_2] ∧ w.heap.size ≤ c12_ ∧ t16 = ⟨c16_, 0, none⟩ ∧ Blt w_ c16_ 29 #[Value.bool t16_0, t16_1.v, Value.int .i64 t16_2] ∧ w.heap.size ≤ c16_ ∧ t18 = ⟨c18_, 0, none⟩ ∧ Blt w_ c18_ 29 #[Value.bool t18_0, t18_1.v, Value.int .i64 t18_2] ∧ w.heap.size ≤ c18_ ∧ t20 = ⟨c20_, 0, none⟩ ∧ Blt w_ c20_ 35 #[Value.bool t20_0, t20_1.v, Value.int .i64 t20_2] ∧ w.heap.size ≤ c20_ ∧ t21 = ⟨c21_, 0, none⟩ ∧ Blt w_ c21_ 35 #[Value.bool t21_0, t21_1.v, Value.int .i64 t21_2] ∧ w.heap.size ≤ c21_ ∧ t22 = ⟨c22_, 0, none⟩ ∧ Blt w_ c22_ 35 #[Value.bool t22_0, t22_1.v, Value.int .i64 t22_2] ∧ w.heap.size ≤ c22_ ∧ c6_ ≠ c8_ ∧ c6_ ≠ c10_ ∧ c6_ ≠ c12_ ∧ c6_ ≠ c16_ ∧ c6_ ≠ c18_ ∧ c6_ ≠ c20_ ∧ c6_ ≠ c21_ ∧ c6_ ≠ c22_ ∧ c8_ ≠ c10_ ∧ c8_ ≠ c12_ ∧ c8_ ≠ c16_ ∧ c8_ ≠ c18_ ∧ c8_ ≠ c20_ ∧ c8_ ≠ c21_ ∧ c8_ ≠ c22_ ∧ c10_ ≠ c12_ ∧ c10_ ≠ c16_ ∧ c10_ ≠ c18_ ∧ c10_ ≠ c20_ ∧ c10_ ≠ c21_ ∧ c10_ ≠ c22_ ∧ c12_ ≠ c16_ ∧ c12_ ≠ c18_ ∧ c12_ ≠ c20_ ∧ c12_ ≠ c21_ ∧ c12_ ≠ c22_ ∧ c16_ ≠ c18_ ∧ c16_ ≠ c20_ ∧ c16_ ≠ c21_ ∧ c16_ ≠ c22_ ∧ c18_ ≠ c20_ ∧ c18_ ≠ c21_ ∧ c18_ ≠ c22_ ∧ c20_ ≠ c21_ ∧ c20_ ≠ c22_ ∧ c21_ ≠ c22_ ∧ Ahead w w_ ∧ K19 t1 t6_0 t6_1 t6_2 t8_0 t8_1 t8_2 t10_0 t10_1 t10_2 t12_0 t12_1 t12_2 t16_0 t16_1 t16_2 t18_0 t18_1 t18_2 t20_0 t20_1 t20_2 t21_0 t21_1 t21_2 t22_0 t22_1 t22_2 w_) (fun t1 t6 t7 t8 t10 t12 t16 t18 t20 t21 t22 t23 t24 w_ => ∃ c6_ : Nat, ∃ c8_ : Nat, ∃ c10_ : Nat, ∃ c12_ : Nat, ∃ c16_ : Nat, ∃ c18_ : Nat, ∃ c20_ : Nat, ∃ c21_ : Nat, ∃ c22_ : Nat, ∃ c23_ : Nat, ∃ c24_ : Nat, ∃ t6_0 : Bool, ∃ t6_1 : Slc, ∃ t6_2 : Int, ∃ t8_0 : Bool, ∃ t8_1 : Slc, ∃ t8_2 : Int, ∃ t10_0 : Bool, ∃ t10_1 : Slc, ∃ t10_2 : Int, ∃ t12_0 : Bool, ∃ t12_1 : Slc, ∃ t12_2 : Int, ∃ t16_0 : Bool, ∃ t16_1 : Slc, ∃ t16_2 : Int, ∃ t18_0 : Bool, ∃ t18_1 : Slc, ∃ t18_2 : Int, ∃ t20_0 : Bool, ∃ t20_1 : Slc, ∃ t20_2 : Int, ∃ t21_0 : Bool, ∃ t21_1 : Slc, ∃ t21_2 : Int, ∃ t22_0 : Bool, ∃ t22_1 : Slc, ∃ t22_2 : Int, ∃ t23_0 : Bool, ∃ t23_1 : Slc, ∃ t23_2 : Int, ∃ t24_0 : Bool, ∃ t24_1 : Slc, ∃ t24_2 : Int, t6 = ⟨c6_, 0, none⟩ ∧ Blt w_ c6_ 35 #[Value.bool t6_0, t6_1.v, Value.int .i64 t6_2] ∧ w.heap.size ≤ c6_ ∧ t8 = ⟨c8_, 0, none⟩ ∧ Blt w_ c8_ 29 #[Value.bool t8_0, t8_1.v, Value.int .i64 t8_2] ∧ w.heap.size ≤ c8_ ∧ t10 = ⟨c10_, 0, none⟩ ∧ Blt w_ c10_ 29 #[Value.bool t10_0, t10_1.v, Value.int .i64 t10_2] ∧ w.heap.size ≤ c10_ ∧ t12 = ⟨c12_, 0, none⟩ ∧ Blt w_ c12_ 29 #[Value.bool t12_0, t12_1.v, Value.int .i64 t12_2] ∧ w.heap.size ≤ c12_ ∧ t16 = ⟨c16_, 0, none⟩ ∧ Blt w_ c16_ 29 #[Value.bool t16_0, t16_1.v, Value.int .i64 t16_2] ∧ w.heap.size ≤ c16_ ∧ t18 = ⟨c18_, 0, none⟩ ∧ Blt w_ c18_ 29 #[Value.bool t18_0, t18_1.v, Value.int .i64 t18_2] ∧ w.heap.size ≤ c18_ ∧ t20 = ⟨c20_, 0, none⟩ ∧ Blt w_ c20_ 35 #[Value.bool t20_0, t20_1.v, Value.int .i64 t20_2] ∧ w.heap.size ≤ c20_ ∧ t21 = ⟨c21_, 0, none⟩ ∧ Blt w_ c21_ 35 #[Value.bool t21_0, t21_1.v, Value.int .i64 t21_2] ∧ w.heap.size ≤ c21_ ∧ t22 = ⟨c22_, 0, none⟩ ∧ Blt w_ c22_ 35 #[Value.bool t22_0, t22_1.v, Value.int .i64 t22_2] ∧ w.heap.size ≤ c22_ ∧ t23 = ⟨c23_, 0, none⟩ ∧ Blt w_ c23_ 35 #[Value.bool t23_0, t23_1.v, Value.int .i64 t23_2] ∧ w.heap.size ≤ c23_ ∧ t24 = ⟨c24_, 0, none⟩ ∧ Blt w_ c24_ 35 #[Value.bool t24_0, t24_1.v, Value.int .i64 t24_2] ∧ w.heap.size ≤ c24_ ∧ c6_ ≠ c8_ ∧ c6_ ≠ c10_ ∧ c6_ ≠ c12_ ∧ c6_ ≠ c16_ ∧ c6_ ≠ c18_ ∧ c6_ ≠ c20_ ∧ c6_ ≠ c21_ ∧ c6_ ≠ c22_ ∧ c6_ ≠ c23_ ∧ c6_ ≠ c24_ ∧ c8_ ≠ c10_ ∧ c8_ ≠ c12_ ∧ c8_ ≠ c16_ ∧ c8_ ≠ c18_ ∧ c8_ ≠ c20_ ∧ c8_ ≠ c21_ ∧ c8_ ≠ c22_ ∧ c8_ ≠ c23_ ∧ c8_ ≠ c24_ ∧ c10_ ≠ c12_ ∧ c10_ ≠ c16_ ∧ c10_ ≠ c18_ ∧ c10_ ≠ c20_ ∧ c10_ ≠ c21_ ∧ c10_ ≠ c22_ ∧ c10_ ≠ c23_ ∧ c10_ ≠ c24_ ∧ c12_ ≠ c16_ ∧ c12_ ≠ c18_ ∧ c12_ ≠ c20_ ∧ c12_ ≠ c21_ ∧ c12_ ≠ c22_ ∧ c12_ ≠ c23_ ∧ c12_ ≠ c24_ ∧ c16_ ≠ c18_ ∧ c16_ ≠ c20_ ∧ c16_ ≠ c21_ ∧ c16_ ≠ c22_ ∧ c16_ ≠ c23_ ∧ c16_ ≠ c24_ ∧ c18_ ≠ c20_ ∧ c18_ ≠ c21_ ∧ c18_ ≠ c22_ ∧ c18_ ≠ c23_ ∧ c18_ ≠ c24_ ∧ c20_ ≠ c21_ ∧ c20_ ≠ c22_ ∧ c20_ ≠ c23_ ∧ c20_ ≠ c24_ ∧ c21_ ≠ c22_ ∧ c21_ ≠ c23_ ∧ c21_ ≠ c24_ ∧ c22_ ≠ c23_ ∧ c22_ ≠ c24_ ∧ c23_ ≠ c24_ ∧ Ahead w w_ ∧ K23 t1 t7 t6_0 t6_1 t6_2 t8_0 t8_1 t8_2 t10_0 t10_1 t10_2 t12_0 t12_1 t12_2 t16_0 t16_1 t16_2 t18_0 t18_1 t18_2 t20_0 t20_1 t20_2 t21_0 t21_1 t21_2 t22_0 t22_1 t22_2 t23_0 t23_1 t23_2 t24_0 t24_1 t24_2 w_) (fun t1 t6 t7 t8 t10 t12 t16 t18 t21 t22 t23 t24 t25 t26 w_ => ∃ c6_ : Nat, ∃ c8_ : Nat, ∃ c10_ : Nat, ∃ c12_ : Nat, ∃ c16_ : Nat, ∃ c18_ : Nat, ∃ c21_ : Nat, ∃ c22_ : Nat, ∃ c23_ : Nat, ∃ c24_ : Nat, ∃ c25_ : Nat, ∃ t6_0 : Bool, ∃ t6_1 : Slc, ∃ t6_2 : Int, ∃ t8_0 : Bool, ∃ t8_1 : Slc, ∃ t8_2 : Int, ∃ t10_0 : Bool, ∃ t10_1 : Slc, ∃ t10_2 : Int, ∃ t12_0 : Bool, ∃ t12_1 : Slc, ∃ t12_2 : Int, ∃ t16_0 : Bool, ∃ t16_1 : Slc, ∃ t16_2 : Int, ∃ t18_0 : Bool, ∃ t18_1 : Slc, ∃ t18_2 : Int, ∃ t21_0 : Bool, ∃ t21_1 : Slc, ∃ t21_2 : Int, ∃ t22_0 : Bool, ∃ t22_1 : Slc, ∃ t22_2 : Int, ∃ t23_0 : Bool, ∃ t23_1 : Slc, ∃ t23_2 : Int, ∃ t24_0 : Bool, ∃ t24_1 : Slc, ∃ t24_2 : Int, ∃ t25_0 : Bool, ∃ t25_1 : Slc, ∃ t25_2 : Int, t6 = ⟨c6_, 0, none⟩ ∧ Blt w_ c6_ 35 #[Value.bool t6_0, t6_1.v, Value.int .i64 t6_2] ∧ w.heap.size ≤ c6_ ∧ t8 = ⟨c8_, 0, none⟩ ∧ Blt w_ c8_ 29 #[Value.bool t8_0, t8_1.v, Value.int .i64 t8_2] ∧ w.heap.size ≤ c8_ ∧ t10 = ⟨c10_, 0, none⟩ ∧ Blt w_ c10_ 29 #[Value.bool t10_0, t10_1.v, Value.int .i64 t10_2] ∧ w.heap.size ≤ c10_ ∧ t12 = ⟨c12_, 0, none⟩ ∧ Blt w_ c12_ 29 #[Value.bool t12_0, t12_1.v, Value.int .i64 t12_2] ∧ w.heap.size ≤ c12_ ∧ t16 = ⟨c16_, 0, none⟩ ∧ Blt w_ c16_ 29 #[Value.bool t16_0, t16_1.v, Value.int .i64 t16_2] ∧ w.heap.size ≤ c16_ ∧ t18 = ⟨c18_, 0, none⟩ ∧ Blt w_ c18_ 29 #[Value.bool t18_0, t18_1.v, Value.int .i64 t18_2] ∧ w.heap.size ≤ c18_ ∧ t21 = ⟨c21_, 0, none⟩ ∧ Blt w_ c21_ 35 #[Value.bool t21_0, t21_1.v, Value.int .i64 t21_2] ∧ w.heap.size ≤ c21_ ∧ t22 = ⟨c22_, 0, none⟩ ∧ Blt w_ c22_ 35 #[Value.bool t22_0, t22_1.v, Value.int .i64 t22_2] ∧ w.heap.size ≤ c22_ ∧ t23 = ⟨c23_, 0, none⟩ ∧ Blt w_ c23_ 35 #[Value.bool t23_0, t23_1.v, Value.int .i64 t23_2] ∧ w.heap.size ≤ c23_ ∧ t24 = ⟨c24_, 0, none⟩ ∧ Blt w_ c24_ 35 #[Value.bool t24_0, t24_1.v, Value.int .i64 t24_2] ∧ w.heap.size ≤ c24_ ∧ t25 = ⟨c25_, 0, none⟩ ∧ Blt w_ c25_ 35 #[Value.bool t25_0, t25_1.v, Value.int .i64 t25_2] ∧ w.heap.size ≤ c25_ ∧ c6_ ≠ c8_ ∧ c6_ ≠ c10_ ∧ c6_ ≠ c12_ ∧ c6_ ≠ c16_ ∧ c6_ ≠ c18_ ∧ c6_ ≠ c21_ ∧ c6_ ≠ c22_ ∧ c6_ ≠ c23_ ∧ c6_ ≠ c24_ ∧ c6_ ≠ c25_ ∧ c8_ ≠ c10_ ∧ c8_ ≠ c12_ ∧ c8_ ≠ c16_ ∧ c8_ ≠ c18_ ∧ c8_ ≠ c21_ ∧ c8_ ≠ c22_ ∧ c8_ ≠ c23_ ∧ c8_ ≠ c24_ ∧ c8_ ≠ c25_ ∧ c10_ ≠ c12_ ∧ c10_ ≠ c16_ ∧ c10_ ≠ c18_ ∧ c10_ ≠ c21_ ∧ c10_ ≠ c22_ ∧ c10_ ≠ c23_ ∧ c10_ ≠ c24_ ∧ c10_ ≠ c25_ ∧ c12_ ≠ c16_ ∧ c12_ ≠ c18_ ∧ c12_ ≠ c21_ ∧ c12_ ≠ c22_ ∧ c12_ ≠ c23_ ∧ c12_ ≠ c24_ ∧ c12_ ≠ c25_ ∧ c16_ ≠ c18_ ∧ c16_ ≠ c21_ ∧ c16_ ≠ c22_ ∧ c16_ ≠ c23_ ∧ c16_ ≠ c24_ ∧ c16_ ≠ c25_ ∧ c18_ ≠ c21_ ∧ c18_ ≠ c22_ ∧ c18_ ≠ c23_ ∧ c18_ ≠ c24_ ∧ c18_ ≠ c25_ ∧ c21_ ≠ c22_ ∧ c21_ ≠ c23_ ∧ c21_ ≠ c24_ ∧ c21_ ≠ c25_ ∧ c22_ ≠ c23_ ∧ c22_ ≠ c24_ ∧ c22_ ≠ c25_ ∧ c23_ ≠ c24_ ∧ c23_ ≠ c25_ ∧ c24_ ≠ c25_ ∧ Ahead w w_ ∧ K24 t1 t7 t26 t6_0 t6_1 t6_2 t8_0 t8_1 t8_2 t10_0 t10_1 t10_2 t12_0 t12_1 t12_2 t16_0 t16_1 t16_2 t18_0 t18_1 t18_2 t21_0 t21_1 t21_2 t22_0 t22_1 t22_2 t23_0 t23_1 t23_2 t24_0 t24_1 t24_2 t25_0 t25_1 t25_2 w_) (fun t1 t7 t8 t10 t12 t16 t18 t21 t22 t23 t24 t25 t26 t27 t28 w_ => ∃ c8_ : Nat, ∃ c10_ : Nat, ∃ c12_ : Nat, ∃ c16_ : Nat, ∃ c18_ : Nat, ∃ c21_ : Nat, ∃ c22_ : Nat, ∃ c23_ : Nat, ∃ c24_ : Nat, ∃ c25_ : Nat, ∃ c27_ : Nat, ∃ t8_0 : Bool, ∃ t8_1 : Slc, ∃ t8_2 : Int, ∃ t10_0 : Bool, ∃ t10_1 : Slc, ∃ t10_2 : Int, ∃ t12_0 : Bool, ∃ t12_1 : Slc, ∃ t12_2 : Int, ∃ t16_0 : Bool, ∃ t16_1 : Slc, ∃ t16_2 : Int, ∃ t18_0 : Bool, ∃ t18_1 : Slc, ∃ t18_2 : Int, ∃ t21_0 : Bool, ∃ t21_1 : Slc, ∃ t21_2 : Int, ∃ t22_0 : Bool, ∃ t22_1 : Slc, ∃ t22_2 : Int, ∃ t23_0 : Bool, ∃ t23_1 : Slc, ∃ t23_2 : Int, ∃ t24_0 : Bool, ∃ t24_1 : Slc, ∃ t24_2 : Int, ∃ t25_0 : Bool, ∃ t25_1 : Slc, ∃ t25_2 : Int, ∃ t27_0 : Bool, ∃ t27_1 : Slc, ∃ t27_2 : Int, t8 = ⟨c8_, 0, none⟩ ∧ Blt w_ c8_ 29 #[Value.bool t8_0, t8_1.v, Value.int .i64 t8_2] ∧ w.heap.size ≤ c8_ ∧ t10 = ⟨c10_, 0, none⟩ ∧ Blt w_ c10_ 29 #[Value.bool t10_0, t10_1.v, Value.int .i64 t10_2] ∧ w.heap.size ≤ c10_ ∧ t12 = ⟨c12_, 0, none⟩ ∧ Blt w_ c12_ 29 #[Value.bool t12_0, t12_1.v, Value.int .i64 t12_2] ∧ w.heap.size ≤ c12_ ∧ t16 = ⟨c16_, 0, none⟩ ∧ Blt w_ c16_ 29 #[Value.bool t16_0, t16_1.v, Value.int .i64 t16_2] ∧ w.heap.size ≤ c16_ ∧ t18 = ⟨c18_, 0, none⟩ ∧ Blt w_ c18_ 29 #[Value.bool t18_0, t18_1.v, Value.int .i64 t18_2] ∧ w.heap.size ≤ c18_ ∧ t21 = ⟨c21_, 0, none⟩ ∧ Blt w_ c21_ 35 #[Value.bool t21_0, t21_1.v, Value.int .i64 t21_2] ∧ w.heap.size ≤ c21_ ∧ t22 = ⟨c22_, 0, none⟩ ∧ Blt w_ c22_ 35 #[Value.bool t22_0, t22_1.v, Value.int .i64 t22_2] ∧ w.heap.size ≤ c22_ ∧ t23 = ⟨c23_, 0, none⟩ ∧ Blt w_ c23_ 35 #[Value.bool t23_0, t23_1.v, Value.int .i64 t23_2] ∧ w.heap.size ≤ c23_ ∧ t24 = ⟨c24_, 0, none⟩ ∧ Blt w_ c24_ 35 #[Value.bool t24_0, t24_1.v, Value.int .i64 t24_2] ∧ w.heap.size ≤ c24_ ∧ t25 = ⟨c25_, 0, none⟩ ∧ Blt w_ c25_ 35 #[Value.bool t25_0, t25_1.v, Value.int .i64 t25_2] ∧ w.heap.size ≤ c25_ ∧ t27 = ⟨c27_, 0, none⟩ ∧ Blt w_ c27_ 35 #[Value.bool t27_0, t27_1.v, Value.int .i64 t27_2] ∧ w.heap.size ≤ c27_ ∧ c8_ ≠ c10_ ∧ c8_ ≠ c12_ ∧ c8_ ≠ c16_ ∧ c8_ ≠ c18_ ∧ c8_ ≠ c21_ ∧ c8_ ≠ c22_ ∧ c8_ ≠ c23_ ∧ c8_ ≠ c24_ ∧ c8_ ≠ c25_ ∧ c8_ ≠ c27_ ∧ c10_ ≠ c12_ ∧ c10_ ≠ c16_ ∧ c10_ ≠ c18_ ∧ c10_ ≠ c21_ ∧ c10_ ≠ c22_ ∧ c10_ ≠ c23_ ∧ c10_ ≠ c24_ ∧ c10_ ≠ c25_ ∧ c10_ ≠ c27_ ∧ c12_ ≠ c16_ ∧ c12_ ≠ c18_ ∧ c12_ ≠ c21_ ∧ c12_ ≠ c22_ ∧ c12_ ≠ c23_ ∧ c12_ ≠ c24_ ∧ c12_ ≠ c25_ ∧ c12_ ≠ c27_ ∧ c16_ ≠ c18_ ∧ c16_ ≠ c21_ ∧ c16_ ≠ c22_ ∧ c16_ ≠ c23_ ∧ c16_ ≠ c24_ ∧ c16_ ≠ c25_ ∧ c16_ ≠ c27_ ∧ c18_ ≠ c21_ ∧ c18_ ≠ c22_ ∧ c18_ ≠ c23_ ∧ c18_ ≠ c24_ ∧ c18_ ≠ c25_ ∧ c18_ ≠ c27_ ∧ c21_ ≠ c22_ ∧ c21_ ≠ c23_ ∧ c21_ ≠ c24_ ∧ c21_ ≠ c25_ ∧ c21_ ≠ c27_ ∧ c22_ ≠ c23_ ∧ c22_ ≠ c24_ ∧ c22_ ≠ c25_ ∧ c22_ ≠ c27_ ∧ c23_ ≠ c24_ ∧ c23_ ≠ c25_ ∧ c23_ ≠ c27_ ∧ c24_ ≠ c25_ ∧ c24_ ≠ c27_ ∧ c25_ ≠ c27_ ∧ Ahead w w_ ∧ K25 t1 t7 t26 t28 t8_0 t8_1 t8_2 t10_0 t10_1 t10_2 t12_0 t12_1 t12_2 t16_0 t16_1 t16_2 t18_0 t18_1 t18_2 t21_0 t21_1 t21_2 t22_0 t22_1 t22_2 t23_0 t23_1 t23_2 t24_0 t24_1 t24_2 t25_0 t25_1 t25_2 t27_0 t27_1 t27_2 w_) (fun t1 t8 t10 t12 t16 t18 t21 t22 t25 t26 t27 t28 w_ => ∃ c8_ : Nat, ∃ c10_ : Nat, ∃ c12_ : Nat, ∃ c16_ : Nat, ∃ c18_ : Nat, ∃ c21_ : Nat, ∃ c22_ : Nat, ∃ c25_ : Nat, ∃ c27_ : Nat, ∃ t8_0 : Bool, ∃ t8_1 : Slc, ∃ t8_2 : Int, ∃ t10_0 : Bool, ∃ t10_1 : Slc, ∃ t10_2 : Int, ∃ t12_0 : Bool, ∃ t12_1 : Slc, ∃ t12_2 : Int, ∃ t16_0 : Bool, ∃ t16_1 : Slc, ∃ t16_2 : Int, ∃ t18_0 : Bool, ∃ t18_1 : Slc, ∃ t18_2 : Int, ∃ t21_0 : Bool, ∃ t21_1 : Slc, ∃ t21_2 : Int, ∃ t22_0 : Bool, ∃ t22_1 : Slc, ∃ t22_2 : Int, ∃ t25_0 : Bool, ∃ t25_1 : Slc, ∃ t25_2 : Int, ∃ t27_0 : Bool, ∃ t27_1 : Slc, ∃ t27_2 : Int, t8 = ⟨c8_, 0, none⟩ ∧ Blt w_ c8_ 29 #[Value.bool t8_0, t8_1.v, Value.int .i64 t8_2] ∧ w.heap.size ≤ c8_ ∧ t10 = ⟨c10_, 0, none⟩ ∧ Blt w_ c10_ 29 #[Value.bool t10_0, t10_1.v, Value.int .i64 t10_2] ∧ w.heap.size ≤ c10_ ∧ t12 = ⟨c12_, 0, none⟩ ∧ Blt w_ c12_ 29 #[Value.bool t12_0, t12_1.v, Value.int .i64 t12_2] ∧ w.heap.size ≤ c12_ ∧ t16 = ⟨c16_, 0, none⟩ ∧ Blt w_ c16_ 29 #[Value.bool t16_0, t16_1.v, Value.int .i64 t16_2] ∧ w.heap.size ≤ c16_ ∧ t18 = ⟨c18_, 0, none⟩ ∧ Blt w_ c18_ 29 #[Value.bool t18_0, t18_1.v, Value.int .i64 t18_2] ∧ w.heap.size ≤ c18_ ∧ t21 = ⟨c21_, 0, none⟩ ∧ Blt w_ c21_ 35 #[Value.bool t21_0, t21_1.v, Value.int .i64 t21_2] ∧ w.heap.size ≤ c21_ ∧ t22 = ⟨c22_, 0, none⟩ ∧ Blt w_ c22_ 35 #[Value.bool t22_0, t22_1.v, Value.int .i64 t22_2] ∧ w.heap.size ≤ c22_ ∧ t25 = ⟨c25_, 0, none⟩ ∧ Blt w_ c25_ 35 #[Value.bool t25_0, t25_1.v, Value.int .i64 t25_2] ∧ w.heap.size ≤ c25_ ∧ t27 = ⟨c27_, 0, none⟩ ∧ Blt w_ c27_ 35 #[Value.bool t27_0, t27_1.v, Value.int .i64 t27_2] ∧ w.heap.size ≤ c27_ ∧ c8_ ≠ c10_ ∧ c8_ ≠ c12_ ∧ c8_ ≠ c16_ ∧ c8_ ≠ c18_ ∧ c8_ ≠ c21_ ∧ c8_ ≠ c22_ ∧ c8_ ≠ c25_ ∧ c8_ ≠ c27_ ∧ c10_ ≠ c12_ ∧ c10_ ≠ c16_ ∧ c10_ ≠ c18_ ∧ c10_ ≠ c21_ ∧ c10_ ≠ c22_ ∧ c10_ ≠ c25_ ∧ c10_ ≠ c27_ ∧ c12_ ≠ c16_ ∧ c12_ ≠ c18_ ∧ c12_ ≠ c21_ ∧ c12_ ≠ c22_ ∧ c12_ ≠ c25_ ∧ c12_ ≠ c27_ ∧ c16_ ≠ c18_ ∧ c16_ ≠ c21_ ∧ c16_ ≠ c22_ ∧ c16_ ≠ c25_ ∧ c16_ ≠ c27_ ∧ c18_ ≠ c21_ ∧ c18_ ≠ c22_ ∧ c18_ ≠ c25_ ∧ c18_ ≠ c27_ ∧ c21_ ≠ c22_ ∧ c21_ ≠ c25_ ∧ c21_ ≠ c27_ ∧ c22_ ≠ c25_ ∧ c22_ ≠ c27_ ∧ c25_ ≠ c27_ ∧ Ahead w w_ ∧ K27 t1 t26 t28 t8_0 t8_1 t8_2 t10_0 t10_1 t10_2 t12_0 t12_1 t12_2 t16_0 t16_1 t16_2 t18_0 t18_1 t18_2 t21_0 t21_1 t21_2 t22_0 t22_1 t22_2 t25_0 t25_1 t25_2 t27_0 t27_1 t27_2 w_) (fun t1 t8 t10 t12 t16 t18 t21 t22 t25 t27 t181 w_ => ∃ c8_ : Nat, ∃ c10_ : Nat, ∃ c12_ : Nat, ∃ c16_ : Nat, ∃ c18_ : Nat, ∃ c21_ : Nat, ∃ c22_ : Nat, ∃ c25_ : Nat, ∃ c27_ : Nat, ∃ t8_0 : Bool, ∃ t8_1 : Slc, ∃ t8_2 : Int, ∃ t10_0 : Bool, ∃ t10_1 : Slc, ∃ t10_2 : Int, ∃ t12_0 : Bool, ∃ t12_1 : Slc, ∃ t12_2 : Int, ∃ t16_0 : Bool, ∃ t16_1 : Slc, ∃ t16_2 : Int, ∃ t18_0 : Bool, ∃ t18_1 : Slc, ∃ t18_2 : Int, ∃ t21_0 : Bool, ∃ t21_1 : Slc, ∃ t21_2 : Int, ∃ t22_0 : Bool, ∃ t22_1 : Slc, ∃ t22_2 : Int, ∃ t25_0 : Bool, ∃ t25_1 : Slc, ∃ t25_2 : Int, ∃ t27_0 : Bool, ∃ t27_1 : Slc, ∃ t27_2 : Int, t8 = ⟨c8_, 0, none⟩ ∧ Blt w_ c8_ 29 #[Value.bool t8_0, t8_1.v, Value.int .i64 t8_2] ∧ w.heap.size ≤ c8_ ∧ t10 = ⟨c10_, 0, none⟩ ∧ Blt w_ c10_ 29 #[Value.bool t10_0, t10_1.v, Value.int .i64 t10_2] ∧ w.heap.size ≤ c10_ ∧ t12 = ⟨c12_, 0, none⟩ ∧ Blt w_ c12_ 29 #[Value.bool t12_0, t12_1.v, Value.int .i64 t12_2] ∧ w.heap.size ≤ c12_ ∧ t16 = ⟨c16_, 0, none⟩ ∧ Blt w_ c16_ 29 #[Value.bool t16_0, t16_1.v, Value.int .i64 t16_2] ∧ w.heap.size ≤ c16_ ∧ t18 = ⟨c18_, 0, none⟩ ∧ Blt w_ c18_ 29 #[Value.bool t18_0, t18_1.v, Value.int .i64 t18_2] ∧ w.heap.size ≤ c18_ ∧ t21 = ⟨c21_, 0, none⟩ ∧ Blt w_ c21_ 35 #[Value.bool t21_0, t21_1.v, Value.int .i64 t21_2] ∧ w.heap.size ≤ c21_ ∧ t22 = ⟨c22_, 0, none⟩ ∧ Blt w_ c22_ 35 #[Value.bool t22_0, t22_1.v, Value.int .i64 t22_2] ∧ w.heap.size ≤ c22_ ∧ t25 = ⟨c25_, 0, none⟩ ∧ Blt w_ c25_ 35 #[Value.bool t25_0, t25_1.v, Value.int .i64 t25_2] ∧ w.heap.size ≤ c25_ ∧ t27 = ⟨c27_, 0, none⟩ ∧ Blt w_ c27_ 35 #[Value.bool t27_0, t27_1.v, Value.int .i64 t27_2] ∧ w.heap.size ≤ c27_ ∧ c8_ ≠ c10_ ∧ c8_ ≠ c12_ ∧ c8_ ≠ c16_ ∧ c8_ ≠ c18_ ∧ c8_ ≠ c21_ ∧ c8_ ≠ c22_ ∧ c8_ ≠ c25_ ∧ c8_ ≠ c27_ ∧ c10_ ≠ c12_ ∧ c10_ ≠ c16_ ∧ c10_ ≠ c18_ ∧ c10_ ≠ c21_ ∧ c10_ ≠ c22_ ∧ c10_ ≠ c25_ ∧ c10_ ≠ c27_ ∧ c12_ ≠ c16_ ∧ c12_ ≠ c18_ ∧ c12_ ≠ c21_ ∧ c12_ ≠ c22_ ∧ c12_ ≠ c25_ ∧ c12_ ≠ c27_ ∧ c16_ ≠ c18_ ∧ c16_ ≠ c21_ ∧ c16_ ≠ c22_ ∧ c16_ ≠ c25_ ∧ c16_ ≠ c27_ ∧ c18_ ≠ c21_ ∧ c18_ ≠ c22_ ∧ c18_ ≠ c25_ ∧ c18_ ≠ c27_ ∧ c21_ ≠ c22_ ∧ c21_ ≠ c25_ ∧ c21_ ≠ c27_ ∧ c22_ ≠ c25_ ∧ c22_ ≠ c27_ ∧ c25_ ≠ c27_ ∧ Ahead w w_ ∧ K28 t1 t181 t8_0 t8_1 t8_2 t10_0 t10_1 t10_2 t12_0 t12_1 t12_2 t16_0 t16_1 t16_2 t18_0 t18_1 t18_2 t21_0 t21_1 t21_2 t22_0 t22_1 t22_2 t25_0 t25_1 t25_2 t27_0 t27_1 t27_2 w_) (fun t16 t18 t21 t22 w_ => ∃ c16_ : Nat, ∃ c18_ : Nat, ∃ c21_ : Nat, ∃ c22_ : Nat, ∃ t16_0 : Bool, ∃ t16_1 : Slc, ∃ t16_2 : Int, ∃ t18_0 : Bool, ∃ t18_1 : Slc, ∃ t18_2 : Int, ∃ t21_0 : Bool, ∃ t21_1 : Slc, ∃ t21_2 : Int, ∃ t22_0 : Bool, ∃ t22_1 : Slc, ∃ t22_2 : Int, t16 = ⟨c16_, 0, none⟩ ∧ Blt w_ c16_ 29 #[Value.bool t16_0, t16_1.v, Value.int .i64 t16_2] ∧ w.heap.size ≤ c16_ ∧ t18 = ⟨c18_, 0, none⟩ ∧ Blt w_ c18_ 29 #[Value.bool t18_0, t18_1.v, Value.int .i64 t18_2] ∧ w.heap.size ≤ c18_ ∧ t21 = ⟨c21_, 0, none⟩ ∧ Blt w_ c21_ 35 #[Value.bool t21_0, t21_1.v, Value.int .i64 t21_2] ∧ w.heap.size ≤ c21_ ∧ t22 = ⟨c22_, 0, none⟩ ∧ Blt w_ c22_ 35 #[Value.bool t22_0, t22_1.v, Value.int .i64 t22_2] ∧ w.heap.size ≤ c22_ ∧ c16_ ≠ c18_ ∧ c16_ ≠ c21_ ∧ c16_ ≠ c22_ ∧ c18_ ≠ c21_ ∧ c18_ ≠ c22_ ∧ c21_ ≠ c22_ ∧ Ahead w w_ ∧ K31 t16_0 t16_1 t16_2 t18_0 t18_1 t18_2 t21_0 t21_1 t21_2 t22_0 t22_1 t22_2 w_) ?_ ?_ ?_ ?_ ?_ ?_ ?_ ?_ ?_ ?_
  · have A : Ahead w w := Ahead.refl w
    have X : Ext w w := Ext.refl w
    refine newC_t fun bk1 u1 hb1 ha_u1 _ B1 => ?_
    have g1 := le_eq A.size hb1
    obtain ⟨A, X⟩ := axa2 ha_u1 A X
    refine ldB_t 0 B1 rfl ?_
    refine ldS_t 1 B1 rfl ?_
    refine ldI_t 2 B1 rfl ?_
    replace h := h _ X A
    refine Calls.mono h ?_
    clear h
    rintro e1 w2 ⟨b1, s1, x1, he_, ha_w2, h⟩
    refine ⟨b1, s1, x1, he_, ?_⟩
    clear he_
    replace B1 := B1.ahead ha_w2
    obtain ⟨A, X⟩ := axa2 ha_w2 A X
    replace X : Ext w2 w2 := Ext.refl _
    refine newC_t fun bk2 u2 hb2 ha_u2 _ B2 => ?_
    have g2 := le_eq A.size hb2
    have l1_2 := lt1 hb2 B1
    replace B1 := B1.ahead ha_u2
    obtain ⟨A, X⟩ := axa2 ha_u2 A X
    refine st3_t B2 rfl rfl rfl rfl fun u3 k_u3 B2 => ?_
    replace B1 := up1 k_u3 B1
    obtain ⟨A, X⟩ := axu2 k_u3 g2 A X
    refine ldB_t 0 B1 rfl ?_
    refine ldS_t 1 B1 rfl ?_
    refine ldI_t 2 B1 rfl ?_
    replace h := h _ X A
    refine Calls.mono h ?_
    clear h
    rintro e2 w4 ⟨b2, s2, x2, b3, he_, ha_w4, h⟩
    refine ⟨b2, s2, x2, b3, he_, ?_⟩
    clear he_
    obtain ⟨B1, B2⟩ := ah2 ha_w4 B1 B2
    obtain ⟨A, X⟩ := axa2 ha_w4 A X
    replace X : Ext w4 w4 := Ext.refl _
    refine newC_t fun bk3 u4 hb3 ha_u4 _ B3 => ?_
    have g3 := le_eq A.size hb3
    obtain ⟨_, _⟩ := lt2 hb3 B1 B2
    obtain ⟨B1, B2⟩ := ah2 ha_u4 B1 B2
    obtain ⟨A, X⟩ := axa2 ha_u4 A X
    refine st3_t B3 rfl rfl rfl rfl fun u5 k_u5 B3 => ?_
    obtain ⟨B1, B2⟩ := up2 k_u5 B1 B2
    obtain ⟨A, X⟩ := axu2 k_u5 g3 A X
    refine br_map h (fun h_ => ?_) (fun h_ => ?_)
    ·clear h
     have h := h_
     clear h_
     replace h := h _ X A
     refine Calls.mono h ?_
     clear h
     rintro e3 w6 ⟨b4, he_, ha_w6, h⟩
     refine ⟨b4, he_, ?_⟩
     clear he_
     obtain ⟨B1, B2, B3⟩ := ah3 ha_w6 B1 B2 B3
     obtain ⟨A, X⟩ := axa2 ha_w6 A X
     replace X : Ext w6 w6 := Ext.refl _
     exact ⟨A, h⟩
    ·clear h
     have h := h_
     clear h_
     replace h := h _ X A
     refine Calls.mono h ?_
     clear h
     rintro e4 w8 ⟨b5, he_, ha_w8, h⟩
     refine ⟨b5, he_, ?_⟩
     clear he_
     obtain ⟨B1, B2, B3⟩ := ah3 ha_w8 B1 B2 B3
     obtain ⟨A, X⟩ := axa2 ha_w8 A X
     replace X : Ext w8 w8 := Ext.refl _
     refine br_map h (fun h_ => ?_) (fun h_ => ?_)
     ·clear h
      have h := h_
      clear h_
      refine Calls.mono h ?_
      clear h
      rintro e5 w9 ⟨b6, he_, ha_w9, h⟩
      refine ⟨b6, he_, ?_⟩
      clear he_
      obtain ⟨B1, B2, B3⟩ := ah3 ha_w9 B1 B2 B3
      obtain ⟨A, X⟩ := axa2 ha_w9 A X
      replace X : Ext w9 w9 := Ext.refl _
      exact ⟨A, h⟩
     ·clear h
      have h := h_
      clear h_
      refine ldB_t 0 B2 rfl ?_
      refine ldS_t 1 B2 rfl ?_
      refine ldI_t 2 B2 rfl ?_
      refine Calls.mono h ?_
      clear h
      rintro e6 w10 ⟨b7, s3, x3, x4, he_, ha_w10, h⟩
      refine ⟨b7, s3, x3, x4, he_, ?_⟩
      clear he_
      obtain ⟨B1, B2, B3⟩ := ah3 ha_w10 B1 B2 B3
      obtain ⟨A, X⟩ := axa2 ha_w10 A X
      replace X : Ext w10 w10 := Ext.refl _
      refine newC_t fun bk4 u6 hb4 ha_u6 _ B4 => ?_
      have g4 := le_eq A.size hb4
      obtain ⟨_, _, _⟩ := lt3 hb4 B1 B2 B3
      obtain ⟨B1, B2, B3⟩ := ah3 ha_u6 B1 B2 B3
      obtain ⟨A, X⟩ := axa2 ha_u6 A X
      refine st3_t B4 rfl rfl rfl rfl fun u7 k_u7 B4 => ?_
      obtain ⟨B1, B2, B3⟩ := up3 k_u7 B1 B2 B3
      obtain ⟨A, X⟩ := axu2 k_u7 g4 A X
      refine ldB_t 0 B2 rfl ?_
      refine ldS_t 1 B2 rfl ?_
      refine ldI_t 2 B2 rfl ?_
      replace h := h _ X A
      refine Calls.mono h ?_
      clear h
      rintro e7 w12 ⟨b8, s4, x5, x6, he_, ha_w12, h⟩
      refine ⟨b8, s4, x5, x6, he_, ?_⟩
      clear he_
      obtain ⟨B1, B2, B3, B4⟩ := ah4 ha_w12 B1 B2 B3 B4
      obtain ⟨A, X⟩ := axa2 ha_w12 A X
      replace X : Ext w12 w12 := Ext.refl _
      refine newC_t fun bk5 u8 hb5 ha_u8 _ B5 => ?_
      have g5 := le_eq A.size hb5
      obtain ⟨_, _, _, _⟩ := lt4 hb5 B1 B2 B3 B4
      obtain ⟨B1, B2, B3, B4⟩ := ah4 ha_u8 B1 B2 B3 B4
      obtain ⟨A, X⟩ := axa2 ha_u8 A X
      refine st3_t B5 rfl rfl rfl rfl fun u9 k_u9 B5 => ?_
      obtain ⟨B1, B2, B3, B4⟩ := up4 k_u9 B1 B2 B3 B4
      obtain ⟨A, X⟩ := axu2 k_u9 g5 A X
      refine ldB_t 0 B2 rfl ?_
      refine ldS_t 1 B2 rfl ?_
      refine ldI_t 2 B2 rfl ?_
      replace h := h _ X A
      refine Calls.mono h ?_
      clear h
      rintro e8 w14 ⟨b9, s5, x7, x8, he_, ha_w14, h⟩
      refine ⟨b9, s5, x7, x8, he_, ?_⟩
      clear he_
      obtain ⟨B1, B2, B3, B4, B5⟩ := ah5 ha_w14 B1 B2 B3 B4 B5
      obtain ⟨A, X⟩ := axa2 ha_w14 A X
      replace X : Ext w14 w14 := Ext.refl _
      refine newC_t fun bk6 u10 hb6 ha_u10 _ B6 => ?_
      have g6 := le_eq A.size hb6
      obtain ⟨_, _, _, _, _⟩ := lt5 hb6 B1 B2 B3 B4 B5
      obtain ⟨B1, B2, B3, B4, B5⟩ := ah5 ha_u10 B1 B2 B3 B4 B5
      obtain ⟨A, X⟩ := axa2 ha_u10 A X
      refine st3_t B6 rfl rfl rfl rfl fun u11 k_u11 B6 => ?_
      obtain ⟨B1, B2, B3, B4, B5⟩ := up5 k_u11 B1 B2 B3 B4 B5
      obtain ⟨A, X⟩ := axu2 k_u11 g6 A X
      refine ldB_t 0 B2 rfl ?_
      refine ldS_t 1 B2 rfl ?_
      refine ldI_t 2 B2 rfl ?_
      replace h := h _ X A
      refine Calls.mono h ?_
      clear h
      rintro e9 w16 ⟨b10, s6, x9, x10, he_, ha_w16, h⟩
      refine ⟨b10, s6, x9, x10, he_, ?_⟩
      clear he_
      obtain ⟨B1, B2, B3, B4, B5, B6⟩ := ah6 ha_w16 B1 B2 B3 B4 B5 B6
      obtain ⟨A, X⟩ := axa2 ha_w16 A X
      replace X : Ext w16 w16 := Ext.refl _
      refine newC_t fun bk7 u12 hb7 ha_u12 _ B7 => ?_
      have g7 := le_eq A.size hb7
      obtain ⟨_, _, _, _, _, _⟩ := lt6 hb7 B1 B2 B3 B4 B5 B6
      obtain ⟨B1, B2, B3, B4, B5, B6⟩ := ah6 ha_u12 B1 B2 B3 B4 B5 B6
      obtain ⟨A, X⟩ := axa2 ha_u12 A X
      refine st3_t B7 rfl rfl rfl rfl fun u13 k_u13 B7 => ?_
      obtain ⟨B1, B2, B3, B4, B5, B6⟩ := up6 k_u13 B1 B2 B3 B4 B5 B6
      obtain ⟨A, X⟩ := axu2 k_u13 g7 A X
      replace h := h _ X A
      refine newC_map h fun ad1 w18 ha_w18 h_ => ?_
      clear h
      have h := h_
      clear h_
      obtain ⟨B1, B2, B3, B4, B5, B6, B7⟩ := ah7 ha_w18 B1 B2 B3 B4 B5 B6 B7
      obtain ⟨A, X⟩ := axa2 ha_w18 A X
      replace X : Ext w18 w18 := Ext.refl _
      refine Calls.mono h ?_
      clear h
      rintro e10 w19 ⟨b11, he_, ha_w19, h⟩
      refine ⟨b11, he_, ?_⟩
      clear he_
      obtain ⟨B1, B2, B3, B4, B5, B6, B7⟩ := ah7 ha_w19 B1 B2 B3 B4 B5 B6 B7
      obtain ⟨A, X⟩ := axa2 ha_w19 A X
      replace X : Ext w19 w19 := Ext.refl _
      refine br_map h (fun h_ => ?_) (fun h_ => ?_)
      ·clear h
       have h := h_
       clear h_
       refine Calls.mono h ?_
       clear h
       rintro e11 w20 ⟨b12, he_, ha_w20, h⟩
       refine ⟨b12, he_, ?_⟩
       clear he_
       obtain ⟨B1, B2, B3, B4, B5, B6, B7⟩ := ah7 ha_w20 B1 B2 B3 B4 B5 B6 B7
       obtain ⟨A, X⟩ := axa2 ha_w20 A X
       replace X : Ext w20 w20 := Ext.refl _
       exact ⟨A, h⟩
      ·clear h
       have h := h_
       clear h_
       refine ldB_t 0 B7 rfl ?_
       refine ldS_t 1 B7 rfl ?_
       refine ldI_t 2 B7 rfl ?_
       refine Calls.mono h ?_
       clear h
       rintro e12 w21 ⟨b13, s7, x11, x12, he_, ha_w21, h⟩
       refine ⟨b13, s7, x11, x12, he_, ?_⟩
       clear he_
       obtain ⟨B1, B2, B3, B4, B5, B6, B7⟩ := ah7 ha_w21 B1 B2 B3 B4 B5 B6 B7
       obtain ⟨A, X⟩ := axa2 ha_w21 A X
       replace X : Ext w21 w21 := Ext.refl _
       refine newC_t fun bk8 u14 hb8 ha_u14 _ B8 => ?_
       have g8 := le_eq A.size hb8
       obtain ⟨_, _, _, _, _, _, _⟩ := lt7 hb8 B1 B2 B3 B4 B5 B6 B7
       obtain ⟨B1, B2, B3, B4, B5, B6, B7⟩ := ah7 ha_u14 B1 B2 B3 B4 B5 B6 B7
       obtain ⟨A, X⟩ := axa2 ha_u14 A X
       refine st3_t B8 rfl rfl rfl rfl fun u15 k_u15 B8 => ?_
       obtain ⟨B1, B2, B3, B4, B5, B6, B7⟩ := up7 k_u15 B1 B2 B3 B4 B5 B6 B7
       obtain ⟨A, X⟩ := axu2 k_u15 g8 A X
       refine ldB_t 0 B7 rfl ?_
       refine ldS_t 1 B7 rfl ?_
       refine ldI_t 2 B7 rfl ?_
       replace h := h _ X A
       refine Calls.mono h ?_
       clear h
       rintro e13 w23 ⟨b14, s8, x13, x14, he_, ha_w23, h⟩
       refine ⟨b14, s8, x13, x14, he_, ?_⟩
       clear he_
       obtain ⟨B1, B2, B3, B4, B5, B6, B7, B8⟩ := ah8 ha_w23 B1 B2 B3 B4 B5 B6 B7 B8
       obtain ⟨A, X⟩ := axa2 ha_w23 A X
       replace X : Ext w23 w23 := Ext.refl _
       refine newC_t fun bk9 u16 hb9 ha_u16 _ B9 => ?_
       have g9 := le_eq A.size hb9
       obtain ⟨_, _, _, _, _, _, _, _⟩ := lt8 hb9 B1 B2 B3 B4 B5 B6 B7 B8
       obtain ⟨B1, B2, B3, B4, B5, B6, B7, B8⟩ := ah8 ha_u16 B1 B2 B3 B4 B5 B6 B7 B8
       obtain ⟨A, X⟩ := axa2 ha_u16 A X
       refine st3_t B9 rfl rfl rfl rfl fun u17 k_u17 B9 => ?_
       obtain ⟨B1, B2, B3, B4, B5, B6, B7, B8⟩ := up8 k_u17 B1 B2 B3 B4 B5 B6 B7 B8
       obtain ⟨A, X⟩ := axu2 k_u17 g9 A X
       replace h := h _ X A
       refine newC_map h fun ad2 w25 ha_w25 h_ => ?_
       clear h
       have h := h_
       clear h_
       obtain ⟨B1, B2, B3, B4, B5, B6, B7, B8⟩ := ah8 ha_w25 B1 B2 B3 B4 B5 B6 B7 B8
       replace B9 := B9.ahead ha_w25
       obtain ⟨A, X⟩ := axa2 ha_w25 A X
       replace X : Ext w25 w25 := Ext.refl _
       refine Calls.mono h ?_
       clear h
       rintro e14 w26 ⟨b15, he_, ha_w26, h⟩
       refine ⟨b15, he_, ?_⟩
       clear he_
       obtain ⟨B1, B2, B3, B4, B5, B6, B7, B8⟩ := ah8 ha_w26 B1 B2 B3 B4 B5 B6 B7 B8
       replace B9 := B9.ahead ha_w26
       obtain ⟨A, X⟩ := axa2 ha_w26 A X
       replace X : Ext w26 w26 := Ext.refl _
       refine br_map h (fun h_ => ?_) (fun h_ => ?_)
       ·clear h
        have h := h_
        clear h_
        exact ⟨A, h⟩
       ·clear h
        have h := h_
        clear h_
        refine ⟨bk3, bk4, bk5, bk6, bk8, bk9, b2, s2, x2, b7, s3, x3, b8, s4, x5, b9, s5, x7, b13, s7, x11, b14, s8, x13, rfl, B3, g3, rfl, B4, g4, rfl, B5, g5, rfl, B6, g6, rfl, B8, g8, rfl, B9, g9, ?_⟩
        iterate 15 refine nd ?_
        exact ⟨A, h⟩
  · clear h
    intro t1 t6 t8 t10 t12 t16 t18 w_
    refine exE fun bk3 => exE fun bk4 => exE fun bk5 => exE fun bk6 => exE fun bk8 => exE fun bk9 => exE fun t6_0 => exE fun t6_1 => exE fun t6_2 => exE fun t8_0 => exE fun t8_1 => exE fun t8_2 => exE fun t10_0 => exE fun t10_1 => exE fun t10_2 => exE fun t12_0 => exE fun t12_1 => exE fun t12_2 => exE fun t16_0 => exE fun t16_1 => exE fun t16_2 => exE fun t18_0 => exE fun t18_1 => exE fun t18_2 => anE fun e_0 => anE fun B3 => anE fun g3 => anE fun e_1 => anE fun B4 => anE fun g4 => anE fun e_2 => anE fun B5 => anE fun g5 => anE fun e_3 => anE fun B6 => anE fun g6 => anE fun e_4 => anE fun B8 => anE fun g8 => anE fun e_5 => anE fun B9 => anE fun g9 => anE fun n3_4 => anE fun n3_5 => anE fun n3_6 => anE fun n3_8 => anE fun n3_9 => anE fun n4_5 => anE fun n4_6 => anE fun n4_8 => anE fun n4_9 => anE fun n5_6 => anE fun n5_8 => anE fun n5_9 => anE fun n6_8 => anE fun n6_9 => anE fun n8_9 => anE fun A => fun hJ3000016 => ?_
    subst e_0
    subst e_1
    subst e_2
    subst e_3
    subst e_4
    subst e_5
    unfold surdlaw08_DyadicNear_t16
    have h := h3000016  t1 t6_0 t6_1 t6_2 t8_0 t8_1 t8_2 t10_0 t10_1 t10_2 t12_0 t12_1 t12_2 t16_0 t16_1 t16_2 t18_0 t18_1 t18_2 w_ A hJ3000016
    have X : Ext w_ w_ := Ext.refl _
    have hd_ := Sp.Ahead.drew w_
    obtain ⟨B3, B4, B5, B6, B8, B9⟩ := ah6 hd_ B3 B4 B5 B6 B8 B9
    obtain ⟨A, X⟩ := axa2 hd_ A X
    clear hd_
    have z3 := B3.lt
    have z4 := B4.lt
    have z5 := B5.lt
    have z6 := B6.lt
    have z8 := B8.lt
    have z9 := B9.lt
    have Z_ := A.size
    refine ldB_t 0 B4 rfl ?_
    refine ldS_t 1 B4 rfl ?_
    refine ldI_t 2 B4 rfl ?_
    refine ldB_t 0 B5 rfl ?_
    refine ldS_t 1 B5 rfl ?_
    refine ldI_t 2 B5 rfl ?_
    refine ldB_t 0 B6 rfl ?_
    refine ldS_t 1 B6 rfl ?_
    refine ldI_t 2 B6 rfl ?_
    intro v1 ha_v1
    obtain ⟨B3, B4, B5, B6, B8, B9⟩ := ah6 ha_v1 B3 B4 B5 B6 B8 B9
    obtain ⟨A, X⟩ := axa2 ha_v1 A X
    clear ha_v1
    replace h := h _ X A
    refine Calls.mono h ?_
    clear h
    rintro e15 w28 ⟨b16, s9, x15, he_, ha_w28, h⟩
    refine ⟨b16, s9, x15, he_, ?_⟩
    clear he_
    obtain ⟨B3, B4, B5, B6, B8, B9⟩ := ah6 ha_w28 B3 B4 B5 B6 B8 B9
    obtain ⟨A, X⟩ := axa2 ha_w28 A X
    replace X : Ext w28 w28 := Ext.refl _
    refine ⟨ha_w28, ?_⟩
    intro v2 ha_v2
    obtain ⟨B3, B4, B5, B6, B8, B9⟩ := ah6 ha_v2 B3 B4 B5 B6 B8 B9
    obtain ⟨A, X⟩ := axa2 ha_v2 A X
    clear ha_v2
    replace h := h _ X A
    refine Calls.mono h ?_
    clear h
    rintro e16 w30 ⟨b17, s10, x16, he_, ha_w30, h⟩
    refine ⟨b17, s10, x16, he_, ?_⟩
    clear he_
    obtain ⟨B3, B4, B5, B6, B8, B9⟩ := ah6 ha_w30 B3 B4 B5 B6 B8 B9
    obtain ⟨A, X⟩ := axa2 ha_w30 A X
    replace X : Ext w30 w30 := Ext.refl _
    refine ⟨ha_w30, ?_⟩
    intro v3 ha_v3
    obtain ⟨B3, B4, B5, B6, B8, B9⟩ := ah6 ha_v3 B3 B4 B5 B6 B8 B9
    obtain ⟨A, X⟩ := axa2 ha_v3 A X
    clear ha_v3
    replace h := h _ X A
    refine Calls.mono h ?_
    clear h
    rintro e17 w32 ⟨b18, s11, x17, he_, ha_w32, h⟩
    refine ⟨b18, s11, x17, he_, ?_⟩
    clear he_
    obtain ⟨B3, B4, B5, B6, B8, B9⟩ := ah6 ha_w32 B3 B4 B5 B6 B8 B9
    obtain ⟨A, X⟩ := axa2 ha_w32 A X
    replace X : Ext w32 w32 := Ext.refl _
    refine ⟨ha_w32, ?_⟩
    intro v4 ha_v4
    obtain ⟨B3, B4, B5, B6, B8, B9⟩ := ah6 ha_v4 B3 B4 B5 B6 B8 B9
    obtain ⟨A, X⟩ := axa2 ha_v4 A X
    clear ha_v4
    intro bk10 hN10
    have B10 : Blt v4 bk10 35 #[Value.bool false, (⟨none, 0, 0⟩ : Slc).v, Value.int .i64 0] := hN10.2.2
    have g10 := Nat.le_trans Z_ hN10.1
    have q3_10 := Nat.lt_of_lt_of_le z3 hN10.1
    have q4_10 := Nat.lt_of_lt_of_le z4 hN10.1
    have q5_10 := Nat.lt_of_lt_of_le z5 hN10.1
    have q6_10 := Nat.lt_of_lt_of_le z6 hN10.1
    have q8_10 := Nat.lt_of_lt_of_le z8 hN10.1
    have q9_10 := Nat.lt_of_lt_of_le z9 hN10.1
    intro bk11 hN11
    have B11 : Blt v4 bk11 35 #[Value.bool false, (⟨none, 0, 0⟩ : Slc).v, Value.int .i64 0] := hN11.2.2
    have g11 := Nat.le_trans Z_ hN11.1
    have q3_11 := Nat.lt_of_lt_of_le z3 hN11.1
    have q4_11 := Nat.lt_of_lt_of_le z4 hN11.1
    have q5_11 := Nat.lt_of_lt_of_le z5 hN11.1
    have q6_11 := Nat.lt_of_lt_of_le z6 hN11.1
    have q8_11 := Nat.lt_of_lt_of_le z8 hN11.1
    have q9_11 := Nat.lt_of_lt_of_le z9 hN11.1
    have q10_11 := hN11.2.1 bk10 (by simp)
    intro bk12 hN12
    have B12 : Blt v4 bk12 35 #[Value.bool false, (⟨none, 0, 0⟩ : Slc).v, Value.int .i64 0] := hN12.2.2
    have g12 := Nat.le_trans Z_ hN12.1
    have q3_12 := Nat.lt_of_lt_of_le z3 hN12.1
    have q4_12 := Nat.lt_of_lt_of_le z4 hN12.1
    have q5_12 := Nat.lt_of_lt_of_le z5 hN12.1
    have q6_12 := Nat.lt_of_lt_of_le z6 hN12.1
    have q8_12 := Nat.lt_of_lt_of_le z8 hN12.1
    have q9_12 := Nat.lt_of_lt_of_le z9 hN12.1
    have q10_12 := hN12.2.1 bk10 (by simp)
    have q11_12 := hN12.2.1 bk11 (by simp)
    refine st3_t B10 rfl rfl rfl rfl fun u18 k_u18 B10 => ?_
    obtain ⟨B3, B4, B5, B6, B8, B9, B11, B12⟩ := up8 k_u18 B3 B4 B5 B6 B8 B9 B11 B12
    obtain ⟨A, X⟩ := axu2 k_u18 g10 A X
    refine st3_t B11 rfl rfl rfl rfl fun u19 k_u19 B11 => ?_
    obtain ⟨B3, B4, B5, B6, B8, B9, B10, B12⟩ := up8 k_u19 B3 B4 B5 B6 B8 B9 B10 B12
    obtain ⟨A, X⟩ := axu2 k_u19 g11 A X
    refine st3_t B12 rfl rfl rfl rfl fun u20 k_u20 B12 => ?_
    obtain ⟨B3, B4, B5, B6, B8, B9, B10, B11⟩ := up8 k_u20 B3 B4 B5 B6 B8 B9 B10 B11
    obtain ⟨A, X⟩ := axu2 k_u20 g12 A X
    replace h := h _ X A
    refine ⟨bk3, bk4, bk5, bk6, bk8, bk9, bk10, bk11, bk12, t6_0, t6_1, t6_2, t8_0, t8_1, t8_2, t10_0, t10_1, t10_2, t12_0, t12_1, t12_2, t16_0, t16_1, t16_2, t18_0, t18_1, t18_2, b16, s9, x15, b17, s10, x16, b18, s11, x17, rfl, B3, g3, rfl, B4, g4, rfl, B5, g5, rfl, B6, g6, rfl, B8, g8, rfl, B9, g9, rfl, B10, g10, rfl, B11, g11, rfl, B12, g12, ?_⟩
    iterate 36 refine nd ?_
    exact ⟨A, h⟩
  · clear h
    intro t1 t6 t8 t10 t12 t16 t18 t20 t21 t22 w_
    refine exE fun bk3 => exE fun bk4 => exE fun bk5 => exE fun bk6 => exE fun bk8 => exE fun bk9 => exE fun bk10 => exE fun bk11 => exE fun bk12 => exE fun t6_0 => exE fun t6_1 => exE fun t6_2 => exE fun t8_0 => exE fun t8_1 => exE fun t8_2 => exE fun t10_0 => exE fun t10_1 => exE fun t10_2 => exE fun t12_0 => exE fun t12_1 => exE fun t12_2 => exE fun t16_0 => exE fun t16_1 => exE fun t16_2 => exE fun t18_0 => exE fun t18_1 => exE fun t18_2 => exE fun t20_0 => exE fun t20_1 => exE fun t20_2 => exE fun t21_0 => exE fun t21_1 => exE fun t21_2 => exE fun t22_0 => exE fun t22_1 => exE fun t22_2 => anE fun e_0 => anE fun B3 => anE fun g3 => anE fun e_1 => anE fun B4 => anE fun g4 => anE fun e_2 => anE fun B5 => anE fun g5 => anE fun e_3 => anE fun B6 => anE fun g6 => anE fun e_4 => anE fun B8 => anE fun g8 => anE fun e_5 => anE fun B9 => anE fun g9 => anE fun e_6 => anE fun B10 => anE fun g10 => anE fun e_7 => anE fun B11 => anE fun g11 => anE fun e_8 => anE fun B12 => anE fun g12 => anE fun n3_4 => anE fun n3_5 => anE fun n3_6 => anE fun n3_8 => anE fun n3_9 => anE fun n3_10 => anE fun n3_11 => anE fun n3_12 => anE fun n4_5 => anE fun n4_6 => anE fun n4_8 => anE fun n4_9 => anE fun n4_10 => anE fun n4_11 => anE fun n4_12 => anE fun n5_6 => anE fun n5_8 => anE fun n5_9 => anE fun n5_10 => anE fun n5_11 => anE fun n5_12 => anE fun n6_8 => anE fun n6_9 => anE fun n6_10 => anE fun n6_11 => anE fun n6_12 => anE fun n8_9 => anE fun n8_10 => anE fun n8_11 => anE fun n8_12 => anE fun n9_10 => anE fun n9_11 => anE fun n9_12 => anE fun n10_11 => anE fun n10_12 => anE fun n11_12 => anE fun A => fun hJ3000017 => ?_
    subst e_0
    subst e_1
    subst e_2
    subst e_3
    subst e_4
    subst e_5
    subst e_6
    subst e_7
    subst e_8
    unfold surdlaw08_DyadicNear_t17
    have h := h3000017  t1 t6_0 t6_1 t6_2 t8_0 t8_1 t8_2 t10_0 t10_1 t10_2 t12_0 t12_1 t12_2 t16_0 t16_1 t16_2 t18_0 t18_1 t18_2 t20_0 t20_1 t20_2 t21_0 t21_1 t21_2 t22_0 t22_1 t22_2 w_ A hJ3000017
    have X : Ext w_ w_ := Ext.refl _
    refine ldB_t 0 B10 rfl ?_
    refine ldS_t 1 B10 rfl ?_
    refine ldI_t 2 B10 rfl ?_
    refine ldB_t 0 B3 rfl ?_
    refine ldS_t 1 B3 rfl ?_
    refine ldI_t 2 B3 rfl ?_
    refine Calls.mono h ?_
    clear h
    rintro e18 w33 ⟨x18, he_, ha_w33, h⟩
    refine ⟨x18, he_, ?_⟩
    clear he_
    obtain ⟨B3, B4, B5, B6, B8, B9, B10, B11⟩ := ah8 ha_w33 B3 B4 B5 B6 B8 B9 B10 B11
    replace B12 := B12.ahead ha_w33
    obtain ⟨A, X⟩ := axa2 ha_w33 A X
    replace X : Ext w33 w33 := Ext.refl _
    refine br_map h (fun h_ => ?_) (fun h_ => ?_)
    ·clear h
     have h := h_
     clear h_
     exact ⟨A, h⟩
    ·clear h
     have h := h_
     clear h_
     refine ldB_t 0 B11 rfl ?_
     refine ldS_t 1 B11 rfl ?_
     refine ldI_t 2 B11 rfl ?_
     refine ldB_t 0 B3 rfl ?_
     refine ldS_t 1 B3 rfl ?_
     refine ldI_t 2 B3 rfl ?_
     refine Calls.mono h ?_
     clear h
     rintro e19 w34 ⟨x19, he_, ha_w34, h⟩
     refine ⟨x19, he_, ?_⟩
     clear he_
     obtain ⟨B3, B4, B5, B6, B8, B9, B10, B11⟩ := ah8 ha_w34 B3 B4 B5 B6 B8 B9 B10 B11
     replace B12 := B12.ahead ha_w34
     obtain ⟨A, X⟩ := axa2 ha_w34 A X
     replace X : Ext w34 w34 := Ext.refl _
     refine br_map h (fun h_ => ?_) (fun h_ => ?_)
     ·clear h
      have h := h_
      clear h_
      exact ⟨A, h⟩
     ·clear h
      have h := h_
      clear h_
      refine ldB_t 0 B6 rfl ?_
      refine ldS_t 1 B6 rfl ?_
      refine ldI_t 2 B6 rfl ?_
      refine ldB_t 0 B4 rfl ?_
      refine ldS_t 1 B4 rfl ?_
      refine ldI_t 2 B4 rfl ?_
      refine Calls.mono h ?_
      clear h
      rintro e20 w35 ⟨b19, he_, ha_w35, h⟩
      refine ⟨b19, he_, ?_⟩
      clear he_
      obtain ⟨B3, B4, B5, B6, B8, B9, B10, B11⟩ := ah8 ha_w35 B3 B4 B5 B6 B8 B9 B10 B11
      replace B12 := B12.ahead ha_w35
      obtain ⟨A, X⟩ := axa2 ha_w35 A X
      replace X : Ext w35 w35 := Ext.refl _
      refine br_map h (fun h_ => ?_) (fun h_ => ?_)
      ·clear h
       have h := h_
       clear h_
       refine ldB_t 0 B6 rfl ?_
       refine ldS_t 1 B6 rfl ?_
       refine ldI_t 2 B6 rfl ?_
       refine ldB_t 0 B5 rfl ?_
       refine ldS_t 1 B5 rfl ?_
       refine ldI_t 2 B5 rfl ?_
       refine Calls.mono h ?_
       clear h
       rintro e21 w36 ⟨b20, he_, ha_w36, h⟩
       refine ⟨b20, he_, ?_⟩
       clear he_
       obtain ⟨B3, B4, B5, B6, B8, B9, B10, B11⟩ := ah8 ha_w36 B3 B4 B5 B6 B8 B9 B10 B11
       replace B12 := B12.ahead ha_w36
       obtain ⟨A, X⟩ := axa2 ha_w36 A X
       replace X : Ext w36 w36 := Ext.refl _
       refine br_map h (fun h_ => ?_) (fun h_ => ?_)
       ·clear h
        have h := h_
        clear h_
        exact ⟨A, h⟩
       ·clear h
        have h := h_
        clear h_
        refine ldB_t 0 B10 rfl ?_
        refine ldS_t 1 B10 rfl ?_
        refine ldI_t 2 B10 rfl ?_
        refine Calls.mono h ?_
        clear h
        rintro e22 w37 ⟨b21, he_, ha_w37, h⟩
        refine ⟨b21, he_, ?_⟩
        clear he_
        obtain ⟨B3, B4, B5, B6, B8, B9, B10, B11⟩ := ah8 ha_w37 B3 B4 B5 B6 B8 B9 B10 B11
        replace B12 := B12.ahead ha_w37
        obtain ⟨A, X⟩ := axa2 ha_w37 A X
        replace X : Ext w37 w37 := Ext.refl _
        refine br_map h (fun h_ => ?_) (fun h_ => ?_)
        ·clear h
         have h := h_
         clear h_
         exact ⟨A, h⟩
        ·clear h
         have h := h_
         clear h_
         refine ldB_t 0 B11 rfl ?_
         refine ldS_t 1 B11 rfl ?_
         refine ldI_t 2 B11 rfl ?_
         refine Calls.mono h ?_
         clear h
         rintro e23 w38 ⟨b22, he_, ha_w38, h⟩
         refine ⟨b22, he_, ?_⟩
         clear he_
         obtain ⟨B3, B4, B5, B6, B8, B9, B10, B11⟩ := ah8 ha_w38 B3 B4 B5 B6 B8 B9 B10 B11
         replace B12 := B12.ahead ha_w38
         obtain ⟨A, X⟩ := axa2 ha_w38 A X
         replace X : Ext w38 w38 := Ext.refl _
         refine br_map h (fun h_ => ?_) (fun h_ => ?_)
         ·clear h
          have h := h_
          clear h_
          exact ⟨A, h⟩
         ·clear h
          have h := h_
          clear h_
          refine ⟨bk3, bk4, bk5, bk6, bk8, bk9, bk10, bk11, bk12, t6_0, t6_1, t6_2, t8_0, t8_1, t8_2, t10_0, t10_1, t10_2, t12_0, t12_1, t12_2, t16_0, t16_1, t16_2, t18_0, t18_1, t18_2, t20_0, t20_1, t20_2, t21_0, t21_1, t21_2, t22_0, t22_1, t22_2, rfl, B3, g3, rfl, B4, g4, rfl, B5, g5, rfl, B6, g6, rfl, B8, g8, rfl, B9, g9, rfl, B10, g10, rfl, B11, g11, rfl, B12, g12, ?_⟩
          iterate 36 refine nd ?_
          exact ⟨A, h⟩
      ·clear h
       have h := h_
       clear h_
       refine ldB_t 0 B10 rfl ?_
       refine ldS_t 1 B10 rfl ?_
       refine ldI_t 2 B10 rfl ?_
       refine Calls.mono h ?_
       clear h
       rintro e60 w100 ⟨b63, he_, ha_w100, h⟩
       refine ⟨b63, he_, ?_⟩
       clear he_
       obtain ⟨B3, B4, B5, B6, B8, B9, B10, B11⟩ := ah8 ha_w100 B3 B4 B5 B6 B8 B9 B10 B11
       replace B12 := B12.ahead ha_w100
       obtain ⟨A, X⟩ := axa2 ha_w100 A X
       replace X : Ext w100 w100 := Ext.refl _
       refine br_map h (fun h_ => ?_) (fun h_ => ?_)
       ·clear h
        have h := h_
        clear h_
        exact ⟨A, h⟩
       ·clear h
        have h := h_
        clear h_
        refine ldB_t 0 B11 rfl ?_
        refine ldS_t 1 B11 rfl ?_
        refine ldI_t 2 B11 rfl ?_
        refine Calls.mono h ?_
        clear h
        rintro e61 w101 ⟨b64, he_, ha_w101, h⟩
        refine ⟨b64, he_, ?_⟩
        clear he_
        obtain ⟨B3, B4, B5, B6, B8, B9, B10, B11⟩ := ah8 ha_w101 B3 B4 B5 B6 B8 B9 B10 B11
        replace B12 := B12.ahead ha_w101
        obtain ⟨A, X⟩ := axa2 ha_w101 A X
        replace X : Ext w101 w101 := Ext.refl _
        refine br_map h (fun h_ => ?_) (fun h_ => ?_)
        ·clear h
         have h := h_
         clear h_
         exact ⟨A, h⟩
        ·clear h
         have h := h_
         clear h_
         refine ⟨bk3, bk4, bk5, bk6, bk8, bk9, bk10, bk11, bk12, t6_0, t6_1, t6_2, t8_0, t8_1, t8_2, t10_0, t10_1, t10_2, t12_0, t12_1, t12_2, t16_0, t16_1, t16_2, t18_0, t18_1, t18_2, t20_0, t20_1, t20_2, t21_0, t21_1, t21_2, t22_0, t22_1, t22_2, rfl, B3, g3, rfl, B4, g4, rfl, B5, g5, rfl, B6, g6, rfl, B8, g8, rfl, B9, g9, rfl, B10, g10, rfl, B11, g11, rfl, B12, g12, ?_⟩
         iterate 36 refine nd ?_
         exact ⟨A, h⟩
  · clear h
    intro t1 t6 t8 t10 t12 t16 t18 t20 t21 t22 w_
    refine exE fun bk3 => exE fun bk4 => exE fun bk5 => exE fun bk6 => exE fun bk8 => exE fun bk9 => exE fun bk10 => exE fun bk11 => exE fun bk12 => exE fun t6_0 => exE fun t6_1 => exE fun t6_2 => exE fun t8_0 => exE fun t8_1 => exE fun t8_2 => exE fun t10_0 => exE fun t10_1 => exE fun t10_2 => exE fun t12_0 => exE fun t12_1 => exE fun t12_2 => exE fun t16_0 => exE fun t16_1 => exE fun t16_2 => exE fun t18_0 => exE fun t18_1 => exE fun t18_2 => exE fun t20_0 => exE fun t20_1 => exE fun t20_2 => exE fun t21_0 => exE fun t21_1 => exE fun t21_2 => exE fun t22_0 => exE fun t22_1 => exE fun t22_2 => anE fun e_0 => anE fun B3 => anE fun g3 => anE fun e_1 => anE fun B4 => anE fun g4 => anE fun e_2 => anE fun B5 => anE fun g5 => anE fun e_3 => anE fun B6 => anE fun g6 => anE fun e_4 => anE fun B8 => anE fun g8 => anE fun e_5 => anE fun B9 => anE fun g9 => anE fun e_6 => anE fun B10 => anE fun g10 => anE fun e_7 => anE fun B11 => anE fun g11 => anE fun e_8 => anE fun B12 => anE fun g12 => anE fun n3_4 => anE fun n3_5 => anE fun n3_6 => anE fun n3_8 => anE fun n3_9 => anE fun n3_10 => anE fun n3_11 => anE fun n3_12 => anE fun n4_5 => anE fun n4_6 => anE fun n4_8 => anE fun n4_9 => anE fun n4_10 => anE fun n4_11 => anE fun n4_12 => anE fun n5_6 => anE fun n5_8 => anE fun n5_9 => anE fun n5_10 => anE fun n5_11 => anE fun n5_12 => anE fun n6_8 => anE fun n6_9 => anE fun n6_10 => anE fun n6_11 => anE fun n6_12 => anE fun n8_9 => anE fun n8_10 => anE fun n8_11 => anE fun n8_12 => anE fun n9_10 => anE fun n9_11 => anE fun n9_12 => anE fun n10_11 => anE fun n10_12 => anE fun n11_12 => anE fun A => fun hJ3000019 => ?_
    subst e_0
    subst e_1
    subst e_2
    subst e_3
    subst e_4
    subst e_5
    subst e_6
    subst e_7
    subst e_8
    have h := h3000019  t1 t6_0 t6_1 t6_2 t8_0 t8_1 t8_2 t10_0 t10_1 t10_2 t12_0 t12_1 t12_2 t16_0 t16_1 t16_2 t18_0 t18_1 t18_2 t20_0 t20_1 t20_2 t21_0 t21_1 t21_2 t22_0 t22_1 t22_2 w_ A hJ3000019
    have X : Ext w_ w_ := Ext.refl _
    refine ldB_t 0 B3 rfl ?_
    refine ldS_t 1 B3 rfl ?_
    refine ldI_t 2 B3 rfl ?_
    refine Calls.mono h ?_
    clear h
    rintro e24 w39 ⟨b23, he_, ha_w39, h⟩
    refine ⟨b23, he_, ?_⟩
    clear he_
    obtain ⟨B3, B4, B5, B6, B8, B9, B10, B11⟩ := ah8 ha_w39 B3 B4 B5 B6 B8 B9 B10 B11
    replace B12 := B12.ahead ha_w39
    obtain ⟨A, X⟩ := axa2 ha_w39 A X
    replace X : Ext w39 w39 := Ext.refl _
    refine br_map h (fun h_ => ?_) (fun h_ => ?_)
    ·clear h
     have h := h_
     clear h_
     refine ldB_t 0 B4 rfl ?_
     refine ldS_t 1 B4 rfl ?_
     refine ldI_t 2 B4 rfl ?_
     refine ldB_t 0 B5 rfl ?_
     refine ldS_t 1 B5 rfl ?_
     refine ldI_t 2 B5 rfl ?_
     refine Calls.mono h ?_
     clear h
     rintro e25 w40 ⟨b24, he_, ha_w40, h⟩
     refine ⟨b24, he_, ?_⟩
     clear he_
     obtain ⟨B3, B4, B5, B6, B8, B9, B10, B11⟩ := ah8 ha_w40 B3 B4 B5 B6 B8 B9 B10 B11
     replace B12 := B12.ahead ha_w40
     obtain ⟨A, X⟩ := axa2 ha_w40 A X
     replace X : Ext w40 w40 := Ext.refl _
     refine br_map h (fun h_ => ?_) (fun h_ => ?_)
     ·clear h
      have h := h_
      clear h_
      refine ldB_t 0 B10 rfl ?_
      refine ldS_t 1 B10 rfl ?_
      refine ldI_t 2 B10 rfl ?_
      refine ldB_t 0 B3 rfl ?_
      refine ldS_t 1 B3 rfl ?_
      refine ldI_t 2 B3 rfl ?_
      refine Calls.mono h ?_
      clear h
      rintro e26 w41 ⟨x20, he_, ha_w41, h⟩
      refine ⟨x20, he_, ?_⟩
      clear he_
      obtain ⟨B3, B4, B5, B6, B8, B9, B10, B11⟩ := ah8 ha_w41 B3 B4 B5 B6 B8 B9 B10 B11
      replace B12 := B12.ahead ha_w41
      obtain ⟨A, X⟩ := axa2 ha_w41 A X
      replace X : Ext w41 w41 := Ext.refl _
      refine br_map h (fun h_ => ?_) (fun h_ => ?_)
      ·clear h
       have h := h_
       clear h_
       refine Calls.mono h ?_
       clear h
       rintro e27 w42 ⟨b25, he_, ha_w42, h⟩
       refine ⟨b25, he_, ?_⟩
       clear he_
       obtain ⟨B3, B4, B5, B6, B8, B9, B10, B11⟩ := ah8 ha_w42 B3 B4 B5 B6 B8 B9 B10 B11
       replace B12 := B12.ahead ha_w42
       obtain ⟨A, X⟩ := axa2 ha_w42 A X
       replace X : Ext w42 w42 := Ext.refl _
       exact ⟨A, h⟩
      ·clear h
       have h := h_
       clear h_
       exact ⟨A, h⟩
     ·clear h
      have h := h_
      clear h_
      exact ⟨A, h⟩
    ·clear h
     have h := h_
     clear h_
     refine Calls.mono h ?_
     clear h
     rintro e28 w43 ⟨b26, s12, x21, he_, ha_w43, h⟩
     refine ⟨b26, s12, x21, he_, ?_⟩
     clear he_
     obtain ⟨B3, B4, B5, B6, B8, B9, B10, B11⟩ := ah8 ha_w43 B3 B4 B5 B6 B8 B9 B10 B11
     replace B12 := B12.ahead ha_w43
     obtain ⟨A, X⟩ := axa2 ha_w43 A X
     replace X : Ext w43 w43 := Ext.refl _
     refine newC_t fun bk13 u21 hb13 ha_u21 _ B13 => ?_
     have g13 := le_eq A.size hb13
     obtain ⟨_, _, _, _, _, _, _, _⟩ := lt8 hb13 B3 B4 B5 B6 B8 B9 B10 B11
     have l12_13 := lt1 hb13 B12
     obtain ⟨B3, B4, B5, B6, B8, B9, B10, B11⟩ := ah8 ha_u21 B3 B4 B5 B6 B8 B9 B10 B11
     replace B12 := B12.ahead ha_u21
     obtain ⟨A, X⟩ := axa2 ha_u21 A X
     refine st3_t B13 rfl rfl rfl rfl fun u22 k_u22 B13 => ?_
     obtain ⟨B3, B4, B5, B6, B8, B9, B10, B11⟩ := up8 k_u22 B3 B4 B5 B6 B8 B9 B10 B11
     replace B12 := up1 k_u22 B12
     obtain ⟨A, X⟩ := axu2 k_u22 g13 A X
     have hd_ := Sp.Ahead.drew u22
     obtain ⟨B3, B4, B5, B6, B8, B9, B10, B11⟩ := ah8 hd_ B3 B4 B5 B6 B8 B9 B10 B11
     obtain ⟨B12, B13⟩ := ah2 hd_ B12 B13
     obtain ⟨A, X⟩ := axa2 hd_ A X
     clear hd_
     have z3 := B3.lt
     have z4 := B4.lt
     have z5 := B5.lt
     have z6 := B6.lt
     have z8 := B8.lt
     have z9 := B9.lt
     have z10 := B10.lt
     have z11 := B11.lt
     have z12 := B12.lt
     have z13 := B13.lt
     let V_ : Nat → Nat → Prop := fun (q_ k : Nat) => (k < 0 ∨ u22.drew.heap.size ≤ k) ∧ 0 ≤ k
     refine ⟨V_, ?_⟩
     have Y_ : u22.drew.heap.size ≤ u22.drew.heap.size := Nat.le_refl _
     refine out_t (b := bk11) (i := 0) (by first | rfl | exact Sp.add_off) (fun hv_ => (by replace hv_ : _ ∧ _ := hv_; omega)) ?_
     refine ldB_t 0 B11 rfl ?_
     refine ldS_t 1 B11 rfl ?_
     refine ldI_t 2 B11 rfl ?_
     refine out_t (b := bk10) (i := 0) (by first | rfl | exact Sp.add_off) (fun hv_ => (by replace hv_ : _ ∧ _ := hv_; omega)) ?_
     refine ldB_t 0 B10 rfl ?_
     refine ldS_t 1 B10 rfl ?_
     refine ldI_t 2 B10 rfl ?_
     refine ⟨?_, ?_⟩
     ·replace h := h _ X A
      refine Calls.mono h ?_
      clear h
      rintro e29 w45 ⟨b27, s13, x22, he_, ha_w45, h⟩
      refine ⟨b27, s13, x22, he_, ?_⟩
      clear he_
      obtain ⟨B3, B4, B5, B6, B8, B9, B10, B11⟩ := ah8 ha_w45 B3 B4 B5 B6 B8 B9 B10 B11
      obtain ⟨B12, B13⟩ := ah2 ha_w45 B12 B13
      obtain ⟨A, X, Y_⟩ := axa3 ha_w45 A X Y_
      replace X : Ext w45 w45 := Ext.refl _
      refine ⟨(Bar.of_ahead ha_w45), ?_⟩
      refine ⟨?_, ?_⟩
      ·replace h := h _ X A
       refine Calls.mono h ?_
       clear h
       rintro e30 w47 ⟨b28, s14, x23, b29, he_, ha_w47, h⟩
       refine ⟨b28, s14, x23, b29, he_, ?_⟩
       clear he_
       obtain ⟨B3, B4, B5, B6, B8, B9, B10, B11⟩ := ah8 ha_w47 B3 B4 B5 B6 B8 B9 B10 B11
       obtain ⟨B12, B13⟩ := ah2 ha_w47 B12 B13
       obtain ⟨A, X, Y_⟩ := axa3 ha_w47 A X Y_
       replace X : Ext w47 w47 := Ext.refl _
       refine newC_t fun bk14 u23 hb14 ha_u23 _ B14 => ?_
       have g14 := le_eq A.size hb14
       obtain ⟨_, _, _, _, _, _, _, _⟩ := lt8 hb14 B3 B4 B5 B6 B8 B9 B10 B11
       obtain ⟨_, _⟩ := lt2 hb14 B12 B13
       have y14 := le_eq Y_ hb14
       obtain ⟨B3, B4, B5, B6, B8, B9, B10, B11⟩ := ah8 ha_u23 B3 B4 B5 B6 B8 B9 B10 B11
       obtain ⟨B12, B13⟩ := ah2 ha_u23 B12 B13
       obtain ⟨A, X, Y_⟩ := axa3 ha_u23 A X Y_
       refine bb2 ha_u23 ?_
       refine st3_t B14 rfl rfl rfl rfl fun u24 k_u24 B14 => ?_
       obtain ⟨B3, B4, B5, B6, B8, B9, B10, B11⟩ := up8 k_u24 B3 B4 B5 B6 B8 B9 B10 B11
       obtain ⟨B12, B13⟩ := up2 k_u24 B12 B13
       obtain ⟨A, X, Y_⟩ := axu3 k_u24 g14 A X Y_
       replace h := h _ X A
       refine ⟨bk3, bk4, bk5, bk6, bk8, bk9, bk10, bk11, bk12, bk13, bk14, t6_0, t6_1, t6_2, t8_0, t8_1, t8_2, t10_0, t10_1, t10_2, t12_0, t12_1, t12_2, t16_0, t16_1, t16_2, t18_0, t18_1, t18_2, t20_0, t20_1, t20_2, t21_0, t21_1, t21_2, t22_0, t22_1, t22_2, b26, s12, x21, b28, s14, x23, rfl, B3, g3, rfl, B4, g4, rfl, B5, g5, rfl, B6, g6, rfl, B8, g8, rfl, B9, g9, rfl, B10, g10, rfl, B11, g11, rfl, B12, g12, rfl, B13, g13, rfl, B14, g14, ?_⟩
       iterate 55 refine nd ?_
       exact ⟨A, h⟩
      ·refine newC_t fun bk21 u37 hb21 ha_u37 _ B21 => ?_
       have g21 := le_eq A.size hb21
       obtain ⟨_, _, _, _, _, _, _, _⟩ := lt8 hb21 B3 B4 B5 B6 B8 B9 B10 B11
       obtain ⟨_, _⟩ := lt2 hb21 B12 B13
       have y21 := le_eq Y_ hb21
       obtain ⟨B3, B4, B5, B6, B8, B9, B10, B11⟩ := ah8 ha_u37 B3 B4 B5 B6 B8 B9 B10 B11
       obtain ⟨B12, B13⟩ := ah2 ha_u37 B12 B13
       obtain ⟨A, X, Y_⟩ := axa3 ha_u37 A X Y_
       refine bb2 ha_u37 ?_
       replace h := h _ X A
       refine Calls.mono h ?_
       clear h
       rintro e57 w93 ⟨b58, s29, x42, b59, he_, ha_w93, h⟩
       refine ⟨b58, s29, x42, b59, he_, ?_⟩
       clear he_
       obtain ⟨B3, B4, B5, B6, B8, B9, B10, B11⟩ := ah8 ha_w93 B3 B4 B5 B6 B8 B9 B10 B11
       obtain ⟨B12, B13, B21⟩ := ah3 ha_w93 B12 B13 B21
       obtain ⟨A, X, Y_⟩ := axa3 ha_w93 A X Y_
       replace X : Ext w93 w93 := Ext.refl _
       refine st3_t B21 rfl rfl rfl rfl fun u38 k_u38 B21 => ?_
       obtain ⟨B3, B4, B5, B6, B8, B9, B10, B11⟩ := up8 k_u38 B3 B4 B5 B6 B8 B9 B10 B11
       obtain ⟨B12, B13⟩ := up2 k_u38 B12 B13
       obtain ⟨A, X, Y_⟩ := axu3 k_u38 g21 A X Y_
       replace h := h _ X A
       refine ⟨bk3, bk4, bk5, bk6, bk8, bk9, bk10, bk11, bk12, bk13, bk21, t6_0, t6_1, t6_2, t8_0, t8_1, t8_2, t10_0, t10_1, t10_2, t12_0, t12_1, t12_2, t16_0, t16_1, t16_2, t18_0, t18_1, t18_2, t20_0, t20_1, t20_2, t21_0, t21_1, t21_2, t22_0, t22_1, t22_2, b26, s12, x21, b58, s29, x42, rfl, B3, g3, rfl, B4, g4, rfl, B5, g5, rfl, B6, g6, rfl, B8, g8, rfl, B9, g9, rfl, B10, g10, rfl, B11, g11, rfl, B12, g12, rfl, B13, g13, rfl, B21, g21, ?_⟩
       iterate 55 refine nd ?_
       exact ⟨A, h⟩
     ·refine newC_t fun bk22 u39 hb22 ha_u39 _ B22 => ?_
      have g22 := le_eq A.size hb22
      obtain ⟨_, _, _, _, _, _, _, _⟩ := lt8 hb22 B3 B4 B5 B6 B8 B9 B10 B11
      obtain ⟨_, _⟩ := lt2 hb22 B12 B13
      have y22 := le_eq Y_ hb22
      obtain ⟨B3, B4, B5, B6, B8, B9, B10, B11⟩ := ah8 ha_u39 B3 B4 B5 B6 B8 B9 B10 B11
      obtain ⟨B12, B13⟩ := ah2 ha_u39 B12 B13
      obtain ⟨A, X, Y_⟩ := axa3 ha_u39 A X Y_
      refine bb2 ha_u39 ?_
      replace h := h _ X A
      refine Calls.mono h ?_
      clear h
      rintro e58 w96 ⟨b60, s30, x43, he_, ha_w96, h⟩
      refine ⟨b60, s30, x43, he_, ?_⟩
      clear he_
      obtain ⟨B3, B4, B5, B6, B8, B9, B10, B11⟩ := ah8 ha_w96 B3 B4 B5 B6 B8 B9 B10 B11
      obtain ⟨B12, B13, B22⟩ := ah3 ha_w96 B12 B13 B22
      obtain ⟨A, X, Y_⟩ := axa3 ha_w96 A X Y_
      replace X : Ext w96 w96 := Ext.refl _
      refine ⟨(Bar.of_ahead ha_w96), ?_⟩
      replace h := h _ X A
      refine Calls.mono h ?_
      clear h
      rintro e59 w98 ⟨b61, s31, x44, b62, he_, ha_w98, h⟩
      refine ⟨b61, s31, x44, b62, he_, ?_⟩
      clear he_
      obtain ⟨B3, B4, B5, B6, B8, B9, B10, B11⟩ := ah8 ha_w98 B3 B4 B5 B6 B8 B9 B10 B11
      obtain ⟨B12, B13, B22⟩ := ah3 ha_w98 B12 B13 B22
      obtain ⟨A, X, Y_⟩ := axa3 ha_w98 A X Y_
      replace X : Ext w98 w98 := Ext.refl _
      refine st3_t B22 rfl rfl rfl rfl fun u40 k_u40 B22 => ?_
      obtain ⟨B3, B4, B5, B6, B8, B9, B10, B11⟩ := up8 k_u40 B3 B4 B5 B6 B8 B9 B10 B11
      obtain ⟨B12, B13⟩ := up2 k_u40 B12 B13
      obtain ⟨A, X, Y_⟩ := axu3 k_u40 g22 A X Y_
      replace h := h _ X A
      refine ⟨bk3, bk4, bk5, bk6, bk8, bk9, bk10, bk11, bk12, bk13, bk22, t6_0, t6_1, t6_2, t8_0, t8_1, t8_2, t10_0, t10_1, t10_2, t12_0, t12_1, t12_2, t16_0, t16_1, t16_2, t18_0, t18_1, t18_2, t20_0, t20_1, t20_2, t21_0, t21_1, t21_2, t22_0, t22_1, t22_2, b26, s12, x21, b61, s31, x44, rfl, B3, g3, rfl, B4, g4, rfl, B5, g5, rfl, B6, g6, rfl, B8, g8, rfl, B9, g9, rfl, B10, g10, rfl, B11, g11, rfl, B12, g12, rfl, B13, g13, rfl, B22, g22, ?_⟩
      iterate 55 refine nd ?_
      exact ⟨A, h⟩
  · clear h
    intro t1 t6 t7 t8 t10 t12 t16 t18 t20 t21 t22 t23 t24 w_
    refine exE fun bk3 => exE fun bk4 => exE fun bk5 => exE fun bk6 => exE fun bk8 => exE fun bk9 => exE fun bk10 => exE fun bk11 => exE fun bk12 => exE fun bk13 => exE fun bk14 => exE fun t6_0 => exE fun t6_1 => exE fun t6_2 => exE fun t8_0 => exE fun t8_1 => exE fun t8_2 => exE fun t10_0 => exE fun t10_1 => exE fun t10_2 => exE fun t12_0 => exE fun t12_1 => exE fun t12_2 => exE fun t16_0 => exE fun t16_1 => exE fun t16_2 => exE fun t18_0 => exE fun t18_1 => exE fun t18_2 => exE fun t20_0 => exE fun t20_1 => exE fun t20_2 => exE fun t21_0 => exE fun t21_1 => exE fun t21_2 => exE fun t22_0 => exE fun t22_1 => exE fun t22_2 => exE fun t23_0 => exE fun t23_1 => exE fun t23_2 => exE fun t24_0 => exE fun t24_1 => exE fun t24_2 => anE fun e_0 => anE fun B3 => anE fun g3 => anE fun e_1 => anE fun B4 => anE fun g4 => anE fun e_2 => anE fun B5 => anE fun g5 => anE fun e_3 => anE fun B6 => anE fun g6 => anE fun e_4 => anE fun B8 => anE fun g8 => anE fun e_5 => anE fun B9 => anE fun g9 => anE fun e_6 => anE fun B10 => anE fun g10 => anE fun e_7 => anE fun B11 => anE fun g11 => anE fun e_8 => anE fun B12 => anE fun g12 => anE fun e_9 => anE fun B13 => anE fun g13 => anE fun e_10 => anE fun B14 => anE fun g14 => anE fun n3_4 => anE fun n3_5 => anE fun n3_6 => anE fun n3_8 => anE fun n3_9 => anE fun n3_10 => anE fun n3_11 => anE fun n3_12 => anE fun n3_13 => anE fun n3_14 => anE fun n4_5 => anE fun n4_6 => anE fun n4_8 => anE fun n4_9 => anE fun n4_10 => anE fun n4_11 => anE fun n4_12 => anE fun n4_13 => anE fun n4_14 => anE fun n5_6 => anE fun n5_8 => anE fun n5_9 => anE fun n5_10 => anE fun n5_11 => anE fun n5_12 => anE fun n5_13 => anE fun n5_14 => anE fun n6_8 => anE fun n6_9 => anE fun n6_10 => anE fun n6_11 => anE fun n6_12 => anE fun n6_13 => anE fun n6_14 => anE fun n8_9 => anE fun n8_10 => anE fun n8_11 => anE fun n8_12 => anE fun n8_13 => anE fun n8_14 => anE fun n9_10 => anE fun n9_11 => anE fun n9_12 => anE fun n9_13 => anE fun n9_14 => anE fun n10_11 => anE fun n10_12 => anE fun n10_13 => anE fun n10_14 => anE fun n11_12 => anE fun n11_13 => anE fun n11_14 => anE fun n12_13 => anE fun n12_14 => anE fun n13_14 => anE fun A => fun hJ3000023 => ?_
    subst e_0
    subst e_1
    subst e_2
    subst e_3
    subst e_4
    subst e_5
    subst e_6
    subst e_7
    subst e_8
    subst e_9
    subst e_10
    have h := h3000023  t1 t7 t6_0 t6_1 t6_2 t8_0 t8_1 t8_2 t10_0 t10_1 t10_2 t12_0 t12_1 t12_2 t16_0 t16_1 t16_2 t18_0 t18_1 t18_2 t20_0 t20_1 t20_2 t21_0 t21_1 t21_2 t22_0 t22_1 t22_2 t23_0 t23_1 t23_2 t24_0 t24_1 t24_2 w_ A hJ3000023
    have X : Ext w_ w_ := Ext.refl _
    have hd_ := Sp.Ahead.drew w_
    obtain ⟨B3, B4, B5, B6, B8, B9, B10, B11⟩ := ah8 hd_ B3 B4 B5 B6 B8 B9 B10 B11
    obtain ⟨B12, B13, B14⟩ := ah3 hd_ B12 B13 B14
    obtain ⟨A, X⟩ := axa2 hd_ A X
    clear hd_
    have z3 := B3.lt
    have z4 := B4.lt
    have z5 := B5.lt
    have z6 := B6.lt
    have z8 := B8.lt
    have z9 := B9.lt
    have z10 := B10.lt
    have z11 := B11.lt
    have z12 := B12.lt
    have z13 := B13.lt
    have z14 := B14.lt
    let V_ : Nat → Nat → Prop := fun (q_ k : Nat) => (k < 0 ∨ w_.drew.heap.size ≤ k) ∧ 0 ≤ k
    refine ⟨V_, ?_⟩
    have Y_ : w_.drew.heap.size ≤ w_.drew.heap.size := Nat.le_refl _
    refine out_t (b := bk3) (i := 0) (by first | rfl | exact Sp.add_off) (fun hv_ => (by replace hv_ : _ ∧ _ := hv_; omega)) ?_
    refine ldB_t 0 B3 rfl ?_
    refine ldS_t 1 B3 rfl ?_
    refine ldI_t 2 B3 rfl ?_
    refine out_t (b := bk10) (i := 0) (by first | rfl | exact Sp.add_off) (fun hv_ => (by replace hv_ : _ ∧ _ := hv_; omega)) ?_
    refine ldB_t 0 B10 rfl ?_
    refine ldS_t 1 B10 rfl ?_
    refine ldI_t 2 B10 rfl ?_
    refine ⟨?_, ?_⟩
    ·replace h := h _ X A
     refine Calls.mono h ?_
     clear h
     rintro e31 w49 ⟨b30, s15, x24, he_, ha_w49, h⟩
     refine ⟨b30, s15, x24, he_, ?_⟩
     clear he_
     obtain ⟨B3, B4, B5, B6, B8, B9, B10, B11⟩ := ah8 ha_w49 B3 B4 B5 B6 B8 B9 B10 B11
     obtain ⟨B12, B13, B14⟩ := ah3 ha_w49 B12 B13 B14
     obtain ⟨A, X, Y_⟩ := axa3 ha_w49 A X Y_
     replace X : Ext w49 w49 := Ext.refl _
     refine ⟨(Bar.of_ahead ha_w49), ?_⟩
     refine ⟨?_, ?_⟩
     ·replace h := h _ X A
      refine Calls.mono h ?_
      clear h
      rintro e32 w51 ⟨b31, s16, x25, b32, he_, ha_w51, h⟩
      refine ⟨b31, s16, x25, b32, he_, ?_⟩
      clear he_
      obtain ⟨B3, B4, B5, B6, B8, B9, B10, B11⟩ := ah8 ha_w51 B3 B4 B5 B6 B8 B9 B10 B11
      obtain ⟨B12, B13, B14⟩ := ah3 ha_w51 B12 B13 B14
      obtain ⟨A, X, Y_⟩ := axa3 ha_w51 A X Y_
      replace X : Ext w51 w51 := Ext.refl _
      refine newC_t fun bk15 u25 hb15 ha_u25 _ B15 => ?_
      have g15 := le_eq A.size hb15
      obtain ⟨_, _, _, _, _, _, _, _⟩ := lt8 hb15 B3 B4 B5 B6 B8 B9 B10 B11
      obtain ⟨_, _, _⟩ := lt3 hb15 B12 B13 B14
      have y15 := le_eq Y_ hb15
      obtain ⟨B3, B4, B5, B6, B8, B9, B10, B11⟩ := ah8 ha_u25 B3 B4 B5 B6 B8 B9 B10 B11
      obtain ⟨B12, B13, B14⟩ := ah3 ha_u25 B12 B13 B14
      obtain ⟨A, X, Y_⟩ := axa3 ha_u25 A X Y_
      refine bb2 ha_u25 ?_
      refine st3_t B15 rfl rfl rfl rfl fun u26 k_u26 B15 => ?_
      obtain ⟨B3, B4, B5, B6, B8, B9, B10, B11⟩ := up8 k_u26 B3 B4 B5 B6 B8 B9 B10 B11
      obtain ⟨B12, B13, B14⟩ := up3 k_u26 B12 B13 B14
      obtain ⟨A, X, Y_⟩ := axu3 k_u26 g15 A X Y_
      replace h := h _ X A
      refine ⟨bk3, bk4, bk5, bk6, bk8, bk9, bk11, bk12, bk13, bk14, bk15, t6_0, t6_1, t6_2, t8_0, t8_1, t8_2, t10_0, t10_1, t10_2, t12_0, t12_1, t12_2, t16_0, t16_1, t16_2, t18_0, t18_1, t18_2, t21_0, t21_1, t21_2, t22_0, t22_1, t22_2, t23_0, t23_1, t23_2, t24_0, t24_1, t24_2, b31, s16, x25, rfl, B3, g3, rfl, B4, g4, rfl, B5, g5, rfl, B6, g6, rfl, B8, g8, rfl, B9, g9, rfl, B11, g11, rfl, B12, g12, rfl, B13, g13, rfl, B14, g14, rfl, B15, g15, ?_⟩
      iterate 55 refine nd ?_
      exact ⟨A, h⟩
     ·refine newC_t fun bk19 u33 hb19 ha_u33 _ B19 => ?_
      have g19 := le_eq A.size hb19
      obtain ⟨_, _, _, _, _, _, _, _⟩ := lt8 hb19 B3 B4 B5 B6 B8 B9 B10 B11
      obtain ⟨_, _, _⟩ := lt3 hb19 B12 B13 B14
      have y19 := le_eq Y_ hb19
      obtain ⟨B3, B4, B5, B6, B8, B9, B10, B11⟩ := ah8 ha_u33 B3 B4 B5 B6 B8 B9 B10 B11
      obtain ⟨B12, B13, B14⟩ := ah3 ha_u33 B12 B13 B14
      obtain ⟨A, X, Y_⟩ := axa3 ha_u33 A X Y_
      refine bb2 ha_u33 ?_
      replace h := h _ X A
      refine Calls.mono h ?_
      clear h
      rintro e54 w84 ⟨b53, s26, x39, b54, he_, ha_w84, h⟩
      refine ⟨b53, s26, x39, b54, he_, ?_⟩
      clear he_
      obtain ⟨B3, B4, B5, B6, B8, B9, B10, B11⟩ := ah8 ha_w84 B3 B4 B5 B6 B8 B9 B10 B11
      obtain ⟨B12, B13, B14, B19⟩ := ah4 ha_w84 B12 B13 B14 B19
      obtain ⟨A, X, Y_⟩ := axa3 ha_w84 A X Y_
      replace X : Ext w84 w84 := Ext.refl _
      refine st3_t B19 rfl rfl rfl rfl fun u34 k_u34 B19 => ?_
      obtain ⟨B3, B4, B5, B6, B8, B9, B10, B11⟩ := up8 k_u34 B3 B4 B5 B6 B8 B9 B10 B11
      obtain ⟨B12, B13, B14⟩ := up3 k_u34 B12 B13 B14
      obtain ⟨A, X, Y_⟩ := axu3 k_u34 g19 A X Y_
      replace h := h _ X A
      refine ⟨bk3, bk4, bk5, bk6, bk8, bk9, bk11, bk12, bk13, bk14, bk19, t6_0, t6_1, t6_2, t8_0, t8_1, t8_2, t10_0, t10_1, t10_2, t12_0, t12_1, t12_2, t16_0, t16_1, t16_2, t18_0, t18_1, t18_2, t21_0, t21_1, t21_2, t22_0, t22_1, t22_2, t23_0, t23_1, t23_2, t24_0, t24_1, t24_2, b53, s26, x39, rfl, B3, g3, rfl, B4, g4, rfl, B5, g5, rfl, B6, g6, rfl, B8, g8, rfl, B9, g9, rfl, B11, g11, rfl, B12, g12, rfl, B13, g13, rfl, B14, g14, rfl, B19, g19, ?_⟩
      iterate 55 refine nd ?_
      exact ⟨A, h⟩
    ·refine newC_t fun bk20 u35 hb20 ha_u35 _ B20 => ?_
     have g20 := le_eq A.size hb20
     obtain ⟨_, _, _, _, _, _, _, _⟩ := lt8 hb20 B3 B4 B5 B6 B8 B9 B10 B11
     obtain ⟨_, _, _⟩ := lt3 hb20 B12 B13 B14
     have y20 := le_eq Y_ hb20
     obtain ⟨B3, B4, B5, B6, B8, B9, B10, B11⟩ := ah8 ha_u35 B3 B4 B5 B6 B8 B9 B10 B11
     obtain ⟨B12, B13, B14⟩ := ah3 ha_u35 B12 B13 B14
     obtain ⟨A, X, Y_⟩ := axa3 ha_u35 A X Y_
     refine bb2 ha_u35 ?_
     replace h := h _ X A
     refine Calls.mono h ?_
     clear h
     rintro e55 w87 ⟨b55, s27, x40, he_, ha_w87, h⟩
     refine ⟨b55, s27, x40, he_, ?_⟩
     clear he_
     obtain ⟨B3, B4, B5, B6, B8, B9, B10, B11⟩ := ah8 ha_w87 B3 B4 B5 B6 B8 B9 B10 B11
     obtain ⟨B12, B13, B14, B20⟩ := ah4 ha_w87 B12 B13 B14 B20
     obtain ⟨A, X, Y_⟩ := axa3 ha_w87 A X Y_
     replace X : Ext w87 w87 := Ext.refl _
     refine ⟨(Bar.of_ahead ha_w87), ?_⟩
     replace h := h _ X A
     refine Calls.mono h ?_
     clear h
     rintro e56 w89 ⟨b56, s28, x41, b57, he_, ha_w89, h⟩
     refine ⟨b56, s28, x41, b57, he_, ?_⟩
     clear he_
     obtain ⟨B3, B4, B5, B6, B8, B9, B10, B11⟩ := ah8 ha_w89 B3 B4 B5 B6 B8 B9 B10 B11
     obtain ⟨B12, B13, B14, B20⟩ := ah4 ha_w89 B12 B13 B14 B20
     obtain ⟨A, X, Y_⟩ := axa3 ha_w89 A X Y_
     replace X : Ext w89 w89 := Ext.refl _
     refine st3_t B20 rfl rfl rfl rfl fun u36 k_u36 B20 => ?_
     obtain ⟨B3, B4, B5, B6, B8, B9, B10, B11⟩ := up8 k_u36 B3 B4 B5 B6 B8 B9 B10 B11
     obtain ⟨B12, B13, B14⟩ := up3 k_u36 B12 B13 B14
     obtain ⟨A, X, Y_⟩ := axu3 k_u36 g20 A X Y_
     replace h := h _ X A
     refine ⟨bk3, bk4, bk5, bk6, bk8, bk9, bk11, bk12, bk13, bk14, bk20, t6_0, t6_1, t6_2, t8_0, t8_1, t8_2, t10_0, t10_1, t10_2, t12_0, t12_1, t12_2, t16_0, t16_1, t16_2, t18_0, t18_1, t18_2, t21_0, t21_1, t21_2, t22_0, t22_1, t22_2, t23_0, t23_1, t23_2, t24_0, t24_1, t24_2, b56, s28, x41, rfl, B3, g3, rfl, B4, g4, rfl, B5, g5, rfl, B6, g6, rfl, B8, g8, rfl, B9, g9, rfl, B11, g11, rfl, B12, g12, rfl, B13, g13, rfl, B14, g14, rfl, B20, g20, ?_⟩
     iterate 55 refine nd ?_
     exact ⟨A, h⟩
  · clear h
    intro t1 t6 t7 t8 t10 t12 t16 t18 t21 t22 t23 t24 t25 t26 w_
    refine exE fun bk3 => exE fun bk4 => exE fun bk5 => exE fun bk6 => exE fun bk8 => exE fun bk9 => exE fun bk11 => exE fun bk12 => exE fun bk13 => exE fun bk14 => exE fun bk15 => exE fun t6_0 => exE fun t6_1 => exE fun t6_2 => exE fun t8_0 => exE fun t8_1 => exE fun t8_2 => exE fun t10_0 => exE fun t10_1 => exE fun t10_2 => exE fun t12_0 => exE fun t12_1 => exE fun t12_2 => exE fun t16_0 => exE fun t16_1 => exE fun t16_2 => exE fun t18_0 => exE fun t18_1 => exE fun t18_2 => exE fun t21_0 => exE fun t21_1 => exE fun t21_2 => exE fun t22_0 => exE fun t22_1 => exE fun t22_2 => exE fun t23_0 => exE fun t23_1 => exE fun t23_2 => exE fun t24_0 => exE fun t24_1 => exE fun t24_2 => exE fun t25_0 => exE fun t25_1 => exE fun t25_2 => anE fun e_0 => anE fun B3 => anE fun g3 => anE fun e_1 => anE fun B4 => anE fun g4 => anE fun e_2 => anE fun B5 => anE fun g5 => anE fun e_3 => anE fun B6 => anE fun g6 => anE fun e_4 => anE fun B8 => anE fun g8 => anE fun e_5 => anE fun B9 => anE fun g9 => anE fun e_6 => anE fun B11 => anE fun g11 => anE fun e_7 => anE fun B12 => anE fun g12 => anE fun e_8 => anE fun B13 => anE fun g13 => anE fun e_9 => anE fun B14 => anE fun g14 => anE fun e_10 => anE fun B15 => anE fun g15 => anE fun n3_4 => anE fun n3_5 => anE fun n3_6 => anE fun n3_8 => anE fun n3_9 => anE fun n3_11 => anE fun n3_12 => anE fun n3_13 => anE fun n3_14 => anE fun n3_15 => anE fun n4_5 => anE fun n4_6 => anE fun n4_8 => anE fun n4_9 => anE fun n4_11 => anE fun n4_12 => anE fun n4_13 => anE fun n4_14 => anE fun n4_15 => anE fun n5_6 => anE fun n5_8 => anE fun n5_9 => anE fun n5_11 => anE fun n5_12 => anE fun n5_13 => anE fun n5_14 => anE fun n5_15 => anE fun n6_8 => anE fun n6_9 => anE fun n6_11 => anE fun n6_12 => anE fun n6_13 => anE fun n6_14 => anE fun n6_15 => anE fun n8_9 => anE fun n8_11 => anE fun n8_12 => anE fun n8_13 => anE fun n8_14 => anE fun n8_15 => anE fun n9_11 => anE fun n9_12 => anE fun n9_13 => anE fun n9_14 => anE fun n9_15 => anE fun n11_12 => anE fun n11_13 => anE fun n11_14 => anE fun n11_15 => anE fun n12_13 => anE fun n12_14 => anE fun n12_15 => anE fun n13_14 => anE fun n13_15 => anE fun n14_15 => anE fun A => fun hJ3000024 => ?_
    subst e_0
    subst e_1
    subst e_2
    subst e_3
    subst e_4
    subst e_5
    subst e_6
    subst e_7
    subst e_8
    subst e_9
    subst e_10
    have h := h3000024  t1 t7 t26 t6_0 t6_1 t6_2 t8_0 t8_1 t8_2 t10_0 t10_1 t10_2 t12_0 t12_1 t12_2 t16_0 t16_1 t16_2 t18_0 t18_1 t18_2 t21_0 t21_1 t21_2 t22_0 t22_1 t22_2 t23_0 t23_1 t23_2 t24_0 t24_1 t24_2 t25_0 t25_1 t25_2 w_ A hJ3000024
    have X : Ext w_ w_ := Ext.refl _
    have hd_ := Sp.Ahead.drew w_
    obtain ⟨B3, B4, B5, B6, B8, B9, B11, B12⟩ := ah8 hd_ B3 B4 B5 B6 B8 B9 B11 B12
    obtain ⟨B13, B14, B15⟩ := ah3 hd_ B13 B14 B15
    obtain ⟨A, X⟩ := axa2 hd_ A X
    clear hd_
    have z3 := B3.lt
    have z4 := B4.lt
    have z5 := B5.lt
    have z6 := B6.lt
    have z8 := B8.lt
    have z9 := B9.lt
    have z11 := B11.lt
    have z12 := B12.lt
    have z13 := B13.lt
    have z14 := B14.lt
    have z15 := B15.lt
    let V_ : Nat → Nat → Prop := fun (q_ k : Nat) => (k < 0 ∨ w_.drew.heap.size ≤ k) ∧ 0 ≤ k
    refine ⟨V_, ?_⟩
    have Y_ : w_.drew.heap.size ≤ w_.drew.heap.size := Nat.le_refl _
    refine out_t (b := bk11) (i := 0) (by first | rfl | exact Sp.add_off) (fun hv_ => (by replace hv_ : _ ∧ _ := hv_; omega)) ?_
    refine ldB_t 0 B11 rfl ?_
    refine ldS_t 1 B11 rfl ?_
    refine ldI_t 2 B11 rfl ?_
    refine out_t (b := bk3) (i := 0) (by first | rfl | exact Sp.add_off) (fun hv_ => (by replace hv_ : _ ∧ _ := hv_; omega)) ?_
    refine ldB_t 0 B3 rfl ?_
    refine ldS_t 1 B3 rfl ?_
    refine ldI_t 2 B3 rfl ?_
    refine ⟨?_, ?_⟩
    ·replace h := h _ X A
     refine Calls.mono h ?_
     clear h
     rintro e33 w53 ⟨b33, s17, x26, he_, ha_w53, h⟩
     refine ⟨b33, s17, x26, he_, ?_⟩
     clear he_
     obtain ⟨B3, B4, B5, B6, B8, B9, B11, B12⟩ := ah8 ha_w53 B3 B4 B5 B6 B8 B9 B11 B12
     obtain ⟨B13, B14, B15⟩ := ah3 ha_w53 B13 B14 B15
     obtain ⟨A, X, Y_⟩ := axa3 ha_w53 A X Y_
     replace X : Ext w53 w53 := Ext.refl _
     refine ⟨(Bar.of_ahead ha_w53), ?_⟩
     refine ⟨?_, ?_⟩
     ·replace h := h _ X A
      refine Calls.mono h ?_
      clear h
      rintro e34 w55 ⟨b34, s18, x27, b35, he_, ha_w55, h⟩
      refine ⟨b34, s18, x27, b35, he_, ?_⟩
      clear he_
      obtain ⟨B3, B4, B5, B6, B8, B9, B11, B12⟩ := ah8 ha_w55 B3 B4 B5 B6 B8 B9 B11 B12
      obtain ⟨B13, B14, B15⟩ := ah3 ha_w55 B13 B14 B15
      obtain ⟨A, X, Y_⟩ := axa3 ha_w55 A X Y_
      replace X : Ext w55 w55 := Ext.refl _
      refine newC_t fun bk16 u27 hb16 ha_u27 _ B16 => ?_
      have g16 := le_eq A.size hb16
      obtain ⟨_, _, _, _, _, _, _, _⟩ := lt8 hb16 B3 B4 B5 B6 B8 B9 B11 B12
      obtain ⟨_, _, _⟩ := lt3 hb16 B13 B14 B15
      have y16 := le_eq Y_ hb16
      obtain ⟨B3, B4, B5, B6, B8, B9, B11, B12⟩ := ah8 ha_u27 B3 B4 B5 B6 B8 B9 B11 B12
      obtain ⟨B13, B14, B15⟩ := ah3 ha_u27 B13 B14 B15
      obtain ⟨A, X, Y_⟩ := axa3 ha_u27 A X Y_
      refine bb2 ha_u27 ?_
      refine st3_t B16 rfl rfl rfl rfl fun u28 k_u28 B16 => ?_
      obtain ⟨B3, B4, B5, B6, B8, B9, B11, B12⟩ := up8 k_u28 B3 B4 B5 B6 B8 B9 B11 B12
      obtain ⟨B13, B14, B15⟩ := up3 k_u28 B13 B14 B15
      obtain ⟨A, X, Y_⟩ := axu3 k_u28 g16 A X Y_
      replace h := h _ X A
      refine ⟨bk4, bk5, bk6, bk8, bk9, bk11, bk12, bk13, bk14, bk15, bk16, t8_0, t8_1, t8_2, t10_0, t10_1, t10_2, t12_0, t12_1, t12_2, t16_0, t16_1, t16_2, t18_0, t18_1, t18_2, t21_0, t21_1, t21_2, t22_0, t22_1, t22_2, t23_0, t23_1, t23_2, t24_0, t24_1, t24_2, t25_0, t25_1, t25_2, b34, s18, x27, rfl, B4, g4, rfl, B5, g5, rfl, B6, g6, rfl, B8, g8, rfl, B9, g9, rfl, B11, g11, rfl, B12, g12, rfl, B13, g13, rfl, B14, g14, rfl, B15, g15, rfl, B16, g16, ?_⟩
      iterate 55 refine nd ?_
      exact ⟨A, h⟩
     ·refine newC_t fun bk17 u29 hb17 ha_u29 _ B17 => ?_
      have g17 := le_eq A.size hb17
      obtain ⟨_, _, _, _, _, _, _, _⟩ := lt8 hb17 B3 B4 B5 B6 B8 B9 B11 B12
      obtain ⟨_, _, _⟩ := lt3 hb17 B13 B14 B15
      have y17 := le_eq Y_ hb17
      obtain ⟨B3, B4, B5, B6, B8, B9, B11, B12⟩ := ah8 ha_u29 B3 B4 B5 B6 B8 B9 B11 B12
      obtain ⟨B13, B14, B15⟩ := ah3 ha_u29 B13 B14 B15
      obtain ⟨A, X, Y_⟩ := axa3 ha_u29 A X Y_
      refine bb2 ha_u29 ?_
      replace h := h _ X A
      refine Calls.mono h ?_
      clear h
      rintro e51 w75 ⟨b48, s23, x36, b49, he_, ha_w75, h⟩
      refine ⟨b48, s23, x36, b49, he_, ?_⟩
      clear he_
      obtain ⟨B3, B4, B5, B6, B8, B9, B11, B12⟩ := ah8 ha_w75 B3 B4 B5 B6 B8 B9 B11 B12
      obtain ⟨B13, B14, B15, B17⟩ := ah4 ha_w75 B13 B14 B15 B17
      obtain ⟨A, X, Y_⟩ := axa3 ha_w75 A X Y_
      replace X : Ext w75 w75 := Ext.refl _
      refine st3_t B17 rfl rfl rfl rfl fun u30 k_u30 B17 => ?_
      obtain ⟨B3, B4, B5, B6, B8, B9, B11, B12⟩ := up8 k_u30 B3 B4 B5 B6 B8 B9 B11 B12
      obtain ⟨B13, B14, B15⟩ := up3 k_u30 B13 B14 B15
      obtain ⟨A, X, Y_⟩ := axu3 k_u30 g17 A X Y_
      replace h := h _ X A
      refine ⟨bk4, bk5, bk6, bk8, bk9, bk11, bk12, bk13, bk14, bk15, bk17, t8_0, t8_1, t8_2, t10_0, t10_1, t10_2, t12_0, t12_1, t12_2, t16_0, t16_1, t16_2, t18_0, t18_1, t18_2, t21_0, t21_1, t21_2, t22_0, t22_1, t22_2, t23_0, t23_1, t23_2, t24_0, t24_1, t24_2, t25_0, t25_1, t25_2, b48, s23, x36, rfl, B4, g4, rfl, B5, g5, rfl, B6, g6, rfl, B8, g8, rfl, B9, g9, rfl, B11, g11, rfl, B12, g12, rfl, B13, g13, rfl, B14, g14, rfl, B15, g15, rfl, B17, g17, ?_⟩
      iterate 55 refine nd ?_
      exact ⟨A, h⟩
    ·refine newC_t fun bk18 u31 hb18 ha_u31 _ B18 => ?_
     have g18 := le_eq A.size hb18
     obtain ⟨_, _, _, _, _, _, _, _⟩ := lt8 hb18 B3 B4 B5 B6 B8 B9 B11 B12
     obtain ⟨_, _, _⟩ := lt3 hb18 B13 B14 B15
     have y18 := le_eq Y_ hb18
     obtain ⟨B3, B4, B5, B6, B8, B9, B11, B12⟩ := ah8 ha_u31 B3 B4 B5 B6 B8 B9 B11 B12
     obtain ⟨B13, B14, B15⟩ := ah3 ha_u31 B13 B14 B15
     obtain ⟨A, X, Y_⟩ := axa3 ha_u31 A X Y_
     refine bb2 ha_u31 ?_
     replace h := h _ X A
     refine Calls.mono h ?_
     clear h
     rintro e52 w78 ⟨b50, s24, x37, he_, ha_w78, h⟩
     refine ⟨b50, s24, x37, he_, ?_⟩
     clear he_
     obtain ⟨B3, B4, B5, B6, B8, B9, B11, B12⟩ := ah8 ha_w78 B3 B4 B5 B6 B8 B9 B11 B12
     obtain ⟨B13, B14, B15, B18⟩ := ah4 ha_w78 B13 B14 B15 B18
     obtain ⟨A, X, Y_⟩ := axa3 ha_w78 A X Y_
     replace X : Ext w78 w78 := Ext.refl _
     refine ⟨(Bar.of_ahead ha_w78), ?_⟩
     replace h := h _ X A
     refine Calls.mono h ?_
     clear h
     rintro e53 w80 ⟨b51, s25, x38, b52, he_, ha_w80, h⟩
     refine ⟨b51, s25, x38, b52, he_, ?_⟩
     clear he_
     obtain ⟨B3, B4, B5, B6, B8, B9, B11, B12⟩ := ah8 ha_w80 B3 B4 B5 B6 B8 B9 B11 B12
     obtain ⟨B13, B14, B15, B18⟩ := ah4 ha_w80 B13 B14 B15 B18
     obtain ⟨A, X, Y_⟩ := axa3 ha_w80 A X Y_
     replace X : Ext w80 w80 := Ext.refl _
     refine st3_t B18 rfl rfl rfl rfl fun u32 k_u32 B18 => ?_
     obtain ⟨B3, B4, B5, B6, B8, B9, B11, B12⟩ := up8 k_u32 B3 B4 B5 B6 B8 B9 B11 B12
     obtain ⟨B13, B14, B15⟩ := up3 k_u32 B13 B14 B15
     obtain ⟨A, X, Y_⟩ := axu3 k_u32 g18 A X Y_
     replace h := h _ X A
     refine ⟨bk4, bk5, bk6, bk8, bk9, bk11, bk12, bk13, bk14, bk15, bk18, t8_0, t8_1, t8_2, t10_0, t10_1, t10_2, t12_0, t12_1, t12_2, t16_0, t16_1, t16_2, t18_0, t18_1, t18_2, t21_0, t21_1, t21_2, t22_0, t22_1, t22_2, t23_0, t23_1, t23_2, t24_0, t24_1, t24_2, t25_0, t25_1, t25_2, b51, s25, x38, rfl, B4, g4, rfl, B5, g5, rfl, B6, g6, rfl, B8, g8, rfl, B9, g9, rfl, B11, g11, rfl, B12, g12, rfl, B13, g13, rfl, B14, g14, rfl, B15, g15, rfl, B18, g18, ?_⟩
     iterate 55 refine nd ?_
     exact ⟨A, h⟩
  · clear h
    intro t1 t7 t8 t10 t12 t16 t18 t21 t22 t23 t24 t25 t26 t27 t28 w_
    refine exE fun bk4 => exE fun bk5 => exE fun bk6 => exE fun bk8 => exE fun bk9 => exE fun bk11 => exE fun bk12 => exE fun bk13 => exE fun bk14 => exE fun bk15 => exE fun bk16 => exE fun t8_0 => exE fun t8_1 => exE fun t8_2 => exE fun t10_0 => exE fun t10_1 => exE fun t10_2 => exE fun t12_0 => exE fun t12_1 => exE fun t12_2 => exE fun t16_0 => exE fun t16_1 => exE fun t16_2 => exE fun t18_0 => exE fun t18_1 => exE fun t18_2 => exE fun t21_0 => exE fun t21_1 => exE fun t21_2 => exE fun t22_0 => exE fun t22_1 => exE fun t22_2 => exE fun t23_0 => exE fun t23_1 => exE fun t23_2 => exE fun t24_0 => exE fun t24_1 => exE fun t24_2 => exE fun t25_0 => exE fun t25_1 => exE fun t25_2 => exE fun t27_0 => exE fun t27_1 => exE fun t27_2 => anE fun e_0 => anE fun B4 => anE fun g4 => anE fun e_1 => anE fun B5 => anE fun g5 => anE fun e_2 => anE fun B6 => anE fun g6 => anE fun e_3 => anE fun B8 => anE fun g8 => anE fun e_4 => anE fun B9 => anE fun g9 => anE fun e_5 => anE fun B11 => anE fun g11 => anE fun e_6 => anE fun B12 => anE fun g12 => anE fun e_7 => anE fun B13 => anE fun g13 => anE fun e_8 => anE fun B14 => anE fun g14 => anE fun e_9 => anE fun B15 => anE fun g15 => anE fun e_10 => anE fun B16 => anE fun g16 => anE fun n4_5 => anE fun n4_6 => anE fun n4_8 => anE fun n4_9 => anE fun n4_11 => anE fun n4_12 => anE fun n4_13 => anE fun n4_14 => anE fun n4_15 => anE fun n4_16 => anE fun n5_6 => anE fun n5_8 => anE fun n5_9 => anE fun n5_11 => anE fun n5_12 => anE fun n5_13 => anE fun n5_14 => anE fun n5_15 => anE fun n5_16 => anE fun n6_8 => anE fun n6_9 => anE fun n6_11 => anE fun n6_12 => anE fun n6_13 => anE fun n6_14 => anE fun n6_15 => anE fun n6_16 => anE fun n8_9 => anE fun n8_11 => anE fun n8_12 => anE fun n8_13 => anE fun n8_14 => anE fun n8_15 => anE fun n8_16 => anE fun n9_11 => anE fun n9_12 => anE fun n9_13 => anE fun n9_14 => anE fun n9_15 => anE fun n9_16 => anE fun n11_12 => anE fun n11_13 => anE fun n11_14 => anE fun n11_15 => anE fun n11_16 => anE fun n12_13 => anE fun n12_14 => anE fun n12_15 => anE fun n12_16 => anE fun n13_14 => anE fun n13_15 => anE fun n13_16 => anE fun n14_15 => anE fun n14_16 => anE fun n15_16 => anE fun A => fun hJ3000025 => ?_
    subst e_0
    subst e_1
    subst e_2
    subst e_3
    subst e_4
    subst e_5
    subst e_6
    subst e_7
    subst e_8
    subst e_9
    subst e_10
    have h := h3000025  t1 t7 t26 t28 t8_0 t8_1 t8_2 t10_0 t10_1 t10_2 t12_0 t12_1 t12_2 t16_0 t16_1 t16_2 t18_0 t18_1 t18_2 t21_0 t21_1 t21_2 t22_0 t22_1 t22_2 t23_0 t23_1 t23_2 t24_0 t24_1 t24_2 t25_0 t25_1 t25_2 t27_0 t27_1 t27_2 w_ A hJ3000025
    have X : Ext w_ w_ := Ext.refl _
    refine br_map h (fun h_ => ?_) (fun h_ => ?_)
    ·clear h
     have h := h_
     clear h_
     refine ldB_t 0 B14 rfl ?_
     refine ldS_t 1 B14 rfl ?_
     refine ldI_t 2 B14 rfl ?_
     refine ldB_t 0 B13 rfl ?_
     refine ldS_t 1 B13 rfl ?_
     refine ldI_t 2 B13 rfl ?_
     refine Calls.mono h ?_
     clear h
     rintro e35 w56 ⟨x28, he_, ha_w56, h⟩
     refine ⟨x28, he_, ?_⟩
     clear he_
     obtain ⟨B4, B5, B6, B8, B9, B11, B12, B13⟩ := ah8 ha_w56 B4 B5 B6 B8 B9 B11 B12 B13
     obtain ⟨B14, B15, B16⟩ := ah3 ha_w56 B14 B15 B16
     obtain ⟨A, X⟩ := axa2 ha_w56 A X
     replace X : Ext w56 w56 := Ext.refl _
     refine br_map h (fun h_ => ?_) (fun h_ => ?_)
     ·clear h
      have h := h_
      clear h_
      exact ⟨A, h⟩
     ·clear h
      have h := h_
      clear h_
      refine ⟨bk4, bk5, bk6, bk8, bk9, bk11, bk12, bk15, bk16, t8_0, t8_1, t8_2, t10_0, t10_1, t10_2, t12_0, t12_1, t12_2, t16_0, t16_1, t16_2, t18_0, t18_1, t18_2, t21_0, t21_1, t21_2, t22_0, t22_1, t22_2, t25_0, t25_1, t25_2, t27_0, t27_1, t27_2, rfl, B4, g4, rfl, B5, g5, rfl, B6, g6, rfl, B8, g8, rfl, B9, g9, rfl, B11, g11, rfl, B12, g12, rfl, B15, g15, rfl, B16, g16, ?_⟩
      iterate 36 refine nd ?_
      exact ⟨A, h⟩
    ·clear h
     have h := h_
     clear h_
     refine ⟨bk4, bk5, bk6, bk8, bk9, bk11, bk12, bk15, bk16, t8_0, t8_1, t8_2, t10_0, t10_1, t10_2, t12_0, t12_1, t12_2, t16_0, t16_1, t16_2, t18_0, t18_1, t18_2, t21_0, t21_1, t21_2, t22_0, t22_1, t22_2, t25_0, t25_1, t25_2, t27_0, t27_1, t27_2, rfl, B4, g4, rfl, B5, g5, rfl, B6, g6, rfl, B8, g8, rfl, B9, g9, rfl, B11, g11, rfl, B12, g12, rfl, B15, g15, rfl, B16, g16, ?_⟩
     iterate 36 refine nd ?_
     exact ⟨A, h⟩
  · clear h
    intro t1 t8 t10 t12 t16 t18 t21 t22 t25 t26 t27 t28 w_
    refine exE fun bk4 => exE fun bk5 => exE fun bk6 => exE fun bk8 => exE fun bk9 => exE fun bk11 => exE fun bk12 => exE fun bk15 => exE fun bk16 => exE fun t8_0 => exE fun t8_1 => exE fun t8_2 => exE fun t10_0 => exE fun t10_1 => exE fun t10_2 => exE fun t12_0 => exE fun t12_1 => exE fun t12_2 => exE fun t16_0 => exE fun t16_1 => exE fun t16_2 => exE fun t18_0 => exE fun t18_1 => exE fun t18_2 => exE fun t21_0 => exE fun t21_1 => exE fun t21_2 => exE fun t22_0 => exE fun t22_1 => exE fun t22_2 => exE fun t25_0 => exE fun t25_1 => exE fun t25_2 => exE fun t27_0 => exE fun t27_1 => exE fun t27_2 => anE fun e_0 => anE fun B4 => anE fun g4 => anE fun e_1 => anE fun B5 => anE fun g5 => anE fun e_2 => anE fun B6 => anE fun g6 => anE fun e_3 => anE fun B8 => anE fun g8 => anE fun e_4 => anE fun B9 => anE fun g9 => anE fun e_5 => anE fun B11 => anE fun g11 => anE fun e_6 => anE fun B12 => anE fun g12 => anE fun e_7 => anE fun B15 => anE fun g15 => anE fun e_8 => anE fun B16 => anE fun g16 => anE fun n4_5 => anE fun n4_6 => anE fun n4_8 => anE fun n4_9 => anE fun n4_11 => anE fun n4_12 => anE fun n4_15 => anE fun n4_16 => anE fun n5_6 => anE fun n5_8 => anE fun n5_9 => anE fun n5_11 => anE fun n5_12 => anE fun n5_15 => anE fun n5_16 => anE fun n6_8 => anE fun n6_9 => anE fun n6_11 => anE fun n6_12 => anE fun n6_15 => anE fun n6_16 => anE fun n8_9 => anE fun n8_11 => anE fun n8_12 => anE fun n8_15 => anE fun n8_16 => anE fun n9_11 => anE fun n9_12 => anE fun n9_15 => anE fun n9_16 => anE fun n11_12 => anE fun n11_15 => anE fun n11_16 => anE fun n12_15 => anE fun n12_16 => anE fun n15_16 => anE fun A => fun hJ3000027 => ?_
    subst e_0
    subst e_1
    subst e_2
    subst e_3
    subst e_4
    subst e_5
    subst e_6
    subst e_7
    subst e_8
    have h := h3000027  t1 t26 t28 t8_0 t8_1 t8_2 t10_0 t10_1 t10_2 t12_0 t12_1 t12_2 t16_0 t16_1 t16_2 t18_0 t18_1 t18_2 t21_0 t21_1 t21_2 t22_0 t22_1 t22_2 t25_0 t25_1 t25_2 t27_0 t27_1 t27_2 w_ A hJ3000027
    have X : Ext w_ w_ := Ext.refl _
    refine br_map h (fun h_ => ?_) (fun h_ => ?_)
    ·clear h
     have h := h_
     clear h_
     refine ⟨bk4, bk5, bk6, bk8, bk9, bk11, bk12, bk15, bk16, t8_0, t8_1, t8_2, t10_0, t10_1, t10_2, t12_0, t12_1, t12_2, t16_0, t16_1, t16_2, t18_0, t18_1, t18_2, t21_0, t21_1, t21_2, t22_0, t22_1, t22_2, t25_0, t25_1, t25_2, t27_0, t27_1, t27_2, rfl, B4, g4, rfl, B5, g5, rfl, B6, g6, rfl, B8, g8, rfl, B9, g9, rfl, B11, g11, rfl, B12, g12, rfl, B15, g15, rfl, B16, g16, ?_⟩
     iterate 36 refine nd ?_
     exact ⟨A, h⟩
    ·clear h
     have h := h_
     clear h_
     refine ⟨bk4, bk5, bk6, bk8, bk9, bk11, bk12, bk15, bk16, t8_0, t8_1, t8_2, t10_0, t10_1, t10_2, t12_0, t12_1, t12_2, t16_0, t16_1, t16_2, t18_0, t18_1, t18_2, t21_0, t21_1, t21_2, t22_0, t22_1, t22_2, t25_0, t25_1, t25_2, t27_0, t27_1, t27_2, rfl, B4, g4, rfl, B5, g5, rfl, B6, g6, rfl, B8, g8, rfl, B9, g9, rfl, B11, g11, rfl, B12, g12, rfl, B15, g15, rfl, B16, g16, ?_⟩
     iterate 36 refine nd ?_
     exact ⟨A, h⟩
  · clear h
    intro t1 t8 t10 t12 t16 t18 t21 t22 t25 t27 t181 w_
    refine exE fun bk4 => exE fun bk5 => exE fun bk6 => exE fun bk8 => exE fun bk9 => exE fun bk11 => exE fun bk12 => exE fun bk15 => exE fun bk16 => exE fun t8_0 => exE fun t8_1 => exE fun t8_2 => exE fun t10_0 => exE fun t10_1 => exE fun t10_2 => exE fun t12_0 => exE fun t12_1 => exE fun t12_2 => exE fun t16_0 => exE fun t16_1 => exE fun t16_2 => exE fun t18_0 => exE fun t18_1 => exE fun t18_2 => exE fun t21_0 => exE fun t21_1 => exE fun t21_2 => exE fun t22_0 => exE fun t22_1 => exE fun t22_2 => exE fun t25_0 => exE fun t25_1 => exE fun t25_2 => exE fun t27_0 => exE fun t27_1 => exE fun t27_2 => anE fun e_0 => anE fun B4 => anE fun g4 => anE fun e_1 => anE fun B5 => anE fun g5 => anE fun e_2 => anE fun B6 => anE fun g6 => anE fun e_3 => anE fun B8 => anE fun g8 => anE fun e_4 => anE fun B9 => anE fun g9 => anE fun e_5 => anE fun B11 => anE fun g11 => anE fun e_6 => anE fun B12 => anE fun g12 => anE fun e_7 => anE fun B15 => anE fun g15 => anE fun e_8 => anE fun B16 => anE fun g16 => anE fun n4_5 => anE fun n4_6 => anE fun n4_8 => anE fun n4_9 => anE fun n4_11 => anE fun n4_12 => anE fun n4_15 => anE fun n4_16 => anE fun n5_6 => anE fun n5_8 => anE fun n5_9 => anE fun n5_11 => anE fun n5_12 => anE fun n5_15 => anE fun n5_16 => anE fun n6_8 => anE fun n6_9 => anE fun n6_11 => anE fun n6_12 => anE fun n6_15 => anE fun n6_16 => anE fun n8_9 => anE fun n8_11 => anE fun n8_12 => anE fun n8_15 => anE fun n8_16 => anE fun n9_11 => anE fun n9_12 => anE fun n9_15 => anE fun n9_16 => anE fun n11_12 => anE fun n11_15 => anE fun n11_16 => anE fun n12_15 => anE fun n12_16 => anE fun n15_16 => anE fun A => fun hJ3000028 => ?_
    subst e_0
    subst e_1
    subst e_2
    subst e_3
    subst e_4
    subst e_5
    subst e_6
    subst e_7
    subst e_8
    have h := h3000028  t1 t181 t8_0 t8_1 t8_2 t10_0 t10_1 t10_2 t12_0 t12_1 t12_2 t16_0 t16_1 t16_2 t18_0 t18_1 t18_2 t21_0 t21_1 t21_2 t22_0 t22_1 t22_2 t25_0 t25_1 t25_2 t27_0 t27_1 t27_2 w_ A hJ3000028
    have X : Ext w_ w_ := Ext.refl _
    refine br_map h (fun h_ => ?_) (fun h_ => ?_)
    ·clear h
     have h := h_
     clear h_
     refine ldB_t 0 B15 rfl ?_
     refine ldS_t 1 B15 rfl ?_
     refine ldI_t 2 B15 rfl ?_
     refine ldB_t 0 B16 rfl ?_
     refine ldS_t 1 B16 rfl ?_
     refine ldI_t 2 B16 rfl ?_
     refine Calls.mono h ?_
     clear h
     rintro e36 w57 ⟨x29, he_, ha_w57, h⟩
     refine ⟨x29, he_, ?_⟩
     clear he_
     obtain ⟨B4, B5, B6, B8, B9, B11, B12, B15⟩ := ah8 ha_w57 B4 B5 B6 B8 B9 B11 B12 B15
     replace B16 := B16.ahead ha_w57
     obtain ⟨A, X⟩ := axa2 ha_w57 A X
     replace X : Ext w57 w57 := Ext.refl _
     refine br_map h (fun h_ => ?_) (fun h_ => ?_)
     ·clear h
      have h := h_
      clear h_
      refine ldB_t 0 B6 rfl ?_
      refine ldS_t 1 B6 rfl ?_
      refine ldI_t 2 B6 rfl ?_
      refine ldB_t 0 B4 rfl ?_
      refine ldS_t 1 B4 rfl ?_
      refine ldI_t 2 B4 rfl ?_
      refine Calls.mono h ?_
      clear h
      rintro e37 w58 ⟨b36, he_, ha_w58, h⟩
      refine ⟨b36, he_, ?_⟩
      clear he_
      obtain ⟨B4, B5, B6, B8, B9, B11, B12, B15⟩ := ah8 ha_w58 B4 B5 B6 B8 B9 B11 B12 B15
      replace B16 := B16.ahead ha_w58
      obtain ⟨A, X⟩ := axa2 ha_w58 A X
      replace X : Ext w58 w58 := Ext.refl _
      refine br_map h (fun h_ => ?_) (fun h_ => ?_)
      ·clear h
       have h := h_
       clear h_
       exact ⟨A, h⟩
      ·clear h
       have h := h_
       clear h_
       refine br_map h (fun h_ => ?_) (fun h_ => ?_)
       ·clear h
        have h := h_
        clear h_
        refine ldB_t 0 B6 rfl ?_
        refine ldS_t 1 B6 rfl ?_
        refine ldI_t 2 B6 rfl ?_
        refine ldB_t 0 B5 rfl ?_
        refine ldS_t 1 B5 rfl ?_
        refine ldI_t 2 B5 rfl ?_
        refine Calls.mono h ?_
        clear h
        rintro e38 w59 ⟨b37, he_, ha_w59, h⟩
        refine ⟨b37, he_, ?_⟩
        clear he_
        obtain ⟨B4, B5, B6, B8, B9, B11, B12, B15⟩ := ah8 ha_w59 B4 B5 B6 B8 B9 B11 B12 B15
        replace B16 := B16.ahead ha_w59
        obtain ⟨A, X⟩ := axa2 ha_w59 A X
        replace X : Ext w59 w59 := Ext.refl _
        refine br_map h (fun h_ => ?_) (fun h_ => ?_)
        ·clear h
         have h := h_
         clear h_
         exact ⟨A, h⟩
        ·clear h
         have h := h_
         clear h_
         refine br_map h (fun h_ => ?_) (fun h_ => ?_)
         ·clear h
          have h := h_
          clear h_
          refine ldB_t 0 B12 rfl ?_
          refine ldS_t 1 B12 rfl ?_
          refine ldI_t 2 B12 rfl ?_
          refine Calls.mono h ?_
          clear h
          rintro e39 w60 ⟨b38, he_, ha_w60, h⟩
          refine ⟨b38, he_, ?_⟩
          clear he_
          obtain ⟨B4, B5, B6, B8, B9, B11, B12, B15⟩ := ah8 ha_w60 B4 B5 B6 B8 B9 B11 B12 B15
          replace B16 := B16.ahead ha_w60
          obtain ⟨A, X⟩ := axa2 ha_w60 A X
          replace X : Ext w60 w60 := Ext.refl _
          refine br_map h (fun h_ => ?_) (fun h_ => ?_)
          ·clear h
           have h := h_
           clear h_
           exact ⟨A, h⟩
          ·clear h
           have h := h_
           clear h_
           refine ⟨bk8, bk9, bk11, bk12, t16_0, t16_1, t16_2, t18_0, t18_1, t18_2, t21_0, t21_1, t21_2, t22_0, t22_1, t22_2, rfl, B8, g8, rfl, B9, g9, rfl, B11, g11, rfl, B12, g12, ?_⟩
           iterate 6 refine nd ?_
           exact ⟨A, h⟩
         ·clear h
          have h := h_
          clear h_
          refine ⟨bk8, bk9, bk11, bk12, t16_0, t16_1, t16_2, t18_0, t18_1, t18_2, t21_0, t21_1, t21_2, t22_0, t22_1, t22_2, rfl, B8, g8, rfl, B9, g9, rfl, B11, g11, rfl, B12, g12, ?_⟩
          iterate 6 refine nd ?_
          exact ⟨A, h⟩
       ·clear h
        have h := h_
        clear h_
        refine br_map h (fun h_ => ?_) (fun h_ => ?_)
        ·clear h
         have h := h_
         clear h_
         refine ldB_t 0 B12 rfl ?_
         refine ldS_t 1 B12 rfl ?_
         refine ldI_t 2 B12 rfl ?_
         refine Calls.mono h ?_
         clear h
         rintro e47 w69 ⟨b44, he_, ha_w69, h⟩
         refine ⟨b44, he_, ?_⟩
         clear he_
         obtain ⟨B4, B5, B6, B8, B9, B11, B12, B15⟩ := ah8 ha_w69 B4 B5 B6 B8 B9 B11 B12 B15
         replace B16 := B16.ahead ha_w69
         obtain ⟨A, X⟩ := axa2 ha_w69 A X
         replace X : Ext w69 w69 := Ext.refl _
         refine br_map h (fun h_ => ?_) (fun h_ => ?_)
         ·clear h
          have h := h_
          clear h_
          exact ⟨A, h⟩
         ·clear h
          have h := h_
          clear h_
          refine ⟨bk8, bk9, bk11, bk12, t16_0, t16_1, t16_2, t18_0, t18_1, t18_2, t21_0, t21_1, t21_2, t22_0, t22_1, t22_2, rfl, B8, g8, rfl, B9, g9, rfl, B11, g11, rfl, B12, g12, ?_⟩
          iterate 6 refine nd ?_
          exact ⟨A, h⟩
        ·clear h
         have h := h_
         clear h_
         refine ⟨bk8, bk9, bk11, bk12, t16_0, t16_1, t16_2, t18_0, t18_1, t18_2, t21_0, t21_1, t21_2, t22_0, t22_1, t22_2, rfl, B8, g8, rfl, B9, g9, rfl, B11, g11, rfl, B12, g12, ?_⟩
         iterate 6 refine nd ?_
         exact ⟨A, h⟩
     ·clear h
      have h := h_
      clear h_
      refine br_map h (fun h_ => ?_) (fun h_ => ?_)
      ·clear h
       have h := h_
       clear h_
       refine ldB_t 0 B6 rfl ?_
       refine ldS_t 1 B6 rfl ?_
       refine ldI_t 2 B6 rfl ?_
       refine ldB_t 0 B5 rfl ?_
       refine ldS_t 1 B5 rfl ?_
       refine ldI_t 2 B5 rfl ?_
       refine Calls.mono h ?_
       clear h
       rintro e48 w70 ⟨b45, he_, ha_w70, h⟩
       refine ⟨b45, he_, ?_⟩
       clear he_
       obtain ⟨B4, B5, B6, B8, B9, B11, B12, B15⟩ := ah8 ha_w70 B4 B5 B6 B8 B9 B11 B12 B15
       replace B16 := B16.ahead ha_w70
       obtain ⟨A, X⟩ := axa2 ha_w70 A X
       replace X : Ext w70 w70 := Ext.refl _
       refine br_map h (fun h_ => ?_) (fun h_ => ?_)
       ·clear h
        have h := h_
        clear h_
        exact ⟨A, h⟩
       ·clear h
        have h := h_
        clear h_
        refine br_map h (fun h_ => ?_) (fun h_ => ?_)
        ·clear h
         have h := h_
         clear h_
         refine ldB_t 0 B12 rfl ?_
         refine ldS_t 1 B12 rfl ?_
         refine ldI_t 2 B12 rfl ?_
         refine Calls.mono h ?_
         clear h
         rintro e49 w71 ⟨b46, he_, ha_w71, h⟩
         refine ⟨b46, he_, ?_⟩
         clear he_
         obtain ⟨B4, B5, B6, B8, B9, B11, B12, B15⟩ := ah8 ha_w71 B4 B5 B6 B8 B9 B11 B12 B15
         replace B16 := B16.ahead ha_w71
         obtain ⟨A, X⟩ := axa2 ha_w71 A X
         replace X : Ext w71 w71 := Ext.refl _
         refine br_map h (fun h_ => ?_) (fun h_ => ?_)
         ·clear h
          have h := h_
          clear h_
          exact ⟨A, h⟩
         ·clear h
          have h := h_
          clear h_
          refine ⟨bk8, bk9, bk11, bk12, t16_0, t16_1, t16_2, t18_0, t18_1, t18_2, t21_0, t21_1, t21_2, t22_0, t22_1, t22_2, rfl, B8, g8, rfl, B9, g9, rfl, B11, g11, rfl, B12, g12, ?_⟩
          iterate 6 refine nd ?_
          exact ⟨A, h⟩
        ·clear h
         have h := h_
         clear h_
         refine ⟨bk8, bk9, bk11, bk12, t16_0, t16_1, t16_2, t18_0, t18_1, t18_2, t21_0, t21_1, t21_2, t22_0, t22_1, t22_2, rfl, B8, g8, rfl, B9, g9, rfl, B11, g11, rfl, B12, g12, ?_⟩
         iterate 6 refine nd ?_
         exact ⟨A, h⟩
      ·clear h
       have h := h_
       clear h_
       refine br_map h (fun h_ => ?_) (fun h_ => ?_)
       ·clear h
        have h := h_
        clear h_
        refine ldB_t 0 B12 rfl ?_
        refine ldS_t 1 B12 rfl ?_
        refine ldI_t 2 B12 rfl ?_
        refine Calls.mono h ?_
        clear h
        rintro e50 w72 ⟨b47, he_, ha_w72, h⟩
        refine ⟨b47, he_, ?_⟩
        clear he_
        obtain ⟨B4, B5, B6, B8, B9, B11, B12, B15⟩ := ah8 ha_w72 B4 B5 B6 B8 B9 B11 B12 B15
        replace B16 := B16.ahead ha_w72
        obtain ⟨A, X⟩ := axa2 ha_w72 A X
        replace X : Ext w72 w72 := Ext.refl _
        refine br_map h (fun h_ => ?_) (fun h_ => ?_)
        ·clear h
         have h := h_
         clear h_
         exact ⟨A, h⟩
        ·clear h
         have h := h_
         clear h_
         refine ⟨bk8, bk9, bk11, bk12, t16_0, t16_1, t16_2, t18_0, t18_1, t18_2, t21_0, t21_1, t21_2, t22_0, t22_1, t22_2, rfl, B8, g8, rfl, B9, g9, rfl, B11, g11, rfl, B12, g12, ?_⟩
         iterate 6 refine nd ?_
         exact ⟨A, h⟩
       ·clear h
        have h := h_
        clear h_
        refine ⟨bk8, bk9, bk11, bk12, t16_0, t16_1, t16_2, t18_0, t18_1, t18_2, t21_0, t21_1, t21_2, t22_0, t22_1, t22_2, rfl, B8, g8, rfl, B9, g9, rfl, B11, g11, rfl, B12, g12, ?_⟩
        iterate 6 refine nd ?_
        exact ⟨A, h⟩
    ·clear h
     have h := h_
     clear h_
     refine ⟨bk8, bk9, bk11, bk12, t16_0, t16_1, t16_2, t18_0, t18_1, t18_2, t21_0, t21_1, t21_2, t22_0, t22_1, t22_2, rfl, B8, g8, rfl, B9, g9, rfl, B11, g11, rfl, B12, g12, ?_⟩
     iterate 6 refine nd ?_
     exact ⟨A, h⟩
  · clear h
    rintro t16 t18 t21 t22 w_ ⟨bk8, bk9, bk11, bk12, t16_0, t16_1, t16_2, t18_0, t18_1, t18_2, t21_0, t21_1, t21_2, t22_0, t22_1, t22_2, rfl, B8, g8, rfl, B9, g9, rfl, B11, g11, rfl, B12, g12, n8_9, n8_11, n8_12, n9_11, n9_12, n11_12, A, hJ3000031⟩
    have h := h3000031  t16_0 t16_1 t16_2 t18_0 t18_1 t18_2 t21_0 t21_1 t21_2 t22_0 t22_1 t22_2 w_ A hJ3000031
    have X : Ext w_ w_ := Ext.refl _
    have hd_ := Sp.Ahead.drew w_
    obtain ⟨B8, B9, B11, B12⟩ := ah4 hd_ B8 B9 B11 B12
    obtain ⟨A, X⟩ := axa2 hd_ A X
    clear hd_
    refine ldB_t 0 B8 rfl ?_
    refine ldS_t 1 B8 rfl ?_
    refine ldI_t 2 B8 rfl ?_
    refine ldB_t 0 B11 rfl ?_
    refine ldS_t 1 B11 rfl ?_
    refine ldI_t 2 B11 rfl ?_
    replace h := h _ X A
    refine Calls.mono h ?_
    clear h
    rintro e40 w62 ⟨b39, s19, x30, he_, ha_w62, h⟩
    refine ⟨b39, s19, x30, he_, ?_⟩
    clear he_
    obtain ⟨B8, B9, B11, B12⟩ := ah4 ha_w62 B8 B9 B11 B12
    obtain ⟨A, X⟩ := axa2 ha_w62 A X
    replace X : Ext w62 w62 := Ext.refl _
    refine ⟨ha_w62, ?_⟩
    refine Calls.mono h ?_
    clear h
    rintro e41 w63 ⟨b40, s20, x31, he_, ha_w63, h⟩
    refine ⟨b40, s20, x31, he_, ?_⟩
    clear he_
    obtain ⟨B8, B9, B11, B12⟩ := ah4 ha_w63 B8 B9 B11 B12
    obtain ⟨A, X⟩ := axa2 ha_w63 A X
    replace X : Ext w63 w63 := Ext.refl _
    refine ⟨ha_w63, ?_⟩
    refine Calls.mono h ?_
    clear h
    rintro e42 w64 ⟨x32, he_, ha_w64, h⟩
    refine ⟨x32, he_, ?_⟩
    clear he_
    obtain ⟨B8, B9, B11, B12⟩ := ah4 ha_w64 B8 B9 B11 B12
    obtain ⟨A, X⟩ := axa2 ha_w64 A X
    replace X : Ext w64 w64 := Ext.refl _
    refine ⟨ha_w64, ?_⟩
    refine br_map h (fun h_ => ?_) (fun h_ => ?_)
    ·clear h
     have h := h_
     clear h_
     refine ldB_t 0 B9 rfl ?_
     refine ldS_t 1 B9 rfl ?_
     refine ldI_t 2 B9 rfl ?_
     refine ldB_t 0 B12 rfl ?_
     refine ldS_t 1 B12 rfl ?_
     refine ldI_t 2 B12 rfl ?_
     refine Calls.mono h ?_
     clear h
     rintro e43 w65 ⟨b41, s21, x33, he_, ha_w65, h⟩
     refine ⟨b41, s21, x33, he_, ?_⟩
     clear he_
     obtain ⟨B8, B9, B11, B12⟩ := ah4 ha_w65 B8 B9 B11 B12
     obtain ⟨A, X⟩ := axa2 ha_w65 A X
     replace X : Ext w65 w65 := Ext.refl _
     refine ⟨ha_w65, ?_⟩
     refine Calls.mono h ?_
     clear h
     rintro e44 w66 ⟨b42, s22, x34, he_, ha_w66, h⟩
     refine ⟨b42, s22, x34, he_, ?_⟩
     clear he_
     obtain ⟨B8, B9, B11, B12⟩ := ah4 ha_w66 B8 B9 B11 B12
     obtain ⟨A, X⟩ := axa2 ha_w66 A X
     replace X : Ext w66 w66 := Ext.refl _
     refine ⟨ha_w66, ?_⟩
     refine Calls.mono h ?_
     clear h
     rintro e45 w67 ⟨x35, he_, ha_w67, h⟩
     refine ⟨x35, he_, ?_⟩
     clear he_
     obtain ⟨B8, B9, B11, B12⟩ := ah4 ha_w67 B8 B9 B11 B12
     obtain ⟨A, X⟩ := axa2 ha_w67 A X
     replace X : Ext w67 w67 := Ext.refl _
     refine ⟨ha_w67, ?_⟩
     refine br_map h (fun h_ => ?_) (fun h_ => ?_)
     ·clear h
      have h := h_
      clear h_
      refine Calls.mono h ?_
      clear h
      rintro e46 w68 ⟨b43, he_, ha_w68, h⟩
      refine ⟨b43, he_, ?_⟩
      clear he_
      obtain ⟨B8, B9, B11, B12⟩ := ah4 ha_w68 B8 B9 B11 B12
      obtain ⟨A, X⟩ := axa2 ha_w68 A X
      replace X : Ext w68 w68 := Ext.refl _
      refine ⟨ha_w68, ?_⟩
      exact ⟨A, h⟩
     ·clear h
      have h := h_
      clear h_
      exact ⟨A, h⟩
    ·clear h
     have h := h_
     clear h_
     exact ⟨A, h⟩

end Go.Proofs.YtlkjgafnjmfgiaaDoor
namespace Go.Proofs.YtlkjgafnjmfgiaaDoor
open Go Go.RowKit Eng Sp Dg L2
set_option linter.unusedVariables false
set_option linter.unusedSimpArgs false
set_option maxRecDepth 100000
namespace Dy
open _root_.Go.Proofs.YtlkjgafnjmfgiaaDoor.Nat (ldNf OwnNil Num Num.bl Num.ext OwnNil.mono OwnNil.ext OwnNil.rd OwnNil.ahead OwnNil.nil digs_len_bl num_of Yes)
open _root_.Go.Proofs.YtlkjgafnjmfgiaaDoor.Ref (RN RN.nil RN.ext RN.ahead Limbs_spec len_mono bl_len32 len32)
open Sb

set_option maxHeartbeats 4000000 in
theorem DyadicNear_ok {w : World} (hT : Tab w) {n0 : Bool} {s0 : Slc} {e0 : Int} {l0 : List Nat} (r0 : Rd .u64 w s0 (nn l0)) (o0 : ok B64 l0) (z0 : l0.length * 8 ≤ 140737488351232) (he0 : -9223372036854775808 ≤ e0 ∧ e0 ≤ 9223372036854775807)
    {x1 : Int} (hx1 : -9223372036854775808 ≤ x1 ∧ x1 ≤ 9223372036854775807) :
    Calls pr surdlaw08_DyadicNear_id #[.agg (c3 n0 s0 e0), .int .i64 x1] w (Yes w) := by
  have hl0 := Nat.len_le o0
  have N0 : Num w s0 (val B64 l0) := num_of r0 o0 z0
  have ofs := fun {w3 : World} (a3 : Ahead w w3) => of_spec (neg := n0) (e := e0) (r0.ahead a3) z0 o0
  have aw : ∀ w3 : World, Ahead w w3 → Calls pr surdlaw08_awake_id #[] w3 fun e1 w4 => ∃ b1 : Bool, e1 = .returned (Value.bool b1) ∧ Ahead w3 w4 ∧ (Ending.returned (Value.bool b1) = .returned (.bool true)) := by
    intro w3 a3
    refine Calls.mono (awake_spec (hT.ahead a3)) ?_
    rintro e w4 ⟨rfl, h4⟩
    exact ⟨_, rfl, h4, rfl⟩
  generalize val B64 l0 = X at *
  have hlo := len_mono two64 (od_le X)
  have hf := NF.of n0 X e0
  have hf' : NF (nD (!(nD n0 X)) (od X)) (od X) (eD X e0) := by
    have := NF.of (!(nD n0 X)) (od X) (eD X e0)
    rwa [od_od, hf.eD] at this
  have F := facts (pos := x1) hf hf' (sg_flip _ _)
  have sz : ∀ {m : Int}, rdC n0 X e0 x1 m = 0 → _ := fun {m} h => rd_small (m := m) h
  have nv := hf.nz
  have nd := rz_nz (nD n0 X) (od X) (eD X e0) x1 0
  have nu := rz_nz (nD n0 X) (od X) (eD X e0) x1 1
  have nr := rz_nz (nD n0 X) (od X) (eD X e0) x1 2
  have ns := rz_nz (nD (!(nD n0 X)) (od X)) (od X) (eD X e0) x1 0
  have nt := rz_nz (nD (!(nD n0 X)) (od X)) (od X) (eD X e0) x1 2
  -- the codes of the opposite's roundings
  have cS : wi e0 → wi x1 → rdC n0 X e0 x1 1 = 0 → ngC X e0 = 0 → rdC (nD (!(nD n0 X)) (od X)) (od X) (eD X e0) x1 0 = 0 := by
    intro h1 h2 h3 h4
    have wE : wi (eD X e0) := by
      rw [ngC, if_pos h1] at h4
      have := (tC_zero h4).2
      rwa [hf.eD] at this
    have t1 := (rdC_zero h3).2.2
    rw [rdC_ok wE h2 (by unfold okM; omega), hf'.s, hf'.o, hf'.eD]
    have hn := congrArg Int.natAbs F.sn.1
    rw [Int.natAbs_neg, rZ, rZ, sg_abs, sg_abs] at hn
    exact (tC_eq hn F.sn.2).trans t1
  have cT : wi e0 → wi x1 → rdC n0 X e0 x1 2 = 0 → ngC X e0 = 0 → rdC (nD (!(nD n0 X)) (od X)) (od X) (eD X e0) x1 2 = 0 := by
    intro h1 h2 h3 h4
    have wE : wi (eD X e0) := by
      rw [ngC, if_pos h1] at h4
      have := (tC_zero h4).2
      rwa [hf.eD] at this
    have t1 := (rdC_zero h3).2.2
    rw [rdC_ok wE h2 (by unfold okM; omega), hf'.s, hf'.o, hf'.eD]
    have hn := congrArg Int.natAbs F.tn.1
    rw [Int.natAbs_neg, rZ, rZ, sg_abs, sg_abs] at hn
    exact (tC_eq hn F.tn.2).trans t1
  have RS : ∀ {m : Int} {w3 : World} {s : Slc} {b : Bool} {x : Int}, Ahead w w3 → nD (!(nD n0 X)) (od X) = b → eD X e0 = x → Num w3 s (od X) → Calls pr dyadic_Round_id #[.agg (c3 b s x), .int .i64 x1, .int .i64 m] w3 fun en w' => Ahead w3 w' ∧ ∃ b s' x', en = .returned (.tuple #[.agg (c3 b s' x'), .int .i64 (rdC (nD (!(nD n0 X)) (od X)) (od X) (eD X e0) x1 m)]) ∧
      (rdC (nD (!(nD n0 X)) (od X)) (od X) (eD X e0) x1 m = 0 → PN (rZ (nD (!(nD n0 X)) (od X)) (od X) (eD X e0) x1 m) (rF (nD (!(nD n0 X)) (od X)) (od X) (eD X e0) x1 m) b s' x' w') := by
    rintro m w3 s _ _ a3 rfl rfl h
    have := RoundP (neg := nD (!(nD n0 X)) (od X)) (e := eD X e0) (pos := x1) (m := m) (hT.ahead a3) h (by omega)
    rw [hf'.s, hf'.o, hf'.eD] at this
    exact this
  have R0 : ∀ {m : Int} {w3 : World}, Ahead w w3 → _ := fun {m w3} a3 => RoundP (neg := n0) (e := e0) (pos := x1) (m := m) (hT.ahead a3) (N0.ahead a3) (by omega)
  have OF : ∀ {w3 : World}, Ahead w w3 → Calls pr surdlaw08_of_id #[.agg (c3 n0 s0 e0)] w3 fun en w' => Ahead w3 w' ∧ ∃ b s' x', en = .returned (.tuple #[.agg (c3 b s' x'), .bool (decide (wi e0))]) ∧ (wi e0 → QN (sg (nD n0 X) (od X)) (eD X e0) b s' x' w') := by
    intro w3 a3
    refine Calls.mono (ofs a3) ?_
    rintro en w' ⟨h1, s', rfl, r⟩
    refine ⟨h1, _, _, _, rfl, fun hw => ?_⟩
    rw [if_pos hw] at r
    rw [if_pos hw, if_pos hw]
    exact ⟨hf.zb, rfl, by rw [sg_abs]; exact r⟩
  have NG : ∀ {w3 : World}, Ahead w w3 → Calls pr dyadic_Neg_id #[.agg (c3 n0 s0 e0)] w3 fun en w' => Ahead w3 w' ∧ ∃ b s' x', en = .returned (.tuple #[.agg (c3 b s' x'), .int .i64 (ngC X e0)]) ∧ (ngC X e0 = 0 → nD (!(nD n0 X)) (od X) = b ∧ eD X e0 = x' ∧ Num w' s' (od X)) := by
    intro w3 a3
    refine Calls.mono (DNeg_spec (hT.ahead a3) (N0.ahead a3) (by omega)) ?_
    rintro en w' ⟨h1, s', rfl, o⟩
    refine ⟨h1, _, _, _, rfl, fun hc => ?_⟩
    rw [if_pos hc, od_od] at o
    rw [if_pos hc, if_pos hc, hf.eD]
    exact ⟨rfl, rfl, num_digs o.rd (by omega)⟩
  have sv : wi e0 → ngC X e0 = 0 → bl (sg (nD n0 X) (od X)).natAbs ≤ 67108864 ∧ wi (eD X e0) := by
    intro h1 h4
    rw [ngC, if_pos h1] at h4
    have := tC_zero h4
    rw [od_od, hf.eD] at this
    exact ⟨by rw [sg_abs]; exact this.1, this.2⟩
  have sd : rdC n0 X e0 x1 0 = 0 → _ := rd_small (neg := n0) (x := X) (e := e0) (pos := x1) (m := 0)
  have su : rdC n0 X e0 x1 1 = 0 → _ := rd_small (neg := n0) (x := X) (e := e0) (pos := x1) (m := 1)
  have sr : rdC n0 X e0 x1 2 = 0 → _ := rd_small (neg := n0) (x := X) (e := e0) (pos := x1) (m := 2)
  have R0d : ∀ {w3 : World}, Ahead w w3 → _ := fun {w3} a3 => R0 (m := 0) (w3 := w3) a3
  have R0u : ∀ {w3 : World}, Ahead w w3 → _ := fun {w3} a3 => R0 (m := 1) (w3 := w3) a3
  have R0n : ∀ {w3 : World}, Ahead w w3 → _ := fun {w3} a3 => R0 (m := 2) (w3 := w3) a3
  have RSd : ∀ {w3 : World} {s : Slc} {b : Bool} {x : Int}, Ahead w w3 → nD (!(nD n0 X)) (od X) = b → eD X e0 = x → Num w3 s (od X) → _ := fun {w3 s b x} a3 h1 h2 h3 => RS (m := 0) (w3 := w3) (s := s) (b := b) (x := x) a3 h1 h2 h3
  have RSn : ∀ {w3 : World} {s : Slc} {b : Bool} {x : Int}, Ahead w w3 → nD (!(nD n0 X)) (od X) = b → eD X e0 = x → Num w3 s (od X) → _ := fun {w3 s b x} a3 h1 h2 h3 => RS (m := 2) (w3 := w3) (s := s) (b := b) (x := x) a3 h1 h2 h3
  clear R0 RS ofs N0
  generalize rZ (nD (!(nD n0 X)) (od X)) (od X) (eD X e0) x1 0 = zs at *
  generalize rF (nD (!(nD n0 X)) (od X)) (od X) (eD X e0) x1 0 = es at *
  generalize rZ (nD (!(nD n0 X)) (od X)) (od X) (eD X e0) x1 2 = zt at *
  generalize rF (nD (!(nD n0 X)) (od X)) (od X) (eD X e0) x1 2 = et at *
  generalize rZ (nD n0 X) (od X) (eD X e0) x1 0 = zd at *
  generalize rF (nD n0 X) (od X) (eD X e0) x1 0 = ed at *
  generalize rZ (nD n0 X) (od X) (eD X e0) x1 1 = zu at *
  generalize rF (nD n0 X) (od X) (eD X e0) x1 1 = eu at *
  generalize rZ (nD n0 X) (od X) (eD X e0) x1 2 = zr at *
  generalize rF (nD n0 X) (od X) (eD X e0) x1 2 = er at *
  generalize rdC (nD (!(nD n0 X)) (od X)) (od X) (eD X e0) x1 0 = cs at *
  generalize rdC (nD (!(nD n0 X)) (od X)) (od X) (eD X e0) x1 2 = ct at *
  generalize rdC n0 X e0 x1 0 = cd at *
  generalize rdC n0 X e0 x1 1 = cu at *
  generalize rdC n0 X e0 x1 2 = cr at *
  generalize sg (nD n0 X) (od X) = zv at *
  generalize hev : eD X e0 = ev at *
  generalize ngC X e0 = cn at *
  have ss : cu = 0 → bl zs.natAbs ≤ 67108864 ∧ wi es := fun h => by rw [← Int.natAbs_neg, F.sn.1, F.sn.2]; exact su h
  have st : cr = 0 → bl zt.natAbs ≤ 67108864 ∧ wi et := fun h => by rw [← Int.natAbs_neg, F.tn.1, F.tn.2]; exact sr h
  clear hf hf' hlo
  refine Calls.mono (surdlaw08_DyadicNear_v2 n0 s0 e0 x1 w (fun e _ => e = .returned (.bool true))
    (fun t1 b6 s6 x6 b8 s8 x8 b10 s10 x10 b12 s12 x12 b16 s16 x16 b18 s18 x18 w' => x1 = t1 ∧ (wi e0 ∧ wi x1 ∧ cd = 0 ∧ cu = 0 ∧ cr = 0 ∧ cn = 0) ∧ QN zv ev b6 s6 x6 w' ∧ PN zd ed b8 s8 x8 w' ∧ PN zu eu b10 s10 x10 w' ∧ PN zr er b12 s12 x12 w' ∧ PN zs es b16 s16 x16 w' ∧ PN zt et b18 s18 x18 w')
    (fun t1 b6 s6 x6 b8 s8 x8 b10 s10 x10 b12 s12 x12 b16 s16 x16 b18 s18 x18 b20 s20 x20 b21 s21 x21 b22 s22 x22 w' => x1 = t1 ∧ (wi e0 ∧ wi x1 ∧ cd = 0 ∧ cu = 0 ∧ cr = 0 ∧ cn = 0) ∧ QN zv ev b6 s6 x6 w' ∧ PN zd ed b8 s8 x8 w' ∧ PN zu eu b10 s10 x10 w' ∧ PN zr er b12 s12 x12 w' ∧ PN zs es b16 s16 x16 w' ∧ PN zt et b18 s18 x18 w' ∧ QN zd ed b20 s20 x20 w' ∧ QN zu eu b21 s21 x21 w' ∧ QN zr er b22 s22 x22 w')
    (fun t1 b6 s6 x6 b8 s8 x8 b10 s10 x10 b12 s12 x12 b16 s16 x16 b18 s18 x18 b20 s20 x20 b21 s21 x21 b22 s22 x22 w' => x1 = t1 ∧ (wi e0 ∧ wi x1 ∧ cd = 0 ∧ cu = 0 ∧ cr = 0 ∧ cn = 0) ∧ QN zv ev b6 s6 x6 w' ∧ PN zd ed b8 s8 x8 w' ∧ PN zu eu b10 s10 x10 w' ∧ PN zr er b12 s12 x12 w' ∧ PN zs es b16 s16 x16 w' ∧ PN zt et b18 s18 x18 w' ∧ QN zd ed b20 s20 x20 w' ∧ QN zu eu b21 s21 x21 w' ∧ QN zr er b22 s22 x22 w')
    (fun t1 t7 b6 s6 x6 b8 s8 x8 b10 s10 x10 b12 s12 x12 b16 s16 x16 b18 s18 x18 b20 s20 x20 b21 s21 x21 b22 s22 x22 b23 s23 x23 b24 s24 x24 w' => x1 = t1 ∧ (wi e0 ∧ wi x1 ∧ cd = 0 ∧ cu = 0 ∧ cr = 0 ∧ cn = 0) ∧ ¬ atP zv ev x1 ∧ QN zv ev b6 s6 x6 w' ∧ PN zd ed b8 s8 x8 w' ∧ PN zu eu b10 s10 x10 w' ∧ PN zr er b12 s12 x12 w' ∧ PN zs es b16 s16 x16 w' ∧ PN zt et b18 s18 x18 w' ∧ QN zd ed b20 s20 x20 w' ∧ QN zu eu b21 s21 x21 w' ∧ QN zr er b22 s22 x22 w' ∧ QN 1 x1 b23 s23 x23 w' ∧
      ∃ Zg Eg, QN Zg Eg b24 s24 x24 w' ∧ (t7 = true → SumOf Zg Eg zu eu (-zd) ed))
    (fun t1 t7 t26 b6 s6 x6 b8 s8 x8 b10 s10 x10 b12 s12 x12 b16 s16 x16 b18 s18 x18 b21 s21 x21 b22 s22 x22 b23 s23 x23 b24 s24 x24 b25 s25 x25 w' => x1 = t1 ∧ (wi e0 ∧ wi x1 ∧ cd = 0 ∧ cu = 0 ∧ cr = 0 ∧ cn = 0) ∧ ¬ atP zv ev x1 ∧ QN zv ev b6 s6 x6 w' ∧ PN zd ed b8 s8 x8 w' ∧ PN zu eu b10 s10 x10 w' ∧ PN zr er b12 s12 x12 w' ∧ PN zs es b16 s16 x16 w' ∧ PN zt et b18 s18 x18 w' ∧ QN zu eu b21 s21 x21 w' ∧ QN zr er b22 s22 x22 w' ∧ QN 1 x1 b23 s23 x23 w' ∧
      (∃ Zg Eg, QN Zg Eg b24 s24 x24 w' ∧ (t7 = true → SumOf Zg Eg zu eu (-zd) ed)) ∧ ∃ Z1 E1, QN Z1 E1 b25 s25 x25 w' ∧ (t26 = true → SumOf Z1 E1 zv ev (-zd) ed))
    (fun t1 t7 t26 t28 b8 s8 x8 b10 s10 x10 b12 s12 x12 b16 s16 x16 b18 s18 x18 b21 s21 x21 b22 s22 x22 b23 s23 x23 b24 s24 x24 b25 s25 x25 b27 s27 x27 w' => x1 = t1 ∧ (wi e0 ∧ wi x1 ∧ cd = 0 ∧ cu = 0 ∧ cr = 0 ∧ cn = 0) ∧ ¬ atP zv ev x1 ∧ PN zd ed b8 s8 x8 w' ∧ PN zu eu b10 s10 x10 w' ∧ PN zr er b12 s12 x12 w' ∧ PN zs es b16 s16 x16 w' ∧ PN zt et b18 s18 x18 w' ∧ QN zu eu b21 s21 x21 w' ∧ QN zr er b22 s22 x22 w' ∧ QN 1 x1 b23 s23 x23 w' ∧
      (∃ Zg Eg, QN Zg Eg b24 s24 x24 w' ∧ (t7 = true → SumOf Zg Eg zu eu (-zd) ed)) ∧ ∃ Z1 E1 Z2 E2, QN Z1 E1 b25 s25 x25 w' ∧ (t26 = true → SumOf Z1 E1 zv ev (-zd) ed) ∧ QN Z2 E2 b27 s27 x27 w' ∧ (t28 = true → SumOf Z2 E2 zu eu (-zv) ev))
    (fun t1 t26 t28 b8 s8 x8 b10 s10 x10 b12 s12 x12 b16 s16 x16 b18 s18 x18 b21 s21 x21 b22 s22 x22 b25 s25 x25 b27 s27 x27 w' => x1 = t1 ∧ (wi e0 ∧ wi x1 ∧ cd = 0 ∧ cu = 0 ∧ cr = 0 ∧ cn = 0) ∧ ¬ atP zv ev x1 ∧ PN zd ed b8 s8 x8 w' ∧ PN zu eu b10 s10 x10 w' ∧ PN zr er b12 s12 x12 w' ∧ PN zs es b16 s16 x16 w' ∧ PN zt et b18 s18 x18 w' ∧ QN zu eu b21 s21 x21 w' ∧ QN zr er b22 s22 x22 w' ∧
      ∃ Z1 E1 Z2 E2, QN Z1 E1 b25 s25 x25 w' ∧ (t26 = true → SumOf Z1 E1 zv ev (-zd) ed) ∧ QN Z2 E2 b27 s27 x27 w' ∧ (t28 = true → SumOf Z2 E2 zu eu (-zv) ev))
    (fun t1 t181 b8 s8 x8 b10 s10 x10 b12 s12 x12 b16 s16 x16 b18 s18 x18 b21 s21 x21 b22 s22 x22 b25 s25 x25 b27 s27 x27 w' => x1 = t1 ∧ (wi e0 ∧ wi x1 ∧ cd = 0 ∧ cu = 0 ∧ cr = 0 ∧ cn = 0) ∧ ¬ atP zv ev x1 ∧ PN zd ed b8 s8 x8 w' ∧ PN zu eu b10 s10 x10 w' ∧ PN zr er b12 s12 x12 w' ∧ PN zs es b16 s16 x16 w' ∧ PN zt et b18 s18 x18 w' ∧ QN zu eu b21 s21 x21 w' ∧ QN zr er b22 s22 x22 w' ∧
      ∃ Z1 E1 Z2 E2, QN Z1 E1 b25 s25 x25 w' ∧ QN Z2 E2 b27 s27 x27 w' ∧ (t181 = true → SumOf Z1 E1 zv ev (-zd) ed ∧ SumOf Z2 E2 zu eu (-zv) ev))
    (fun b16 s16 x16 b18 s18 x18 b21 s21 x21 b22 s22 x22 w' => (wi e0 ∧ wi x1 ∧ cd = 0 ∧ cu = 0 ∧ cr = 0 ∧ cn = 0) ∧ PN zs es b16 s16 x16 w' ∧ PN zt et b18 s18 x18 w' ∧ QN zu eu b21 s21 x21 w' ∧ QN zr er b22 s22 x22 w')
    ?_ ?_ ?_ ?_ ?_ ?_ ?_ ?_ ?_ ?_) fun e w' ⟨h1, h2⟩ => ⟨h2, h1⟩
  · intro w1 X1 a1
    refine Calls.mono in_spec ?_
    rintro en w2 ⟨h2, rfl⟩
    refine ⟨_, _, _, rfl, h2, fun w3 X3 a3 => Calls.mono (OF a3) ?_⟩
    rintro en w4 ⟨h4, bv, sv', xv, rfl, fv⟩
    refine ⟨_, _, _, _, rfl, h4, br_intro (fun hw => fun w5 X5 a5 => aw w5 a5) (fun hw => fun w7 X7 a7 => ?_)⟩
    have hw' : wi e0 := by simpa using hw
    have fv7 := (fv hw').ext X7
    refine Calls.mono fit_spec ?_
    rintro en w8 ⟨rfl, rfl⟩
    refine ⟨_, rfl, Ahead.refl _, br_intro (fun hp => aw _ a7) (fun hp => ?_)⟩
    have hp' : wi x1 := by simpa using hp
    refine Calls.mono (R0d a7) ?_
    rintro en w10 ⟨h10, bp, sp, xp, rfl, fp⟩
    refine ⟨_, _, _, _, rfl, h10, fun w11 X11 a11 => Calls.mono (R0u a11) ?_⟩
    rintro en w12 ⟨h12, bq, sq, xq, rfl, fq⟩
    refine ⟨_, _, _, _, rfl, h12, fun w13 X13 a13 => Calls.mono (R0n a13) ?_⟩
    rintro en w14 ⟨h14, br', sr', xr, rfl, fr⟩
    refine ⟨_, _, _, _, rfl, h14, fun w15 X15 a15 => Calls.mono (NG a15) ?_⟩
    rintro en w16 ⟨h16, bn, sn, xn, rfl, fn⟩
    refine ⟨_, _, _, _, rfl, h16, fun w17 X17 a17 => ?_⟩
    refine all_lit [cd, cu, cr, cn] (by simp) rfl rfl (fun hno w19 h19 => br_true rfl (aw _ (a17.trans h19))) (fun hyes w19 h19 => br_false rfl ?_)
    have c1 : cd = 0 := hyes _ (by simp)
    have c2 : cu = 0 := hyes _ (by simp)
    have c3' : cr = 0 := hyes _ (by simp)
    have c4 : cn = 0 := hyes _ (by simp)
    obtain ⟨n1, n2, n3⟩ := fn c4
    have a19 := a17.trans h19
    have n19 := (n3.ext X17).ahead h19
    refine Calls.mono (RSd a19 n1 n2 n19) ?_
    rintro en w21 ⟨h21, bs, ss', xs, rfl, fs⟩
    refine ⟨_, _, _, _, rfl, h21, fun w22 X22 a22 => Calls.mono (RSn a22 n1 n2 ((n19.ahead h21).ext X22)) ?_⟩
    rintro en w23 ⟨h23, bt, st', xt, rfl, ft⟩
    have k1 := cS hw' hp' c2 c4
    have k2 := cT hw' hp' c3' c4
    refine ⟨_, _, _, _, rfl, h23, fun w24 X24 a24 => ?_⟩
    refine all_lit [cs, ct] (by simp) rfl rfl (fun hno => absurd (by simp [k1, k2]) hno) (fun _ w26 h26 => br_false rfl ?_)
    have e24 := X24.trans h26.ext
    have e22 := X22.trans (h23.ext.trans e24)
    have e17 := X17.trans (h19.ext.trans (h21.ext.trans e22))
    have e15 := X15.trans (h16.ext.trans e17)
    have e13 := X13.trans (h14.ext.trans e15)
    have e11 := X11.trans (h12.ext.trans e13)
    exact ⟨rfl, ⟨hw', hp', c1, c2, c3', c4⟩, fv7.ext (h10.ext.trans e11), (fp c1).ext e11, (fq c2).ext e13, (fr c3').ext e15, (fs k1).ext e22, (ft k2).ext e24⟩
  · rintro t1 _ s6 _ _ s8 _ _ s10 _ _ s12 _ _ s16 _ _ s18 _ w1 a1 ⟨rfl, hG, ⟨rfl, rfl, rv⟩, ⟨rfl, rfl, rd⟩, ⟨rfl, rfl, ru⟩, ⟨rfl, rfl, rr⟩, fs, ft⟩
    obtain ⟨g0, g1, g2, g3, g4, g5⟩ := id hG
    intro w27 X27 a27
    refine Calls.mono (readP nd (Rd.ext rd X27) (sd g2).1 (sd g2).2) ?_
    rintro en w28 ⟨h28, s20, rfl, r20⟩
    refine ⟨_, _, _, rfl, h28, fun w29 X29 a29 => ?_⟩
    have e28 := X27.trans (h28.ext.trans X29)
    refine Calls.mono (readP nu (Rd.ext ru e28) (su g3).1 (su g3).2) ?_
    rintro en w30 ⟨h30, s21, rfl, r21⟩
    refine ⟨_, _, _, rfl, h30, fun w31 X31 a31 => ?_⟩
    have e30 := e28.trans (h30.ext.trans X31)
    refine Calls.mono (readP nr (Rd.ext rr e30) (sr g4).1 (sr g4).2) ?_
    rintro en w32 ⟨h32, s22, rfl, r22⟩
    refine ⟨_, _, _, rfl, h32, fun w33 X33 a33 => ?_⟩
    have e32 := h32.ext.trans X33
    have e31 := X31.trans e32
    have e29 := X29.trans (h30.ext.trans e31)
    have E := e30.trans e32
    exact ⟨rfl, hG, ⟨rfl, rfl, rv.ext E⟩, ⟨rfl, rfl, Rd.ext rd E⟩, ⟨rfl, rfl, Rd.ext ru E⟩, ⟨rfl, rfl, Rd.ext rr E⟩, fs.ext E, ft.ext E, ⟨rfl, rfl, r20.ext e29⟩, ⟨rfl, rfl, r21.ext e31⟩, ⟨rfl, rfl, r22.ext X33⟩⟩
  · rintro t1 _ s6 _ _ s8 _ _ s10 _ _ s12 _ _ s16 _ _ s18 _ _ s20 _ _ s21 _ _ s22 _ w1 a1 ⟨rfl, hG, ⟨rfl, rfl, rv⟩, ⟨rfl, rfl, rd⟩, ⟨rfl, rfl, ru⟩, ⟨rfl, rfl, rr⟩, fs, ft, ⟨rfl, rfl, qd⟩, ⟨rfl, rfl, qu⟩, ⟨rfl, rfl, qr⟩⟩
    obtain ⟨g0, g1, g2, g3, g4, g5⟩ := id hG
    have sv := sv g0 g5
    have sd := sd g2
    have su := su g3
    have sr := sr g4
    refine Calls.mono (cmpP qd rv sd.1 sv.1 sd.2 sv.2) ?_
    rintro en w2 ⟨h2, rfl⟩
    refine ⟨_, rfl, h2, br_intro (fun h => absurd (of_decide_eq_true h) (by have := F.dv_; omega)) (fun _ => ?_)⟩
    refine Calls.mono (cmpP (qu.ahead h2) (rv.ahead h2) su.1 sv.1 su.2 sv.2) ?_
    rintro en w3 ⟨h3, rfl⟩
    refine ⟨_, rfl, h3, br_intro (fun h => absurd (of_decide_eq_true h) (by have := F.uv; omega)) (fun _ => ?_)⟩
    have h13 := h2.trans h3
    refine Calls.mono (sameD (rr.ahead h13) (rd.ahead h13) sr.1 sd.1) ?_
    rintro en w4 ⟨h4, rfl⟩
    have h14 := h13.trans h4
    refine ⟨_, rfl, h4, br_intro (fun hn => ?_) (fun _ => ?_)⟩
    · refine Calls.mono (sameD (rr.ahead h14) (ru.ahead h14) sr.1 su.1) ?_
      rintro en w5 ⟨h5, rfl⟩
      have h15 := h14.trans h5
      refine ⟨_, rfl, h5, br_intro (fun hm => ?_) (fun _ => ?_)⟩
      · exfalso
        have hn' : ¬ (zr = zd ∧ er = ed) := fun h => by rw [decide_eq_true h] at hn; cases hn
        have hm' : ¬ (zr = zu ∧ er = eu) := fun h => by rw [decide_eq_true h] at hm; cases hm
        exact F.rdu.elim hn' hm'
      refine Calls.mono (atD (pos := x1) (e := ed) (qd.ahead h15)) ?_
      rintro en w6 ⟨h6, rfl⟩
      refine ⟨_, rfl, h6, br_false (by simp [F.ad]) ?_⟩
      have h16 := h15.trans h6
      refine Calls.mono (atD (pos := x1) (e := eu) (qu.ahead h16)) ?_
      rintro en w7 ⟨h7, rfl⟩
      refine ⟨_, rfl, h7, br_false (by simp [F.au]) ?_⟩
      have E := (h16.trans h7).ext
      exact ⟨rfl, hG, ⟨rfl, rfl, rv.ext E⟩, ⟨rfl, rfl, Rd.ext rd E⟩, ⟨rfl, rfl, Rd.ext ru E⟩, ⟨rfl, rfl, Rd.ext rr E⟩, fs.ext E, ft.ext E, ⟨rfl, rfl, qd.ext E⟩, ⟨rfl, rfl, qu.ext E⟩, ⟨rfl, rfl, qr.ext E⟩⟩
    · have h15 := h14
      refine Calls.mono (atD (pos := x1) (e := ed) (qd.ahead h15)) ?_
      rintro en w6 ⟨h6, rfl⟩
      refine ⟨_, rfl, h6, br_false (by simp [F.ad]) ?_⟩
      have h16 := h15.trans h6
      refine Calls.mono (atD (pos := x1) (e := eu) (qu.ahead h16)) ?_
      rintro en w7 ⟨h7, rfl⟩
      refine ⟨_, rfl, h7, br_false (by simp [F.au]) ?_⟩
      have E := (h16.trans h7).ext
      exact ⟨rfl, hG, ⟨rfl, rfl, rv.ext E⟩, ⟨rfl, rfl, Rd.ext rd E⟩, ⟨rfl, rfl, Rd.ext ru E⟩, ⟨rfl, rfl, Rd.ext rr E⟩, fs.ext E, ft.ext E, ⟨rfl, rfl, qd.ext E⟩, ⟨rfl, rfl, qu.ext E⟩, ⟨rfl, rfl, qr.ext E⟩⟩
  · rintro t1 _ s6 _ _ s8 _ _ s10 _ _ s12 _ _ s16 _ _ s18 _ _ s20 _ _ s21 _ _ s22 _ w1 a1 ⟨rfl, hG, ⟨rfl, rfl, rv⟩, ⟨rfl, rfl, rd⟩, ⟨rfl, rfl, ru⟩, ⟨rfl, rfl, rr⟩, fs, ft, ⟨rfl, rfl, qd⟩, ⟨rfl, rfl, qu⟩, ⟨rfl, rfl, qr⟩⟩
    obtain ⟨g0, g1, g2, g3, g4, g5⟩ := id hG
    have sv := sv g0 g5
    have sd := sd g2
    have su := su g3
    have sr := sr g4
    refine Calls.mono (atD (pos := x1) (e := ev) rv) ?_
    rintro en w2 ⟨h2, rfl⟩
    refine ⟨_, rfl, h2, br_intro (fun ha => ?_) (fun ha => ?_)⟩
    · have hx := F.ex (of_decide_eq_true ha)
      refine Calls.mono (sameD (rd.ahead h2) (ru.ahead h2) sd.1 su.1) ?_
      rintro en w3 ⟨h3, rfl⟩
      have h13 := h2.trans h3
      refine ⟨_, rfl, h3, br_true (decide_eq_true hx.1) ?_⟩
      refine Calls.mono (cmpP (qd.ahead h13) (rv.ahead h13) sd.1 sv.1 sd.2 sv.2) ?_
      rintro en w4 ⟨h4, rfl⟩
      exact ⟨_, rfl, h4, br_true (by rw [hx.2]; rfl) (aw _ (a1.trans (h13.trans h4)))⟩
    · have ha' := of_decide_eq_false ha
      refine Calls.mono (int1 g1) ?_
      rintro en w3 ⟨h3, s23, rfl, r23⟩
      have h13 := h2.trans h3
      refine ⟨_, _, _, rfl, h3, fun w4 X4 a4 => ?_⟩
      have e4 := h13.ext.trans X4
      refine Calls.mono (dNeg_spec (e := ed) (qd.ext e4)) ?_
      rintro en w5 ⟨h5, s13, rfl, r13⟩
      refine ⟨_, _, _, rfl, h5, fun w6 X6 a6 => ?_⟩
      have e6 := e4.trans (h5.ext.trans X6)
      refine Calls.mono (addP (qu.ext e6) (r13.ext X6) nu nd.neg su.1 (by rw [Int.natAbs_neg]; exact sd.1) su.2 sd.2) ?_
      rintro en w7 ⟨h7, Zg, Eg, s14, fl, rfl, rg, _, hs⟩
      refine ⟨_, _, _, _, rfl, h7, fun w8 X8 a8 => ?_⟩
      have e8 := h7.ext.trans X8
      have E := e6.trans e8
      exact ⟨rfl, hG, ha', ⟨rfl, rfl, rv.ext E⟩, ⟨rfl, rfl, Rd.ext rd E⟩, ⟨rfl, rfl, Rd.ext ru E⟩, ⟨rfl, rfl, Rd.ext rr E⟩, fs.ext E, ft.ext E, ⟨rfl, rfl, qd.ext E⟩, ⟨rfl, rfl, qu.ext E⟩, ⟨rfl, rfl, qr.ext E⟩, ⟨rfl, rfl, r23.ext (X4.trans (h5.ext.trans (X6.trans e8)))⟩, Zg, Eg, ⟨rfl, rfl, rg.ext X8⟩, hs⟩
  · rintro t1 t7 _ s6 _ _ s8 _ _ s10 _ _ s12 _ _ s16 _ _ s18 _ _ s20 _ _ s21 _ _ s22 _ _ s23 _ b24 s24 x24 w1 a1 ⟨rfl, hG, ha, ⟨rfl, rfl, rv⟩, fd, fu, fr, fs, ft, ⟨rfl, rfl, qd⟩, ⟨rfl, rfl, qu⟩, ⟨rfl, rfl, qr⟩, ⟨rfl, rfl, q1⟩, Zg, Eg, qg, hg⟩
    obtain ⟨g0, g1, g2, g3, g4, g5⟩ := id hG
    have sv := sv g0 g5
    have sd := sd g2
    intro w4 X4 a4
    refine Calls.mono (dNeg_spec (e := ed) (qd.ext X4)) ?_
    rintro en w5 ⟨h5, s15, rfl, r15⟩
    refine ⟨_, _, _, rfl, h5, fun w6 X6 a6 => ?_⟩
    have e6 := X4.trans (h5.ext.trans X6)
    refine Calls.mono (addP (rv.ext e6) (r15.ext X6) nv nd.neg sv.1 (by rw [Int.natAbs_neg]; exact sd.1) sv.2 sd.2) ?_
    rintro en w7 ⟨h7, Z1, E1, s16', fl, rfl, r1, _, hs⟩
    refine ⟨_, _, _, _, rfl, h7, fun w8 X8 a8 => ?_⟩
    have E := e6.trans (h7.ext.trans X8)
    exact ⟨rfl, hG, ha, ⟨rfl, rfl, rv.ext E⟩, fd.ext E, fu.ext E, fr.ext E, fs.ext E, ft.ext E, ⟨rfl, rfl, qu.ext E⟩, ⟨rfl, rfl, qr.ext E⟩, ⟨rfl, rfl, q1.ext E⟩, ⟨Zg, Eg, qg.ext E, hg⟩, Z1, E1, ⟨rfl, rfl, r1.ext X8⟩, hs⟩
  · rintro t1 t7 t26 _ s6 _ _ s8 _ _ s10 _ _ s12 _ _ s16 _ _ s18 _ _ s21 _ _ s22 _ _ s23 _ b24 s24 x24 b25 s25 x25 w1 a1 ⟨rfl, hG, ha, ⟨rfl, rfl, rv⟩, fd, fu, fr, fs, ft, ⟨rfl, rfl, qu⟩, ⟨rfl, rfl, qr⟩, ⟨rfl, rfl, q1⟩, ⟨Zg, Eg, qg, hg⟩, Z1, E1, p1, hs1⟩
    obtain ⟨g0, g1, g2, g3, g4, g5⟩ := id hG
    have sv := sv g0 g5
    have su := su g3
    intro w4 X4 a4
    refine Calls.mono (dNeg_spec (e := ev) (rv.ext X4)) ?_
    rintro en w5 ⟨h5, s15, rfl, r15⟩
    refine ⟨_, _, _, rfl, h5, fun w6 X6 a6 => ?_⟩
    have e6 := X4.trans (h5.ext.trans X6)
    refine Calls.mono (addP (qu.ext e6) (r15.ext X6) nu nv.neg su.1 (by rw [Int.natAbs_neg]; exact sv.1) su.2 sv.2) ?_
    rintro en w7 ⟨h7, Z2, E2, s16', fl, rfl, r2, _, hs⟩
    refine ⟨_, _, _, _, rfl, h7, fun w8 X8 a8 => ?_⟩
    have E := e6.trans (h7.ext.trans X8)
    exact ⟨rfl, hG, ha, fd.ext E, fu.ext E, fr.ext E, fs.ext E, ft.ext E, ⟨rfl, rfl, qu.ext E⟩, ⟨rfl, rfl, qr.ext E⟩, ⟨rfl, rfl, q1.ext E⟩, ⟨Zg, Eg, qg.ext E, hg⟩, Z1, E1, Z2, E2, p1.ext E, hs1, ⟨rfl, rfl, r2.ext X8⟩, hs⟩
  · rintro t1 t7 t26 t28 b8 s8 x8 b10 s10 x10 b12 s12 x12 b16 s16 x16 b18 s18 x18 b21 s21 x21 b22 s22 x22 _ s23 _ _ s24 _ b25 s25 x25 b27 s27 x27 w1 a1 ⟨rfl, hG, ha, fd, fu, fr, fs, ft, fU, fN, ⟨rfl, rfl, q1⟩, ⟨Zg, Eg, ⟨rfl, rfl, qg⟩, hg⟩, Z1, E1, Z2, E2, p1, hs1, p2, hs2⟩
    obtain ⟨g0, g1, g2, g3, g4, g5⟩ := id hG
    refine br_intro (fun h7 => ?_) (fun h7 => ⟨rfl, hG, ha, fd, fu, fr, fs, ft, fU, fN, Z1, E1, Z2, E2, p1, hs1, p2, hs2⟩)
    have S := hg h7
    have hb1 : (digs B32 (1 : Int).natAbs).length ≤ 1 := digs_length_le two32 (by rw [B32v]; decide)
    refine Calls.mono (dCmpZ (e := Eg) (e' := x1) qg q1 (by have := S.len; omega) (by omega) (S.far (su g3).2 (sd g2).2) (by unfold wi at g1; unfold far; omega)) ?_
    rintro en w2 ⟨h2, rfl⟩
    have E := h2.ext
    refine ⟨_, rfl, h2, br_false (by rw [F.gap ha _ _ S]; rfl) ⟨rfl, hG, ha, fd.ext E, fu.ext E, fr.ext E, fs.ext E, ft.ext E, fU.ext E, fN.ext E, Z1, E1, Z2, E2, p1.ext E, hs1, p2.ext E, hs2⟩⟩
  · rintro t1 t26 t28 b8 s8 x8 b10 s10 x10 b12 s12 x12 b16 s16 x16 b18 s18 x18 b21 s21 x21 b22 s22 x22 b25 s25 x25 b27 s27 x27 w1 a1 ⟨rfl, hG, ha, fd, fu, fr, fs, ft, fU, fN, Z1, E1, Z2, E2, p1, hs1, p2, hs2⟩
    exact br_intro (fun h => ⟨rfl, hG, ha, fd, fu, fr, fs, ft, fU, fN, Z1, E1, Z2, E2, p1, p2, fun h' => ⟨hs1 h, hs2 h'⟩⟩) (fun h => ⟨rfl, hG, ha, fd, fu, fr, fs, ft, fU, fN, Z1, E1, Z2, E2, p1, p2, fun h' => by cases h'⟩)
  · rintro t1 t181 _ s8 _ _ s10 _ _ s12 _ b16 s16 x16 b18 s18 x18 b21 s21 x21 _ s22 _ _ s25 _ _ s27 _ w1 a1 ⟨rfl, hG, ha, ⟨rfl, rfl, rd⟩, ⟨rfl, rfl, ru⟩, ⟨rfl, rfl, rr⟩, fs, ft, fU, ⟨rfl, rfl, qr⟩, Z1, E1, Z2, E2, ⟨rfl, rfl, p1⟩, ⟨rfl, rfl, p2⟩, hS⟩
    obtain ⟨g0, g1, g2, g3, g4, g5⟩ := id hG
    have sv := sv g0 g5
    have sd := sd g2
    have su := su g3
    have sr := sr g4
    refine br_intro (fun h => ?_) (fun h => ⟨hG, fs, ft, fU, ⟨rfl, rfl, qr⟩⟩)
    obtain ⟨S1, S2⟩ := hS h
    obtain ⟨f1, f2, f3⟩ := F.near ha _ _ _ _ S1 S2
    refine Calls.mono (dCmpZ (e := E1) (e' := E2) p1 p2 (by have := S1.len; omega) (by have := S2.len; omega) (S1.far sv.2 sd.2) (S2.far su.2 sv.2)) ?_
    rintro en w2 ⟨h2, rfl⟩
    have fin : ∀ w3, Ahead w1 w3 → (wi e0 ∧ wi x1 ∧ cd = 0 ∧ cu = 0 ∧ cr = 0 ∧ cn = 0) ∧ PN zs es b16 s16 x16 w3 ∧ PN zt et b18 s18 x18 w3 ∧ QN zu eu b21 s21 x21 w3 ∧ QN zr er (zb zr) s22 er w3 := fun w3 h => ⟨hG, fs.ext h.ext, ft.ext h.ext, fU.ext h.ext, ⟨rfl, rfl, qr.ahead h⟩⟩
    have hwp : IntKind.i64.wrap (x1 + 1) = x1 + 1 := wrap_i64 (by unfold wi at g1; omega) (by unfold wi at g1; omega)
    refine ⟨_, rfl, h2, br_intro (fun hc => ?_) (fun hc => ?_)⟩
    · have hc' := of_decide_eq_true hc
      refine Calls.mono (sameD (rr.ahead h2) (rd.ahead h2) sr.1 sd.1) ?_
      rintro en w3 ⟨h3, rfl⟩
      refine ⟨_, rfl, h3, br_false (by simp [f1 hc']) ?_⟩
      refine br_intro (fun hd => by have := of_decide_eq_true hd; omega) (fun _ => ?_)
      refine br_intro (fun hd => by have := eq_of_beq hd; omega) (fun _ => fin _ (h2.trans h3))
    · have hc' := of_decide_eq_false hc
      refine br_intro (fun hd => ?_) (fun hd => ?_)
      · have hd' := of_decide_eq_true hd
        refine Calls.mono (sameD (rr.ahead h2) (ru.ahead h2) sr.1 su.1) ?_
        rintro en w3 ⟨h3, rfl⟩
        refine ⟨_, rfl, h3, br_false (by simp [f2 hd']) ?_⟩
        refine br_intro (fun hd => by have := eq_of_beq hd; omega) (fun _ => fin _ (h2.trans h3))
      · refine br_intro (fun he => ?_) (fun he => fin _ h2)
        have he' := eq_of_beq he
        rw [hwp]
        refine Calls.mono (atD (pos := x1 + 1) (e := er) (qr.ahead h2)) ?_
        rintro en w3 ⟨h3, rfl⟩
        exact ⟨_, rfl, h3, br_false (by simp [f3 he']) (fin _ (h2.trans h3))⟩
  · rintro _ s16 _ _ s18 _ _ s21 _ _ s22 _ w1 a1 ⟨hG, ⟨rfl, rfl, rs⟩, ⟨rfl, rfl, rt⟩, ⟨rfl, rfl, qu⟩, ⟨rfl, rfl, qr⟩⟩
    obtain ⟨g0, g1, g2, g3, g4, g5⟩ := id hG
    have su := su g3
    have sr := sr g4
    have ss := ss g3
    have st := st g4
    intro w2 X2 a2
    refine Calls.mono (readP ns (Rd.ext rs X2) ss.1 ss.2) ?_
    rintro en w3 ⟨h3, s3, rfl, r3⟩
    refine ⟨_, _, _, rfl, h3, Calls.mono (dNeg_spec (e := es) r3) ?_⟩
    rintro en w4 ⟨h4, s4, rfl, r4⟩
    have e4 := X2.trans (h3.trans h4).ext
    refine ⟨_, _, _, rfl, h4, Calls.mono (cmpP (e := es) r4 (qu.ext e4) (by rw [Int.natAbs_neg]; exact ss.1) su.1 ss.2 su.2) ?_⟩
    rintro en w5 ⟨h5, rfl⟩
    have h35 := (h3.trans h4).trans h5
    have e5 := X2.trans h35.ext
    refine ⟨_, rfl, h5, br_true (by rw [F.sn.1, F.sn.2, dcmp_self]; rfl) ?_⟩
    refine Calls.mono (readP nt (Rd.ext rt e5) st.1 st.2) ?_
    rintro en w6 ⟨h6, s6, rfl, r6⟩
    refine ⟨_, _, _, rfl, h6, Calls.mono (dNeg_spec (e := et) r6) ?_⟩
    rintro en w7 ⟨h7, s7, rfl, r7⟩
    have e7 := e5.trans (h6.trans h7).ext
    refine ⟨_, _, _, rfl, h7, Calls.mono (cmpP (e := et) r7 (qr.ext e7) (by rw [Int.natAbs_neg]; exact st.1) sr.1 st.2 sr.2) ?_⟩
    rintro en w8 ⟨h8, rfl⟩
    exact ⟨_, rfl, h8, br_true (by rw [F.tn.1, F.tn.2, dcmp_self]; rfl) (aw _ (a2.trans (h35.trans ((h6.trans h7).trans h8))))⟩
end Dy
end Go.Proofs.YtlkjgafnjmfgiaaDoor
