/- What the law leans on, part 6. No condition. -/
import Derived.Test.YtahbekmnphkiiaaDoorZDyadicRing5
namespace Go.Proofs.YtahbekmnphkiiaaDoor
open Go Go.RowKit Eng Sp Dg L2
set_option linter.unusedVariables false
set_option linter.unusedSimpArgs false
set_option maxRecDepth 100000
namespace Dy
open _root_.Go.Proofs.YtahbekmnphkiiaaDoor.Nat (OwnNil Num Num.bl Num.ext Num.ahead OwnNil.mono OwnNil.ext OwnNil.rd OwnNil.ahead OwnNil.nil digs_len_bl num_of Yes)
open _root_.Go.Proofs.YtahbekmnphkiiaaDoor.Ref (RN len_mono)
open Sb

theorem vz_ans {z E : Int} (h : NZ z E) : vz (zb z) z.natAbs = z ∧ eD z.natAbs E = E := by
  refine ⟨?_, h.nf.eD⟩
  unfold vz
  rw [zb_nD, h.o, sg_zb]
theorem vz_nz (neg : Bool) (x : Nat) (e : Int) : NZ (vz neg x) (eD x e) := (NF.of neg x e).nz
theorem small_digs {z : Int} (h : bl z.natAbs ≤ 67108864) : (digs B64 z.natAbs).length ≤ 2 ^ 20 := digs_len_bl (by omega)
theorem Scale0_spec {w : World} {neg : Bool} {s : Slc} {x : Nat} {e : Int} (hT : Tab w) (h : Num w s x) :
    Calls pr dyadic_Scale_id #[.agg (c3 neg s e), .int .i64 0] w fun en w' => Ahead w w' ∧ DAns (fun Z E => ∀ b, b ≤ 0 → b ≤ eD x e → Vl Z E b (dv (vz neg x) (eD x e) b)) en w' := by
  refine Calls.mono (Scale_spec (k := 0) hT h) ?_
  rintro en w1 ⟨h1, t, rfl, ot⟩
  refine ⟨h1, _, _, _, _, rfl, fun hc => ?_⟩
  rw [if_pos hc] at ot
  rw [if_pos hc, if_pos hc]
  have hw : wi e := by
    by_cases h : wi e
    · exact h
    · rw [scC, if_neg h] at hc; omega
  rw [scC, if_pos hw, if_pos (by unfold wi; omega)] at hc
  obtain ⟨q1, q2⟩ := tC_zero hc
  refine ⟨sg (nD (nD neg x) (od x)) (od (od x)), ?_, ?_, q2, (NF.of (nD neg x) (od x) (eD x e + 0)).nz, ?_, ?_⟩
  · rw [(NF.of (nD neg x) (od x) (eD x e + 0)).zb]
  · rw [sg_abs]; exact q1
  · rw [sg_abs]; exact ot.rd
  · intro b h0 h1
    refine Vl.told (by omega) h0 ?_
    rw [Int.add_zero]; rfl
theorem sgn_cmp {z E b x y : Int} (h : Vl z E b (x - y)) : sgn (zb z) z.natAbs = cmpZ x y := by
  obtain ⟨h1, h2⟩ := h.sgn
  have : sgn (zb z) z.natAbs = if z = 0 then 0 else if z < 0 then -1 else 1 := by
    unfold sgn zb
    by_cases q : z = 0
    · rw [if_pos (by omega), if_pos q]
    · rw [if_neg (by omega), if_neg q]
      by_cases q3 : z < 0
      · rw [if_pos (decide_eq_true q3), if_pos q3]
      · rw [if_neg (by simp; omega), if_neg q3]
  rw [this]
  unfold cmpZ
  split <;> (try split) <;> (try split) <;> (try split) <;> omega

set_option maxHeartbeats 4000000 in
theorem DyadicRing_ok {w : World} (hT : Tab w) {n0 : Bool} {s0 : Slc} {e0 : Int} {l0 : List Nat} (r0 : Rd .u64 w s0 (nn l0)) (o0 : ok B64 l0) (z0 : l0.length * 8 ≤ 140737488351232) (he0 : -9223372036854775808 ≤ e0 ∧ e0 ≤ 9223372036854775807)
    {n1 : Bool} {s1 : Slc} {e1 : Int} {l1 : List Nat} (r1 : Rd .u64 w s1 (nn l1)) (o1 : ok B64 l1) (z1 : l1.length * 8 ≤ 140737488351232) (he1 : -9223372036854775808 ≤ e1 ∧ e1 ≤ 9223372036854775807)
    {n2 : Bool} {s2 : Slc} {e2 : Int} {l2 : List Nat} (r2 : Rd .u64 w s2 (nn l2)) (o2 : ok B64 l2) (z2 : l2.length * 8 ≤ 140737488351232) (he2 : -9223372036854775808 ≤ e2 ∧ e2 ≤ 9223372036854775807) :
    Calls pr surdlaw08_DyadicRing_id #[.agg (c3 n0 s0 e0), .agg (c3 n1 s1 e1), .agg (c3 n2 s2 e2)] w (Yes w) := by
  have hl0 := Nat.len_le o0
  have hl1 := Nat.len_le o1
  have hl2 := Nat.len_le o2
  have N0 : Num w s0 (val B64 l0) := num_of r0 o0 z0
  have N1 : Num w s1 (val B64 l1) := num_of r1 o1 z1
  have N2 : Num w s2 (val B64 l2) := num_of r2 o2 z2
  generalize val B64 l0 = X at *
  generalize val B64 l1 = Y at *
  generalize val B64 l2 = Z at *
  have aw : ∀ w3 : World, Ahead w w3 → Calls pr surdlaw08_awake_id #[] w3 fun e1 w4 => ∃ b1 : Bool, e1 = .returned (Value.bool b1) ∧ Ahead w3 w4 ∧ (Ending.returned (Value.bool b1) = .returned (.bool true)) := by
    intro w3 a3
    refine Calls.mono (awake_spec (hT.ahead a3)) ?_
    rintro e w4 ⟨rfl, h4⟩
    exact ⟨_, rfl, h4, rfl⟩
  refine Calls.mono (surdlaw08_DyadicRing_v2 n0 s0 e0 n1 s1 e1 n2 s2 e2 w (fun e _ => e = .returned (.bool true))
    (fun a b c d e f g h i _ => n0 = a ∧ s0 = b ∧ e0 = c ∧ n1 = d ∧ s1 = e ∧ e1 = f ∧ n2 = g ∧ s2 = h ∧ e2 = i) ?_ ?_) fun e w' ⟨h1, h2⟩ => ⟨h2, h1⟩
  · intro w1 X1 a1
    refine Calls.mono in_spec ?_
    rintro en w2 ⟨h2, rfl⟩
    refine ⟨_, _, _, rfl, h2, fun w3 X3 a3 => Calls.mono in_spec ?_⟩
    rintro en w4 ⟨h4, rfl⟩
    refine ⟨_, _, _, rfl, h4, fun w5 X5 a5 => Calls.mono in_spec ?_⟩
    rintro en w6 ⟨h6, rfl⟩
    exact ⟨_, _, _, rfl, h6, fun w7 X7 a7 => ⟨rfl, rfl, rfl, rfl, rfl, rfl, rfl, rfl, rfl⟩⟩
  rintro _ _ _ _ _ _ _ _ _ u0 A0 ⟨rfl, rfl, rfl, rfl, rfl, rfl, rfl, rfl, rfl⟩
  refine Calls.mono (DMul_spec (hT.ahead A0) (N0.ahead A0) (N1.ahead A0) (by omega) (by omega)) ?_
  rintro en v1 ⟨h1, k1, m1, t1, E1, rfl, g1⟩
  refine ⟨_, _, _, _, rfl, h1, fun u1 X1 A1 => ?_⟩
  replace g1 := Got.ext g1 X1
  refine Calls.mono (DMul_spec (hT.ahead A1) (N1.ahead A1) (N0.ahead A1) (by omega) (by omega)) ?_
  rintro en v2 ⟨h2, k2, m2, t2, E2, rfl, g2⟩
  refine ⟨_, _, _, _, rfl, h2, fun u2 X2 A2 => ?_⟩
  replace g2 := Got.ext g2 X2
  replace g1 := Got.ext g1 (h2.ext.trans X2)
  refine Calls.mono (DMul_spec (hT.ahead A2) (N0.ahead A2) (N2.ahead A2) (by omega) (by omega)) ?_
  rintro en v3 ⟨h3, k3, m3, t3, E3, rfl, g3⟩
  refine ⟨_, _, _, _, rfl, h3, fun u3 X3 A3 => ?_⟩
  replace g3 := Got.ext g3 X3
  replace g1 := Got.ext g1 (h3.ext.trans X3)
  replace g2 := Got.ext g2 (h3.ext.trans X3)
  refine Calls.mono (DMul_spec (hT.ahead A3) (N1.ahead A3) (N2.ahead A3) (by omega) (by omega)) ?_
  rintro en v4 ⟨h4, k4, m4, t4, E4, rfl, g4⟩
  refine ⟨_, _, _, _, rfl, h4, fun u4 X4 A4 => ?_⟩
  replace g4 := Got.ext g4 X4
  replace g1 := Got.ext g1 (h4.ext.trans X4)
  replace g2 := Got.ext g2 (h4.ext.trans X4)
  replace g3 := Got.ext g3 (h4.ext.trans X4)
  refine Calls.mono (Add_spec (hT.ahead A4) (N1.ahead A4) (N2.ahead A4) (by omega) (by omega)) ?_
  rintro en v5 ⟨h5, k5, m5, t5, E5, rfl, g5⟩
  refine ⟨_, _, _, _, rfl, h5, fun u5 X5 A5 => ?_⟩
  replace g5 := Got.ext g5 X5
  replace g1 := Got.ext g1 (h5.ext.trans X5)
  replace g2 := Got.ext g2 (h5.ext.trans X5)
  replace g3 := Got.ext g3 (h5.ext.trans X5)
  replace g4 := Got.ext g4 (h5.ext.trans X5)
  refine Calls.mono (Add_spec (hT.ahead A5) (N2.ahead A5) (N1.ahead A5) (by omega) (by omega)) ?_
  rintro en v6 ⟨h6, k6, m6, t6, E6, rfl, g6⟩
  refine ⟨_, _, _, _, rfl, h6, fun u6 X6 A6 => ?_⟩
  replace g6 := Got.ext g6 X6
  replace g1 := Got.ext g1 (h6.ext.trans X6)
  replace g2 := Got.ext g2 (h6.ext.trans X6)
  replace g3 := Got.ext g3 (h6.ext.trans X6)
  replace g4 := Got.ext g4 (h6.ext.trans X6)
  replace g5 := Got.ext g5 (h6.ext.trans X6)
  refine Calls.mono (Sub_spec (hT.ahead A6) (N0.ahead A6) (N1.ahead A6) (by omega) (by omega)) ?_
  rintro en v7 ⟨h7, k7, m7, t7, E7, rfl, g7⟩
  refine ⟨_, _, _, _, rfl, h7, fun u7 X7 A7 => ?_⟩
  replace g7 := Got.ext g7 X7
  replace g1 := Got.ext g1 (h7.ext.trans X7)
  replace g2 := Got.ext g2 (h7.ext.trans X7)
  replace g3 := Got.ext g3 (h7.ext.trans X7)
  replace g4 := Got.ext g4 (h7.ext.trans X7)
  replace g5 := Got.ext g5 (h7.ext.trans X7)
  replace g6 := Got.ext g6 (h7.ext.trans X7)
  refine Calls.mono (Compare_spec (hT.ahead A7) (N0.ahead A7) (N1.ahead A7) (by omega) (by omega)) ?_
  rintro en v8 ⟨h8, rfl⟩
  have A8 := A7.trans h8
  refine ⟨_, _, rfl, h8, all_lit [k1, k2, k3, k4, k5, k6, k7, twC e0 e1] (by simp) rfl rfl (fun hno w9 h9 => br_true rfl (aw w9 (A8.trans h9))) (fun hyes u9 h9 => br_false rfl ?_)⟩
  replace g1 := Got.ext g1 (h8.trans h9).ext (hyes _ (by simp))
  replace g2 := Got.ext g2 (h8.trans h9).ext (hyes _ (by simp))
  replace g3 := Got.ext g3 (h8.trans h9).ext (hyes _ (by simp))
  replace g4 := Got.ext g4 (h8.trans h9).ext (hyes _ (by simp))
  replace g5 := Got.ext g5 (h8.trans h9).ext (hyes _ (by simp))
  replace g6 := Got.ext g6 (h8.trans h9).ext (hyes _ (by simp))
  replace g7 := Got.ext g7 (h8.trans h9).ext (hyes _ (by simp))
  have hc8 : twC e0 e1 = 0 := hyes _ (by simp)
  rw [if_pos hc8]
  clear hyes hc8
  have A9 := A8.trans h9
  obtain ⟨q1, rfl, B1, F1, Z1, R1, -, -, P1⟩ := g1
  have d1 := small_digs B1
  have M1 := num_of_digs R1 (by omega)
  obtain ⟨a1, b1'⟩ := vz_ans Z1
  obtain ⟨q2, rfl, B2, F2, Z2, R2, -, -, P2⟩ := g2
  have d2 := small_digs B2
  have M2 := num_of_digs R2 (by omega)
  obtain ⟨a2, b2'⟩ := vz_ans Z2
  obtain ⟨q3, rfl, B3, F3, Z3, R3, -, -, P3⟩ := g3
  have d3 := small_digs B3
  have M3 := num_of_digs R3 (by omega)
  obtain ⟨a3, b3'⟩ := vz_ans Z3
  obtain ⟨q4, rfl, B4, F4, Z4, R4, -, -, P4⟩ := g4
  have d4 := small_digs B4
  have M4 := num_of_digs R4 (by omega)
  obtain ⟨a4, b4'⟩ := vz_ans Z4
  obtain ⟨q5, rfl, B5, F5, Z5, R5, -, -, P5⟩ := g5
  have d5 := small_digs B5
  have M5 := num_of_digs R5 (by omega)
  obtain ⟨a5, b5'⟩ := vz_ans Z5
  obtain ⟨q6, rfl, B6, F6, Z6, R6, -, -, P6⟩ := g6
  have d6 := small_digs B6
  have M6 := num_of_digs R6 (by omega)
  obtain ⟨a6, b6'⟩ := vz_ans Z6
  obtain ⟨q7, rfl, B7, F7, Z7, R7, -, -, P7⟩ := g7
  have d7 := small_digs B7
  have M7 := num_of_digs R7 (by omega)
  obtain ⟨a7, b7'⟩ := vz_ans Z7
  obtain ⟨b, hb0, hbx, hby, hbz⟩ : ∃ b : Int, b ≤ 0 ∧ b ≤ eD X e0 ∧ b ≤ eD Y e1 ∧ b ≤ eD Z e2 := ⟨min (min (eD X e0) (eD Y e1)) (min (eD Z e2) 0), by omega, by omega, by omega, by omega⟩
  have b2 : b + b ≤ 0 := by omega
  replace P1 := P1 b b hb0 hb0 hbx hby
  replace P2 := P2 b b hb0 hb0 hby hbx
  replace P3 := P3 b b hb0 hb0 hbx hbz
  replace P4 := P4 b b hb0 hb0 hby hbz
  replace P5 := P5 b hb0 hby hbz
  replace P6 := P6 b hb0 hbz hby
  replace P7 := P7 b hb0 hbx hby
  have VX : Vl (vz n0 X) (eD X e0) b (dv (vz n0 X) (eD X e0) b) := ⟨vz_nz _ _ _, hbx, rfl⟩
  have VY : Vl (vz n1 Y) (eD Y e1) b (dv (vz n1 Y) (eD Y e1) b) := ⟨vz_nz _ _ _, hby, rfl⟩
  have VZ : Vl (vz n2 Z) (eD Z e2) b (dv (vz n2 Z) (eD Z e2) b) := ⟨vz_nz _ _ _, hbz, rfl⟩
  have hk : dcmp (sg (nD n0 X) (od X)) (eD X e0) (sg (nD n1 Y) (od Y)) (eD Y e1) = _ := VX.cmp VY
  rw [dv_neg, ← Int.sub_eq_add_neg] at P7
  have hsg := sgn_cmp P7
  rw [← hk] at hsg
  rw [Int.mul_comm] at P2
  rw [Int.add_comm] at P6
  obtain ⟨rfl, rfl⟩ := P1.eq P2
  obtain ⟨rfl, rfl⟩ := P5.eq P6
  have st1 : ∀ u', Ext u9 u' → Calls pr surdlaw08_same_id #[.agg (c3 (zb q1) t1 E1), .agg (c3 (zb q1) t2 E1)] u' fun en w' => Ahead u' w' ∧ en = .returned (.bool true) := fun u' x => same_spec (R1.ext x) (R2.ext x) (by omega) (zb_nD _)
  have st2 : ∀ u', Ext u9 u' → Calls pr surdlaw08_same_id #[.agg (c3 (zb q5) t5 E5), .agg (c3 (zb q5) t6 E5)] u' fun en w' => Ahead u' w' ∧ en = .returned (.bool true) := fun u' x => same_spec (R5.ext x) (R6.ext x) (by omega) (zb_nD _)
  have st3 : ∀ u', Ext u9 u' → Calls pr dyadic_Sign_id #[.agg (c3 (zb q7) t7 E7)] u' fun en w' => Ahead u' w' ∧ en = .returned (.int .i64 (sgn (zb q7) q7.natAbs)) := fun u' x => dSign_spec (M7.ext x)
  have Y9 : Ext u9 u9 := Ext.refl _
  refine Calls.mono (DMul_spec (hT.ahead A9) (M1.ext Y9) (N2.ahead A9) (by omega) (by omega)) ?_
  rintro en v10 ⟨h10, k10, m10, t10, E10, rfl, g10⟩
  refine ⟨_, _, _, _, rfl, h10, fun u10 X10 A10 => ?_⟩
  have Y10 := Y9.trans (h10.ext.trans X10)
  replace g10 := Got.ext g10 X10
  refine Calls.mono (DMul_spec (hT.ahead A10) (N0.ahead A10) (M4.ext Y10) (by omega) (by omega)) ?_
  rintro en v11 ⟨h11, k11, m11, t11, E11, rfl, g11⟩
  refine ⟨_, _, _, _, rfl, h11, fun u11 X11 A11 => ?_⟩
  have Y11 := Y10.trans (h11.ext.trans X11)
  replace g11 := Got.ext g11 X11
  replace g10 := Got.ext g10 (h11.ext.trans X11)
  refine Calls.mono (DMul_spec (hT.ahead A11) (N0.ahead A11) (M5.ext Y11) (by omega) (by omega)) ?_
  rintro en v12 ⟨h12, k12, m12, t12, E12, rfl, g12⟩
  refine ⟨_, _, _, _, rfl, h12, fun u12 X12 A12 => ?_⟩
  have Y12 := Y11.trans (h12.ext.trans X12)
  replace g12 := Got.ext g12 X12
  replace g10 := Got.ext g10 (h12.ext.trans X12)
  replace g11 := Got.ext g11 (h12.ext.trans X12)
  refine Calls.mono (Add_spec (hT.ahead A12) (M1.ext Y12) (M3.ext Y12) (by omega) (by omega)) ?_
  rintro en v13 ⟨h13, k13, m13, t13, E13, rfl, g13⟩
  refine ⟨_, _, _, _, rfl, h13, fun u13 X13 A13 => ?_⟩
  have Y13 := Y12.trans (h13.ext.trans X13)
  replace g13 := Got.ext g13 X13
  replace g10 := Got.ext g10 (h13.ext.trans X13)
  replace g11 := Got.ext g11 (h13.ext.trans X13)
  replace g12 := Got.ext g12 (h13.ext.trans X13)
  refine Calls.mono (Add_spec (hT.ahead A13) (M7.ext Y13) (N1.ahead A13) (by omega) (by omega)) ?_
  rintro en v14 ⟨h14, k14, m14, t14, E14, rfl, g14⟩
  refine ⟨_, _, _, _, rfl, h14, fun u14 X14 A14 => ?_⟩
  have Y14 := Y13.trans (h14.ext.trans X14)
  replace g14 := Got.ext g14 X14
  replace g10 := Got.ext g10 (h14.ext.trans X14)
  replace g11 := Got.ext g11 (h14.ext.trans X14)
  replace g12 := Got.ext g12 (h14.ext.trans X14)
  replace g13 := Got.ext g13 (h14.ext.trans X14)
  refine Calls.mono (Scale0_spec (hT.ahead A14) (N0.ahead A14)) ?_
  rintro en v15 ⟨h15, k15, m15, t15, E15, rfl, g15⟩
  refine ⟨_, _, _, _, rfl, h15, fun u15 X15 A15 => ?_⟩
  have Y15 := Y14.trans (h15.ext.trans X15)
  replace g15 := Got.ext g15 X15
  replace g10 := Got.ext g10 (h15.ext.trans X15)
  replace g11 := Got.ext g11 (h15.ext.trans X15)
  replace g12 := Got.ext g12 (h15.ext.trans X15)
  replace g13 := Got.ext g13 (h15.ext.trans X15)
  replace g14 := Got.ext g14 (h15.ext.trans X15)
  refine all_lit [k10, k11, k12, k13, k14, k15] (by simp) rfl rfl (fun hno u16 h16 => br_true rfl ?_) (fun hyes u16 h16 => br_false rfl ?_)
  · refine Calls.mono (st1 u16 (Y15.trans h16.ext)) ?_
    rintro en v17 ⟨h17, rfl⟩
    refine ⟨_, rfl, h17, br_true rfl (Calls.mono (st2 v17 ((Y15.trans h16.ext).trans h17.ext)) ?_)⟩
    rintro en v18 ⟨h18, rfl⟩
    refine ⟨_, rfl, h18, br_true rfl (Calls.mono (st3 v18 (((Y15.trans h16.ext).trans h17.ext).trans h18.ext)) ?_)⟩
    rintro en v19 ⟨h19, rfl⟩
    have A19 := ((A15.trans h16).trans h17).trans (h18.trans h19)
    exact ⟨_, rfl, h19, br_true (by rw [hsg]; exact beq_self_eq_true _) (aw v19 A19)⟩
  · skip
    replace g10 := Got.ext g10 h16.ext (hyes _ (by simp))
    obtain ⟨q10, rfl, B10, F10, Z10, R10, -, -, P10⟩ := g10
    have d10 := small_digs B10
    replace g11 := Got.ext g11 h16.ext (hyes _ (by simp))
    obtain ⟨q11, rfl, B11, F11, Z11, R11, -, -, P11⟩ := g11
    have d11 := small_digs B11
    replace g12 := Got.ext g12 h16.ext (hyes _ (by simp))
    obtain ⟨q12, rfl, B12, F12, Z12, R12, -, -, P12⟩ := g12
    have d12 := small_digs B12
    replace g13 := Got.ext g13 h16.ext (hyes _ (by simp))
    obtain ⟨q13, rfl, B13, F13, Z13, R13, -, -, P13⟩ := g13
    have d13 := small_digs B13
    replace g14 := Got.ext g14 h16.ext (hyes _ (by simp))
    obtain ⟨q14, rfl, B14, F14, Z14, R14, -, -, P14⟩ := g14
    have d14 := small_digs B14
    replace g15 := Got.ext g15 h16.ext (hyes _ (by simp))
    obtain ⟨q15, rfl, B15, F15, Z15, R15, P15⟩ := g15
    have d15 := small_digs B15
    rw [a1, b1'] at P10
    rw [a4, b4'] at P11
    rw [a5, b5'] at P12
    rw [a1, b1', a3, b3'] at P13
    rw [a7, b7'] at P14
    replace P10 := P10 (b + b) b b2 hb0 P1.le hbz
    replace P11 := P11 b (b + b) hb0 b2 hbx P4.le
    replace P12 := P12 b b hb0 hb0 hbx P5.le
    replace P13 := P13 (b + b) b2 P1.le P3.le
    replace P14 := P14 b hb0 P7.le hby
    replace P15 := P15 b hb0 hbx
    rw [P1.val] at P10 P13
    rw [P4.val] at P11
    rw [P5.val] at P12
    rw [P3.val] at P13
    rw [P7.val] at P14
    rw [show b + (b + b) = b + b + b by omega, ← Int.mul_assoc] at P11
    rw [Int.mul_add] at P12
    rw [Int.sub_add_cancel] at P14
    obtain ⟨rfl, rfl⟩ := P10.eq P11
    obtain ⟨rfl, rfl⟩ := P12.eq P13
    obtain ⟨rfl, rfl⟩ := P14.eq P15
    refine Calls.mono (st1 u16 (Y15.trans h16.ext)) ?_
    rintro en v17 ⟨h17, rfl⟩
    refine ⟨_, rfl, h17, br_true rfl (Calls.mono (st2 v17 ((Y15.trans h16.ext).trans h17.ext)) ?_)⟩
    rintro en v18 ⟨h18, rfl⟩
    refine ⟨_, rfl, h18, br_true rfl (Calls.mono (st3 v18 (((Y15.trans h16.ext).trans h17.ext).trans h18.ext)) ?_)⟩
    rintro en v19 ⟨h19, rfl⟩
    have A19 := ((A15.trans h16).trans h17).trans (h18.trans h19)
    refine ⟨_, rfl, h19, br_true (by rw [hsg]; exact beq_self_eq_true _) ?_⟩
    have x19 := (h17.trans h18).trans h19
    refine Calls.mono (same_spec (R10.ahead x19) (R11.ahead x19) (by omega) (zb_nD _)) ?_
    rintro en v20 ⟨h20, rfl⟩
    have x20 := x19.trans h20
    refine ⟨_, rfl, h20, br_true rfl (Calls.mono (same_spec (R12.ahead x20) (R13.ahead x20) (by omega) (zb_nD _)) ?_)⟩
    rintro en v21 ⟨h21, rfl⟩
    have x21 := x20.trans h21
    refine ⟨_, rfl, h21, br_true rfl (Calls.mono (same_spec (R14.ahead x21) (R15.ahead x21) (by omega) (zb_nD _)) ?_)⟩
    rintro en v22 ⟨h22, rfl⟩
    exact ⟨_, rfl, h22, br_true rfl (aw v22 (A19.trans ((h20.trans h21).trans h22)))⟩

end Dy
end Go.Proofs.YtahbekmnphkiiaaDoor
