/- What the law leans on, part 6. No condition. -/
import Derived.Test.YtbeiopoejdkheaaGreatDoorZWholeRounds5
namespace Go.Proofs.YtbeiopoejdkheaaGreatDoor
open Go Go.RowKit Eng Sp Dg L2
set_option linter.unusedVariables false
set_option linter.unusedSimpArgs false
set_option maxRecDepth 100000
namespace Wr
open _root_.Go.Proofs.YtbeiopoejdkheaaGreatDoor.Ref (RN RN.ahead RN.ext Of_spec Len_spec)
open _root_.Go.Proofs.YtbeiopoejdkheaaGreatDoor.Nat (Num Num.ahead Num.ext Num.bl num_of OwnNil OwnNil.rd OwnNil.ext digs_len_bl)
open _root_.Go.Proofs.YtbeiopoejdkheaaGreatDoor.Mm (RdL ixL nilS slcs slcs_get)
open _root_.Go.Proofs.YtbeiopoejdkheaaGreatDoor.Ro (nu de bhv rdQ upB quQ SqQ rdQuo_spec)
open _root_.Go.Proofs.YtbeiopoejdkheaaGreatDoor.Rt (bl_add_le bl_one)
open R7
open Dy

theorem bes_quo (neg : Bool) (N D : Nat) (hD : 0 < D) : Bes (sg neg (rdQ 0 neg (N / D) (bhv N D))) (sg neg N) D (sg neg (rdQ 1 neg (N / D) (bhv N D))) := by
  have h1 := Nat.div_add_mod N D
  have h2 := Nat.mod_lt N hD
  have hb : (0 < bhv N D) ↔ N % D ≠ 0 := by unfold bhv; split <;> (try split) <;> (try split) <;> omega
  have e1 : (((N / D : Nat) : Int)) * (D : Int) = ((D * (N / D) : Nat) : Int) := by rw [Int.natCast_mul, Int.mul_comm]
  have e2 : (((N / D + 1 : Nat) : Int)) * (D : Int) = ((D * (N / D) + D : Nat) : Int) := by rw [← Int.natCast_mul, Nat.add_mul, Nat.one_mul, Nat.mul_comm]
  generalize D * (N / D) = DQ at *
  generalize N / D = q at *
  unfold rdQ Ro.upB Bes
  cases neg
  · by_cases h0 : 0 < bhv N D
    · have := hb.1 h0
      simp only [h0, sg]
      right
      simp
      simp at e1 e2
      refine ⟨?_, ?_⟩ <;> omega
    · have : N % D = 0 := by
        by_cases h3 : N % D = 0
        · exact h3
        · exact absurd (hb.2 h3) h0
      simp only [h0, sg]
      left
      simp
      omega
  · by_cases h0 : 0 < bhv N D
    · have := hb.1 h0
      simp only [h0, sg]
      right
      simp [Int.neg_mul]
      simp at e1 e2
      refine ⟨?_, ?_, ?_⟩ <;> omega
    · have : N % D = 0 := by
        by_cases h3 : N % D = 0
        · exact h3
        · exact absurd (hb.2 h3) h0
      simp only [h0, sg]
      left
      simp [Int.neg_mul]
      omega
theorem rdQ_le (m : Int) (neg : Bool) (q bh : Nat) : rdQ m neg q bh ≤ q + 1 := by unfold rdQ; split <;> omega
theorem bl_quQ {m : Int} {neg : Bool} {x y : Nat} {s : Int} (hx : bl x ≤ 4096) (hs : -100000 ≤ s ∧ s ≤ 100000) : bl (quQ m neg x y s) ≤ 262144 := by
  have h1 : quQ m neg x y s ≤ nu x s + 1 := Nat.le_trans (rdQ_le _ _ _ _) (Nat.succ_le_succ (Nat.div_le_self _ _))
  have h2 : bl (nu x s) ≤ 200000 := Nat.le_trans (Ro.bl_mul_le _ _) (by omega)
  exact Nat.le_trans (bl_mono h1) (Nat.le_trans (bl_add_le (k := 200000) h2 (by rw [bl_one]; omega)) (by omega))
theorem tC_ok {Q : Nat} {pos : Int} (hb : bl Q ≤ 262144) (hp : -1000 ≤ pos ∧ pos ≤ 1000) : tC Q pos = 0 := by
  have h1 := bl_mono (od_le Q)
  have h2 := tz_le Q
  rw [tC, if_neg (by omega), if_pos]
  unfold wi eD; split <;> omega
theorem de_pos {y : Nat} (hy : y ≠ 0) (s : Int) : 0 < de y s := Nat.mul_pos (by omega) (Nat.pow_pos (by omega))
/-- The quotient as a fraction in units. -/
theorem quo_val {n1 n2 : Bool} {X Y : Nat} {e1 e2 pos : Int} (hY : Y ≠ 0) :
    sgZ (sg n2 Y * up e2) * (sg n1 X * up e1 * (dn e2 : Int)) * ((de (od Y) (eD X e1 - eD Y e2 - pos) * dn pos : Nat) : Int) =
      sg (!(nD n1 X == nD n2 Y)) (nu (od X) (eD X e1 - eD Y e2 - pos)) * up pos * ((dn e1 * (sg n2 Y * up e2).natAbs : Nat) : Int) := by
  by_cases hX : X = 0
  · subst hX
    have : nu (od 0) (eD 0 e1 - eD Y e2 - pos) = 0 := by rw [od_zero]; exact Nat.zero_mul _
    rw [this, sg_zero, sg_zero]; simp
  · have hsg : sgZ (sg n2 Y * up e2) = if n2 then -1 else 1 := by
      have h1 := up_pos e2
      cases n2
      · have : 0 < sg false Y * up e2 := Int.mul_pos (by simp [sg]; omega) h1
        rw [sgZ, if_neg (by omega), if_neg (by omega)]; rfl
      · have : sg true Y * up e2 < 0 := Int.mul_neg_of_neg_of_pos (by simp [sg]; omega) h1
        have e : sgZ (sg true Y * up e2) = -1 := by rw [sgZ, if_neg (by omega), if_pos this]
        rw [e]; rfl
    have habs : (sg n2 Y * up e2).natAbs = Y * 2 ^ e2.toNat := by
      rw [Int.natAbs_mul, sg_abs]; rfl
    have key : X * 2 ^ e1.toNat * dn e2 * (de (od Y) (eD X e1 - eD Y e2 - pos) * dn pos) = nu (od X) (eD X e1 - eD Y e2 - pos) * 2 ^ pos.toNat * (dn e1 * (Y * 2 ^ e2.toNat)) := by
      obtain ⟨S, hS⟩ : ∃ S, S = eD X e1 - eD Y e2 - pos := ⟨_, rfl⟩
      have hS2 : S = (e1 + tz X) - (e2 + tz Y) - pos := by rw [hS, eD, if_neg hX, eD, if_neg hY]
      rw [← hS]
      have oX := od_mul X
      have oY := od_mul Y
      have eX : X = od X * 2 ^ tz X := by rw [Nat.mul_comm]; exact oX.symm
      have eY : Y = od Y * 2 ^ tz Y := by rw [Nat.mul_comm]; exact oY.symm
      unfold nu de
      show X * 2 ^ e1.toNat * 2 ^ (-e2).toNat * (od Y * 2 ^ (-S).toNat * 2 ^ (-pos).toNat) = od X * 2 ^ S.toNat * 2 ^ pos.toNat * (2 ^ (-e1).toNat * (Y * 2 ^ e2.toNat))
      have l1 : X * 2 ^ e1.toNat * 2 ^ (-e2).toNat * (od Y * 2 ^ (-S).toNat * 2 ^ (-pos).toNat) = od X * od Y * 2 ^ (tz X + e1.toNat + (-e2).toNat + (-S).toNat + (-pos).toNat) := by
        conv => lhs; rw [eX]
        simp only [Nat.pow_add]; ac_rfl
      have l2 : od X * 2 ^ S.toNat * 2 ^ pos.toNat * (2 ^ (-e1).toNat * (Y * 2 ^ e2.toNat)) = od X * od Y * 2 ^ (S.toNat + pos.toNat + (-e1).toNat + tz Y + e2.toNat) := by
        conv => lhs; rw [eY]
        simp only [Nat.pow_add]; ac_rfl
      rw [l1, l2]
      congr 2
      omega
    have hneg : sg (!(nD n1 X == nD n2 Y)) (nu (od X) (eD X e1 - eD Y e2 - pos)) = (if n2 then -1 else 1) * sg n1 (nu (od X) (eD X e1 - eD Y e2 - pos)) := by
      rw [nD_ne hX, nD_ne hY]
      cases n1 <;> cases n2 <;> simp [sg]
    rw [hsg, hneg, habs]
    generalize nu (od X) (eD X e1 - eD Y e2 - pos) = N at *
    generalize de (od Y) (eD X e1 - eD Y e2 - pos) = D at *
    have kz : (X : Int) * up e1 * (dn e2 : Int) * ((D * dn pos : Nat) : Int) = (N : Int) * up pos * ((dn e1 * (Y * 2 ^ e2.toNat) : Nat) : Int) := by
      have := congrArg (fun n : Nat => (n : Int)) key
      simpa only [Int.natCast_mul] using this
    have hs1 : sg n1 X = (if n1 then -1 else 1) * (X : Int) := by cases n1 <;> simp [sg]
    have hs2 : sg n1 N = (if n1 then -1 else 1) * (N : Int) := by cases n1 <;> simp [sg]
    rw [hs1, hs2]
    generalize (if n1 then -1 else 1 : Int) = σ
    generalize (if n2 then -1 else 1 : Int) = τ
    calc τ * (σ * (X : Int) * up e1 * (dn e2 : Int)) * ((D * dn pos : Nat) : Int) = τ * σ * ((X : Int) * up e1 * (dn e2 : Int) * ((D * dn pos : Nat) : Int)) := by ac_rfl
      _ = τ * σ * ((N : Int) * up pos * ((dn e1 * (Y * 2 ^ e2.toNat) : Nat) : Int)) := by rw [kz]
      _ = τ * (σ * (N : Int)) * up pos * ((dn e1 * (Y * 2 ^ e2.toNat) : Nat) : Int) := by ac_rfl

theorem sq_one {q q' N D : Nat} (hD : 0 < D) (h1 : q * q * D ≤ N) (h2 : N < (q' + 1) * (q' + 1) * D) : q ≤ q' := by
  have h3 : q * q < (q' + 1) * (q' + 1) := Nat.lt_of_mul_lt_mul_right (Nat.lt_of_le_of_lt h1 h2)
  exact Nat.le_of_not_lt fun h => Nat.not_le_of_lt h3 (Nat.mul_le_mul h h)
theorem roots_two {x : Nat} {s : Int} {Q0 Q1 : Nat} (h0 : SqQ 0 x s Q0) (h1 : SqQ 1 x s Q1) : Q0 * Q0 * de 1 s ≤ nu x s ∧ nu x s ≤ Q1 * Q1 * de 1 s ∧ (Q1 = Q0 ∨ Q1 = Q0 + 1) := by
  obtain ⟨r0, bh, hQ0, a1, a2, a3⟩ := h0.ex
  obtain ⟨r1, bh', hQ1, b1, b2, b3⟩ := h1.ex
  have hD := de_pos (y := 1) (by omega) s
  have e1 := sq_one hD a1 b2
  have e2 := sq_one hD b1 a2
  have e3 : r1 = r0 := by omega
  rw [e3] at b1 b2 b3 hQ1
  have f0 : rdQ 0 false r0 bh = r0 := by unfold rdQ Ro.upB; simp
  rw [hQ0, hQ1, f0]
  refine ⟨a1, ?_, ?_⟩
  · rcases Nat.eq_zero_or_pos bh' with h | h
    · have f1 : rdQ 1 false r0 bh' = r0 := by unfold rdQ Ro.upB; simp [h]
      rw [f1, b3 h]; exact Nat.le_refl _
    · have f1 : rdQ 1 false r0 bh' = r0 + 1 := by unfold rdQ Ro.upB; simp [h]
      rw [f1]; exact Nat.le_of_lt b2
  · rcases Nat.eq_zero_or_pos bh' with h | h
    · left; unfold rdQ Ro.upB; simp [h]
    · right; unfold rdQ Ro.upB; simp [h]
/-- The bounds, against the number itself. -/
theorem root_le {Q Y : Nat} {e pos : Int} (h : Q * Q * de 1 (eD Y e - 2 * pos) ≤ nu (od Y) (eD Y e - 2 * pos)) : Q * Q * (2 ^ pos.toNat * 2 ^ pos.toNat) * dn e ≤ Y * 2 ^ e.toNat * (dn pos * dn pos) := by
  by_cases hY : Y = 0
  · subst hY
    have hz : nu (od 0) (eD 0 e - 2 * pos) = 0 := by rw [od_zero]; exact Nat.zero_mul _
    rw [hz] at h
    have hD := de_pos (y := 1) (by omega) (eD 0 e - 2 * pos)
    have : Q * Q = 0 := by
      rcases Nat.mul_eq_zero.1 (show Q * Q * de 1 (eD 0 e - 2 * pos) = 0 by omega) with h1 | h1
      · exact h1
      · omega
    rw [this]; simp
  · unfold de nu at h
    rw [Nat.one_mul] at h
    have eY : Y = od Y * 2 ^ tz Y := by rw [Nat.mul_comm]; exact (od_mul Y).symm
    have l1 : Q * Q * (2 ^ pos.toNat * 2 ^ pos.toNat) * dn e = Q * Q * 2 ^ (pos.toNat + pos.toNat + (-e).toNat) := by simp only [Nat.pow_add, dn]; ac_rfl
    have l2 : Y * 2 ^ e.toNat * (dn pos * dn pos) = od Y * 2 ^ (tz Y + e.toNat + ((-pos).toNat + (-pos).toNat)) := by
      conv => lhs; rw [eY]
      simp only [Nat.pow_add, dn]; ac_rfl
    rw [l1, l2]
    refine pow_le ?_ h
    rw [eD, if_neg hY]
    omega
theorem root_ge {Q Y : Nat} {e pos : Int} (h : nu (od Y) (eD Y e - 2 * pos) ≤ Q * Q * de 1 (eD Y e - 2 * pos)) : Y * 2 ^ e.toNat * (dn pos * dn pos) ≤ Q * Q * (2 ^ pos.toNat * 2 ^ pos.toNat) * dn e := by
  by_cases hY : Y = 0
  · subst hY; simp
  · unfold de nu at h
    rw [Nat.one_mul] at h
    have eY : Y = od Y * 2 ^ tz Y := by rw [Nat.mul_comm]; exact (od_mul Y).symm
    have l1 : Q * Q * (2 ^ pos.toNat * 2 ^ pos.toNat) * dn e = Q * Q * 2 ^ (pos.toNat + pos.toNat + (-e).toNat) := by simp only [Nat.pow_add, dn]; ac_rfl
    have l2 : Y * 2 ^ e.toNat * (dn pos * dn pos) = od Y * 2 ^ (tz Y + e.toNat + ((-pos).toNat + (-pos).toNat)) := by
      conv => lhs; rw [eY]
      simp only [Nat.pow_add, dn]; ac_rfl
    rw [l1, l2]
    refine pow_le ?_ h
    rw [eD, if_neg hY]
    omega
end Wr
end Go.Proofs.YtbeiopoejdkheaaGreatDoor
namespace Go.Proofs.YtbeiopoejdkheaaGreatDoor
open Go Go.RowKit Eng Sp Dg L2
set_option linter.unusedVariables false
set_option linter.unusedSimpArgs false
set_option maxRecDepth 100000
namespace Wr
open _root_.Go.Proofs.YtbeiopoejdkheaaGreatDoor.Nat (Num Num.ahead Num.ext Num.bl num_of OwnNil OwnNil.rd OwnNil.ext OwnNil.ahead digs_len_bl Yes)
open _root_.Go.Proofs.YtbeiopoejdkheaaGreatDoor.Mm (RdL ixL nilS slcs slcs_get)
open _root_.Go.Proofs.YtbeiopoejdkheaaGreatDoor.Ro (nu de bhv rdQ quQ SqQ rdQuo_spec rdSqrt_spec)
open R7
open Dy
open Sb

/-- The example's contract. -/
def Works : Prop := ∀ w, Tab w → Calls pr surdtop_worksTen_id #[] w fun e w' => Ahead w w' ∧ e = .returned (.bool true)
theorem ended {w w1 : World} (hW : Works) (hT : Tab w1) : Calls pr surdtop_worksTen_id #[] w1 fun e w' => ∃ b : Bool, e = .returned (.bool b) ∧ Ahead w1 w' ∧ Ending.returned (Value.bool b) = .returned (.bool true) :=
  Calls.mono (hW w1 hT) fun e w' ⟨h1, h2⟩ => ⟨true, h2, h1, rfl⟩

def KA (n0 n1 : Bool) (s0 s1 : Slc) (X Y : Nat) (t2 : Int) (t3_0 : Bool) (t3_1 : Slc) (t3_2 : Int) (t4_0 : Bool) (t4_1 : Slc) (t4_2 : Int) (t7_0 : Bool) (t7_1 t7_2 : Slc) (t8_0 : Bool) (t8_1 t8_2 : Slc) (w' : World) : Prop :=
  n0 = t3_0 ∧ s0 = t3_1 ∧ n1 = t4_0 ∧ s1 = t4_1 ∧ (-150 ≤ t2 ∧ t2 ≤ 50) ∧ (-99 ≤ t3_2 ∧ t3_2 ≤ 99) ∧ (-99 ≤ t4_2 ∧ t4_2 ≤ 99) ∧ bl X ≤ 4096 ∧ bl Y ≤ 4096 ∧ RV w' t7_0 t7_1 t7_2 (sg n0 X * up t3_2) (dn t3_2) 2097152 ∧ RV w' t8_0 t8_1 t8_2 (sg n1 Y * up t4_2) (dn t4_2) 2097152
def KB (n1 : Bool) (s1 : Slc) (Y : Nat) (t2 : Int) (t4_0 : Bool) (t4_1 : Slc) (t4_2 : Int) (t8_0 : Bool) (t8_1 t8_2 : Slc) (w' : World) : Prop :=
  n1 = t4_0 ∧ s1 = t4_1 ∧ (-150 ≤ t2 ∧ t2 ≤ 50) ∧ (-99 ≤ t4_2 ∧ t4_2 ≤ 99) ∧ bl Y ≤ 4096 ∧ RV w' t8_0 t8_1 t8_2 (sg n1 Y * up t4_2) (dn t4_2) 2097152
def KC (n1 : Bool) (Y : Nat) (t2 t15 t17 : Int) (t8_0 : Bool) (t8_1 t8_2 : Slc) (t18_0 : Bool) (t18_1 t18_2 : Slc) (t19_0 : Bool) (t19_1 t19_2 : Slc) (w' : World) : Prop :=
  t15 = 0 ∧ t17 = 0 ∧ (-150 ≤ t2 ∧ t2 ≤ 50) ∧ ∃ (e : Int) (Q0 Q1 : Nat), RV w' t8_0 t8_1 t8_2 (sg n1 Y * up e) (dn e) 2097152 ∧ RV w' t18_0 t18_1 t18_2 ((Q0 : Int) * up t2) (dn t2) 2097152 ∧ RV w' t19_0 t19_1 t19_2 ((Q1 : Int) * up t2) (dn t2) 2097152 ∧
    Q0 * Q0 * (2 ^ t2.toNat * 2 ^ t2.toNat) * dn e ≤ Y * 2 ^ e.toNat * (dn t2 * dn t2) ∧ Y * 2 ^ e.toNat * (dn t2 * dn t2) ≤ Q1 * Q1 * (2 ^ t2.toNat * 2 ^ t2.toNat) * dn e ∧ (Q1 = Q0 ∨ Q1 = Q0 + 1)

theorem eD_bd {X : Nat} {e : Int} (h : -99 ≤ e ∧ e ≤ 99) (hb : bl X ≤ 4096) : -99 ≤ eD X e ∧ eD X e ≤ 4195 := by
  have := tz_le X
  unfold eD; split <;> omega
theorem sgZ_ne {p : Int} : sgZ p ≠ 0 ↔ p ≠ 0 := by unfold sgZ; split <;> (try split) <;> omega
theorem cast_le {a b : Nat} (h : a ≤ b) : (a : Int) ≤ (b : Int) := by omega
/-- A square in units against a number in its own. -/
theorem sq_cmp {Q Y : Nat} {n1 : Bool} {pos e : Int} : ((Q : Int) * up pos * ((Q : Int) * up pos)) * (dn e : Int) = ((Q * Q * (2 ^ pos.toNat * 2 ^ pos.toNat) * dn e : Nat) : Int) ∧
    ((sg n1 Y * up e).natAbs : Int) * ((dn pos * dn pos : Nat) : Int) = ((Y * 2 ^ e.toNat * (dn pos * dn pos) : Nat) : Int) := by
  constructor
  · unfold up
    simp only [Int.natCast_mul]
    ac_rfl
  · rw [Int.natAbs_mul, sg_abs]
    simp only [Int.natCast_mul]; rfl

set_option maxHeartbeats 2000000 in
theorem WholeRounds_walk (hW : Works) {w : World} (hT : Tab w) {n0 : Bool} {s0 : Slc} {e0 : Int} {l0 : List Nat} {n1 : Bool} {s1 : Slc} {e1 : Int} {l1 : List Nat} {p0 : Int}
    (r0 : Rd .u64 w s0 (nn l0)) (o0 : ok B64 l0) (y0 : l0.length * 8 ≤ 140737488351232) (r1 : Rd .u64 w s1 (nn l1)) (o1 : ok B64 l1) (y1 : l1.length * 8 ≤ 140737488351232) :
    Calls pr surdtop_WholeRounds_id #[.agg (c3 n0 s0 e0), .agg (c3 n1 s1 e1), .int .i64 p0] w (Yes w) := by
  refine Calls.mono (surdtop_WholeRounds_v2 n0 s0 e0 n1 s1 e1 p0 w (fun e w' => e = .returned (.bool true)) (KA n0 n1 s0 s1 (val B64 l0) (val B64 l1)) (KB n1 s1 (val B64 l1)) (KC n1 (val B64 l1)) ?_ ?_ ?_ ?_) fun e w' h => ⟨h.2, h.1⟩
  · intro w1 x1 a1
    have hal := Ahead.alloc w1 (.cells (slcs [s0, s1]).toArray tU64s (0, 0))
    have hlit := rdL_lit w1 tU64s [s0, s1]
    show Calls pr surdtop_small_id _ _ _
    have lims : Lims (w1.alloc (.cells (slcs [s0, s1]).toArray tU64s (0, 0))) [s0, s1] [l0, l1] := ⟨rfl, fun i hi => by
      rcases i with _ | _ | i
      · exact ⟨(r0.ahead a1).ahead hal, y0, o0⟩
      · exact ⟨(r1.ahead a1).ahead hal, y1, o1⟩
      · have : i + 1 + 1 < 2 := hi
        omega⟩
    refine Calls.mono (small_spec (most := 4096) hlit lims (by omega) (by simp)) ?_
    rintro e w3 ⟨h3, b, rfl, hb⟩
    have a3 := (a1.trans hal).trans h3
    refine ⟨_, rfl, h3, br_intro (fun hn => ?_) (fun hy => ?_)⟩
    · exact ended (w := w) hW (hT.ahead a3)
    · have hb' : b = true := by cases b; cases hy; rfl
      have bX : bl (val B64 l0) ≤ 4096 := hb hb' 0 (by simp)
      have bY : bl (val B64 l1) ≤ 4096 := hb hb' 1 (by simp)
      intro w5 x5 a5
      refine Calls.mono tame_spec ?_
      rintro e w6 ⟨h6, t0, rfl, ht0⟩
      refine ⟨_, _, _, rfl, h6, Calls.mono tame_spec ?_⟩
      rintro e w7 ⟨h7, t1, rfl, ht1⟩
      refine ⟨_, _, _, rfl, h7, Calls.mono (put_spec (by omega) (by omega) (by omega)) ?_⟩
      rintro e w8 ⟨rfl, pp, rfl, hp1, hp2⟩
      refine ⟨_, rfl, Ahead.refl _, fun w9 x9 a9 => ?_⟩
      refine Calls.mono (dyadicOf_val (r0.ahead a9) y0 o0 (by omega) (by omega)) ?_
      rintro e w10 ⟨h10, c, x, y, rfl, hx⟩
      refine ⟨_, _, _, rfl, h10, fun w11 x11 a11 => Calls.mono (dyadicOf_val (r1.ahead a11) y1 o1 (by omega) (by omega)) ?_⟩
      rintro e w12 ⟨h12, c', x', y', rfl, hy⟩
      exact ⟨_, _, _, rfl, h12, fun w89 x89 a89 => ⟨rfl, rfl, rfl, rfl, ⟨hp1, hp2⟩, ht0, ht1, bX, bY, ((hx.ext x11).ahead h12).ext x89, hy.ext x89⟩⟩
  · rintro t2 t3_0 t3_1 t3_2 t4_0 t4_1 t4_2 t7_0 t7_1 t7_2 t8_0 t8_1 t8_2 w1 a1 ⟨rfl, rfl, rfl, rfl, hp, ht0, ht1, bX, bY, hx, hy⟩
    refine Calls.mono (Sign_val hy) ?_
    rintro e w13 ⟨h13, rfl⟩
    have a13 := a1.trans h13
    refine ⟨_, rfl, h13, br_intro (fun hne => ?_) (fun heq => ?_)⟩
    · have hne' : sg n1 (val B64 l1) * up t4_2 ≠ 0 := sgZ_ne.1 (by simpa using hne)
      have hY0 : val B64 l1 ≠ 0 := fun h => by rw [h, sg_zero, Int.zero_mul] at hne'; exact hne' rfl
      have nX : ∀ {w'}, Ahead w w' → Num w' s0 (val B64 l0) := fun h => num_of (r0.ahead h) o0 (by omega)
      have nY : ∀ {w'}, Ahead w w' → Num w' s1 (val B64 l1) := fun h => num_of (r1.ahead h) o1 (by omega)
      have tX := tz_le (val B64 l0)
      have tY := tz_le (val B64 l1)
      have oX := Nat.le_trans (bl_mono (od_le (val B64 l0))) bX
      have hS : -100000 ≤ eD (val B64 l0) t3_2 - eD (val B64 l1) t4_2 - t2 ∧ eD (val B64 l0) t3_2 - eD (val B64 l1) t4_2 - t2 ≤ 100000 := by
        have g1 := eD_bd ht0 bX
        have g2 := eD_bd ht1 bY
        omega
      have bq0 := bl_quQ (m := 0) (neg := !(nD n0 (val B64 l0) == nD n1 (val B64 l1))) (y := od (val B64 l1)) oX hS
      have bq1 := bl_quQ (m := 1) (neg := !(nD n0 (val B64 l0) == nD n1 (val B64 l1))) (y := od (val B64 l1)) oX hS
      have hbes := bes_quo (!(nD n0 (val B64 l0) == nD n1 (val B64 l1))) (nu (od (val B64 l0)) (eD (val B64 l0) t3_2 - eD (val B64 l1) t4_2 - t2)) (de (od (val B64 l1)) (eD (val B64 l0) t3_2 - eD (val B64 l1) t4_2 - t2)) (de_pos (od_ne hY0) _)
      have hqv := quo_val (n1 := n0) (n2 := n1) (X := val B64 l0) (e1 := t3_2) (e2 := t4_2) (pos := t2) hY0
      have hDp := de_pos (od_ne hY0) (eD (val B64 l0) t3_2 - eD (val B64 l1) t4_2 - t2)
      refine Calls.mono (Ro.rdQuo_spec (hT.ahead a13) (nX a13) (nY a13) (by omega) (by omega) hY0 (by omega) (by omega) (by omega) (by omega)) ?_
      rw [tC_ok bq0 (by omega)]
      rintro e w14 ⟨h14, sl, rfl, ol⟩
      rw [if_pos rfl] at ol
      refine ⟨_, _, _, _, rfl, h14, fun w15 x15 a15 => ?_⟩
      refine Calls.mono (Ro.rdQuo_spec (hT.ahead a15) (nX a15) (nY a15) (by omega) (by omega) hY0 (by omega) (by omega) (by omega) (by omega)) ?_
      rw [tC_ok bq1 (by omega)]
      rintro e w16 ⟨h16, sh, rfl, oh⟩
      rw [if_pos rfl] at oh
      refine ⟨_, _, _, _, rfl, h16, fun w17 x17 a17 => ?_⟩
      have hx17 := (((hx.ahead h13).ahead h14).ext x15).ahead h16 |>.ext x17
      have hy17 := (((hy.ahead h13).ahead h14).ext x15).ahead h16 |>.ext x17
      refine Calls.mono (Quo_val hx17 hy17 hne' (by omega)) ?_
      rintro e w18 ⟨h18, cq, xq, yq, rfl, hq⟩
      have hq' := hq.conv (p' := sg (!(nD n0 (val B64 l0) == nD n1 (val B64 l1))) (nu (od (val B64 l0)) (eD (val B64 l0) t3_2 - eD (val B64 l1) t4_2 - t2)) * up t2) (q' := de (od (val B64 l1)) (eD (val B64 l0) t3_2 - eD (val B64 l1) t4_2 - t2) * dn t2) (Nat.mul_pos hDp (dn_pos t2)) hqv
      refine ⟨_, _, _, rfl, h18, br_false rfl (br_false rfl fun w21 x21 a21 => ?_)⟩
      have ol21 := ((((ol.ext x15).ahead h16).ext x17).ahead h18).ext x21
      have oh21 := ((oh.ext x17).ahead h18).ext x21
      rw [if_pos rfl, if_pos rfl]
      refine Calls.mono (told_val ol21.rd (by omega) (by omega)) ?_
      rintro e w22 ⟨h22, c2, x2, y2, rfl, hl⟩
      refine ⟨_, _, _, rfl, h22, ?_⟩
      rw [if_pos rfl, if_pos rfl]
      refine Calls.mono (told_val (oh21.ahead h22).rd (by omega) (by omega)) ?_
      rintro e w23 ⟨h23, c3', x3, y3, rfl, hh⟩
      refine ⟨_, _, _, rfl, h23, ?_⟩
      refine Calls.mono (between_spec (kz := 4194304) (hl.ahead h23) (((hq'.ext x21).ahead h22).ahead h23) hh hDp (by omega) hbes) ?_
      rintro e w24 ⟨h24, rfl⟩
      refine ⟨_, rfl, h24, br_false rfl ⟨rfl, rfl, hp, ht1, bY, ?_⟩⟩
      exact ((((hy17.ahead h18).ext x21).ahead h22).ahead h23).ahead h24
    · exact ⟨rfl, rfl, hp, ht1, bY, hy.ahead h13⟩
  · rintro t2 t4_0 t4_1 t4_2 t8_0 t8_1 t8_2 w1 a1 ⟨rfl, rfl, hp, ht1, bY, hy⟩
    intro w25 x25 a25
    have nY : ∀ {w'}, Ahead w w' → Num w' s1 (val B64 l1) := fun h => num_of (r1.ahead h) o1 (by omega)
    have tY := tz_le (val B64 l1)
    have oY := Nat.le_trans (bl_mono (od_le (val B64 l1))) bY
    have hn : nD false (val B64 l1) = false := rfl
    have bQ : ∀ {m : Int} {Q : Nat}, SqQ m (od (val B64 l1)) (eD (val B64 l1) t4_2 - 2 * t2) Q → bl Q ≤ 262144 := by
      intro m Q h
      obtain ⟨q, bh, hQ, b1, b2, b3⟩ := h.ex
      have hN : bl (nu (od (val B64 l1)) (eD (val B64 l1) t4_2 - 2 * t2)) ≤ 100000 := Nat.le_trans (Ro.bl_mul_le _ _) (by have g2 := eD_bd ht1 bY; omega)
      have hq : q ≤ nu (od (val B64 l1)) (eD (val B64 l1) t4_2 - 2 * t2) := by
        rcases Nat.eq_zero_or_pos q with h0 | h0
        · omega
        · exact Nat.le_trans (Nat.le_trans (Nat.le_mul_of_pos_left q h0) (Nat.le_mul_of_pos_right _ (de_pos (y := 1) (by omega) _))) b1
      have h1 := bl_mono hq
      have h2 : Q ≤ q + 1 := by rw [hQ]; exact rdQ_le _ _ _ _
      exact Nat.le_trans (bl_mono h2) (Nat.le_trans (Rt.bl_add_le (k := 100000) (by omega) (by rw [Rt.bl_one]; omega)) (by omega))
    refine Calls.mono (Ro.rdSqrt_spec (n1 := false) (hT.ahead a25) (nY a25) (by omega) hn (by omega) (by omega) (by omega)) ?_
    rintro e w26 ⟨Q0, hQ0, hd⟩
    rw [tC_ok (bQ hQ0) (by omega)] at hd
    obtain ⟨h26, sl, rfl, ol⟩ := hd
    rw [if_pos rfl] at ol
    refine ⟨_, _, _, _, rfl, h26, fun w27 x27 a27 => ?_⟩
    refine Calls.mono (Ro.rdSqrt_spec (n1 := false) (hT.ahead a27) (nY a27) (by omega) hn (by omega) (by omega) (by omega)) ?_
    rintro e w28 ⟨Q1, hQ1, hd⟩
    rw [tC_ok (bQ hQ1) (by omega)] at hd
    obtain ⟨h28, sh, rfl, oh⟩ := hd
    rw [if_pos rfl] at oh
    obtain ⟨f1, f2, f3⟩ := roots_two hQ0 hQ1
    have b0 := bQ hQ0
    have b1' := bQ hQ1
    refine ⟨_, _, _, _, rfl, h28, fun w29 x29 a29 => ?_⟩
    have ol29 := ((ol.ext x27).ahead h28).ext x29
    have oh29 := oh.ext x29
    rw [if_pos rfl, if_pos rfl]
    refine Calls.mono (told_val ol29.rd (by omega) (by omega)) ?_
    rintro e w30 ⟨h30, c2, x2, y2, rfl, hl⟩
    refine ⟨_, _, _, rfl, h30, fun w31 x31 a31 => ?_⟩
    rw [if_pos rfl, if_pos rfl]
    refine Calls.mono (told_val ((oh29.ahead h30).ext x31).rd (by omega) (by omega)) ?_
    rintro e w32 ⟨h32, c3', x3, y3, rfl, hh⟩
    refine ⟨_, _, _, rfl, h32, fun w49 x49 a49 => ⟨rfl, rfl, hp, t4_2, Q0, Q1, ?_, ?_, ?_, root_le f1, root_ge f2, f3⟩⟩
    · exact (((((((((hy.ext x25).ahead h26).ext x27).ahead h28).ext x29).ahead h30).ext x31).ahead h32).ext x49)
    · exact ((hl.ext x31).ahead h32).ext x49
    · exact hh.ext x49
  · rintro t2 t15 t17 t8_0 t8_1 t8_2 t18_0 t18_1 t18_2 t19_0 t19_1 t19_2 w1 a1 ⟨rfl, rfl, hp, e, Q0, Q1, hy, hl, hh, f1, f2, f3⟩
    have hup := up_pos t2
    have hdn := dn_pos t2
    refine Calls.mono (Int_val (v := 1) (by omega)) ?_
    rintro en w33 ⟨h33, c1, x1, y1, rfl, hone⟩
    refine ⟨_, _, _, rfl, h33, Calls.mono (Scale_val hone (by omega) (by omega)) ?_⟩
    rintro en w34 ⟨h34, cs, xs, ys, rfl, hst⟩
    have a34 := (a1.trans h33).trans h34
    refine ⟨_, _, _, rfl, h34, fun w35 x35 a35 => ?_⟩
    have ext35 : Ext w1 w35 := ((Ext.of_ahead h33).trans (Ext.of_ahead h34)).trans x35
    refine Calls.mono (Abs_val (hy.ext ext35)) ?_
    rintro en w36 ⟨h36, ca, xa, ya, rfl, habs⟩
    refine ⟨_, _, _, rfl, h36, br_false rfl (br_false rfl fun w39 x39 a39 => ?_)⟩
    have ext39 : Ext w1 w39 := (ext35.trans (Ext.of_ahead h36)).trans x39
    have hl39 := hl.ext ext39
    have hh39 := hh.ext ext39
    have hab39 := habs.ext x39
    have hst39 := ((hst.ext x35).ahead h36).ext x39
    refine Calls.mono (Sign_val hl39) ?_
    rintro en w40 ⟨h40, rfl⟩
    have hlp : 0 ≤ (Q0 : Int) * up t2 := Int.mul_nonneg (by omega) (Int.le_of_lt hup)
    refine ⟨_, rfl, h40, br_false (decide_eq_false (by unfold sgZ; split <;> (try split) <;> omega)) ?_⟩
    refine Calls.mono (Mul_val (hl39.ahead h40) (hl39.ahead h40) (by omega)) ?_
    rintro en w41 ⟨h41, cm, xm, ym, rfl, hll⟩
    refine ⟨_, _, _, rfl, h41, Calls.mono (Cmp_val hll ((hab39.ahead h40).ahead h41) (by omega)) ?_⟩
    obtain ⟨g1, g2⟩ := sq_cmp (Q := Q0) (Y := val B64 l1) (n1 := n1) (pos := t2) (e := e)
    obtain ⟨g3, g4⟩ := sq_cmp (Q := Q1) (Y := val B64 l1) (n1 := n1) (pos := t2) (e := e)
    rw [g1, g2]
    rintro en w42 ⟨h42, rfl⟩
    have cle := cast_le f1
    have cge := cast_le f2
    refine ⟨_, rfl, h42, br_false (decide_eq_false (fun h => by have := cmpZ_gt.1 h; omega)) ?_⟩
    have ext42 : Ext w39 w42 := ((Ext.of_ahead h40).trans (Ext.of_ahead h41)).trans (Ext.of_ahead h42)
    refine Calls.mono (Mul_val (hh39.ext ext42) (hh39.ext ext42) (by omega)) ?_
    rintro en w43 ⟨h43, cn, xn, yn, rfl, hhh⟩
    refine ⟨_, _, _, rfl, h43, Calls.mono (Cmp_val hhh ((hab39.ext ext42).ahead h43) (by omega)) ?_⟩
    rw [g3, g4]
    rintro en w44 ⟨h44, rfl⟩
    refine ⟨_, rfl, h44, br_false (decide_eq_false (fun h => by have := cmpZ_lt.1 h; omega)) fun w45 x45 a45 => ?_⟩
    have ext45 : Ext w39 w45 := ((ext42.trans (Ext.of_ahead h43)).trans (Ext.of_ahead h44)).trans x45
    refine Calls.mono (Sub_val (hh39.ext ext45) (hl39.ext ext45) (by omega)) ?_
    rintro en w46 ⟨h46, cd, xd, yd, rfl, hsub⟩
    have hsub' := hsub.conv (p' := ((Q1 : Int) - (Q0 : Int)) * up t2) (q' := dn t2) hdn (by
      rw [Int.natCast_mul, Int.sub_mul, Int.sub_mul, Int.sub_mul]
      congr 1 <;> ac_rfl)
    have hst' := ((hst39.ext ext45).ahead h46).conv (p' := 1 * up t2) (q' := dn t2) hdn (by rw [Nat.one_mul]; rfl)
    refine ⟨_, _, _, rfl, h46, Calls.mono (Cmp_val hsub' hst' (by omega)) ?_⟩
    have hud : (0 : Int) < up t2 * (dn t2 : Int) := Int.mul_pos hup (by omega)
    have hcc : cmpZ (((Q1 : Int) - (Q0 : Int)) * up t2 * (dn t2 : Int)) (1 * up t2 * (dn t2 : Int)) = cmpZ ((Q1 : Int) - (Q0 : Int)) 1 := by
      rw [Int.mul_assoc, Int.mul_assoc 1]; exact cmpZ_scale hud
    rw [hcc]
    rintro en w47 ⟨h47, rfl⟩
    refine ⟨_, rfl, h47, br_true (decide_eq_true ?_) (ended (w := w) hW (hT.ahead ((a45.trans h46).trans h47)))⟩
    have : ¬ 0 < cmpZ ((Q1 : Int) - (Q0 : Int)) 1 := fun h => by have := cmpZ_gt.1 h; omega
    omega
end Wr
end Go.Proofs.YtbeiopoejdkheaaGreatDoor
namespace Go.Proofs.YtbeiopoejdkheaaGreatDoor
open Go Go.RowKit Eng Sp Dg
set_option linter.unusedVariables false
set_option linter.unusedSimpArgs false
set_option maxRecDepth 100000
namespace Bd
open _root_.Go.Proofs.YtbeiopoejdkheaaGreatDoor.Nat (Num OwnNil)

def IsMap (w : World) (m : Nat) : Prop := ∃ es clock, w.heap[m]? = some (.map es clock)
/-- The map m may change, and what is new. -/
abbrev Mp (m : Nat) (w w' : World) : Prop := Bar (fun k => k = m) w w'
theorem ne_of_cell {w : World} {m : Nat} (hm : IsMap w m) {ad : Addr} {v : Value} (hc : w.cell? ad = some v) : ¬ ad.block = m := by
  rintro rfl
  obtain ⟨es, c, h⟩ := hm
  simp [World.cell?, h] at hc
theorem Mp.cell {m : Nat} {w w' : World} (h : Mp m w w') (hm : IsMap w m) {ad : Addr} {v : Value} (hc : w.cell? ad = some v) : w'.cell? ad = some v :=
  Bar.cell h (ne_of_cell hm hc) hc
theorem rd_keep {k : IntKind} {w w' : World} {s : Slc} {l : List Int} (h : Rd k w s l) (hk : ∀ ad v, w.cell? ad = some v → w'.cell? ad = some v) : Rd k w' s l :=
  ⟨h.n, h.c, fun i hi => by obtain ⟨ad, e, hc⟩ := h.get i hi; exact ⟨ad, e, hk _ _ hc⟩⟩
theorem Mp.rd {m : Nat} {w w' : World} (h : Mp m w w') (hm : IsMap w m) {k : IntKind} {s : Slc} {l : List Int} (hr : Rd k w s l) : Rd k w' s l :=
  rd_keep hr fun _ _ hc => h.cell hm hc
theorem Mp.num {m : Nat} {w w' : World} (h : Mp m w w') (hm : IsMap w m) {s : Slc} {N : Nat} (hr : Num w s N) : Num w' s N := by
  obtain ⟨l, h1, h2⟩ := hr
  exact ⟨l, h.rd hm h1, h2⟩
theorem Mp.own {m : Nat} {w w' : World} (h : Mp m w w') (hm : IsMap w m) {base : Nat} {s : Slc} {l : List Nat} (hr : OwnNil base w s l) : OwnNil base w' s l := by
  rcases hr with hr | ⟨b, h1, h2, h3⟩
  · exact .inl hr
  · refine .inr ⟨b, h1, h2, h3.hd, ?_⟩
    obtain ⟨sp, q1, q2⟩ := h3.mem
    refine ⟨sp, q1, ?_⟩
    rw [h.block b h3.lt ?_]
    · exact q2
    · rintro rfl
      obtain ⟨es, c, hh⟩ := hm
      rw [hh] at q2; cases q2

def Good (w : World) (f : Nat → Nat) (e : MapEntry) : Prop := ∃ (n : Nat) (s : Slc), e.key = .int .i64 (n : Int) ∧ e.val = s.v ∧ Num w s (f n)
/-- The block is a map: under n it keeps what reads as f n, or nothing. -/
def MapOk (w : World) (m : Nat) (f : Nat → Nat) : Prop := ∃ es clock, w.heap[m]? = some (.map es clock) ∧ ∀ e ∈ es.toList, Good w f e
theorem MapOk.lt {w : World} {m : Nat} {f : Nat → Nat} (h : MapOk w m f) : m < w.heap.size := by
  obtain ⟨es, c, h, _⟩ := h; exact (Array.getElem?_eq_some_iff.1 h).1
theorem MapOk.ahead {w w' : World} {m : Nat} {f : Nat → Nat} (h : MapOk w m f) (ha : Ahead w w') : MapOk w' m f := by
  have hl := h.lt
  obtain ⟨es, c, h1, h2⟩ := h
  refine ⟨es, c, by rw [ha.block m hl]; exact h1, fun e he => ?_⟩
  obtain ⟨n, s, q1, q2, q3⟩ := h2 e he
  exact ⟨n, s, q1, q2, q3.ahead ha⟩

theorem findNow_int (n : Int) : ∀ (es : List MapEntry) (i : Nat), (∀ e ∈ es, ∃ x : Int, e.key = .int .i64 x) →
    Instr.findNow (.int .i64) (.int .i64 n) es i = some none ∨ ∃ e j, es[j]? = some e ∧ e.key = .int .i64 n ∧ Instr.findNow (.int .i64) (.int .i64 n) es i = some (some (i + j, e.val))
  | [], i, _ => .inl rfl
  | e :: es, i, h => by
    obtain ⟨x, hx⟩ := h e (by simp)
    unfold Instr.findNow
    rw [hx]
    by_cases hnx : n = x
    · subst hnx
      exact .inr ⟨e, 0, rfl, hx, by simp [Instr.sameNow]⟩
    · have hne : (n == x) = false := beq_eq_false_iff_ne.2 hnx
      simp only [Instr.sameNow, if_true, hne]
      rcases findNow_int n es (i + 1) (fun e he => h e (by simp [he])) with h1 | ⟨e', j, h1, h2, h3⟩
      · exact .inl h1
      · exact .inr ⟨e', j + 1, by simpa using h1, h2, by rw [h3, show i + 1 + j = i + (j + 1) by omega]⟩

section
variable {P : Program} {t k e : TypeId}
theorem check_int (hk : P.underlying k = some (.int .i64)) (b : Bool) (n : Int) (w : World) : (Instr.checkKey b 10000 k (.int .i64 n)).run P w = .ok () w := by
  show (Instr.checkKey b (9999 + 1) k (.int .i64 n)).run P w = .ok () w
  unfold Instr.checkKey
  simp [run_underlying hk, Result.andThen]
theorem find_int (hk : P.underlying k = some (.int .i64)) (n : Int) {es : List MapEntry} (h : ∀ e ∈ es, ∃ x : Int, e.key = .int .i64 x) (w : World) :
    (Instr.findKey k (.int .i64 n) es).run P w = .ok none w ∨ ∃ e j, es[j]? = some e ∧ e.key = .int .i64 n ∧ (Instr.findKey k (.int .i64 n) es).run P w = .ok (some (j, e.val)) w := by
  rcases findNow_int n es 0 h with h1 | ⟨e, j, h1, h2, h3⟩
  · left
    unfold Instr.findKey
    simp [run_underlying hk, h1, Result.andThen]
  · right
    refine ⟨e, j, h1, h2, ?_⟩
    unfold Instr.findKey
    simp [run_underlying hk, h3, Result.andThen]
theorem MapOk.keys {w : World} {f : Nat → Nat} {es : Array MapEntry} (h : ∀ e ∈ es.toList, Good w f e) : ∀ e ∈ es.toList, ∃ x : Int, e.key = .int .i64 x := fun e he => by
  obtain ⟨n, s, q, _⟩ := h e he; exact ⟨_, q⟩
/-- A look-up: what is kept, or that there is nothing. -/
theorem lookup (hT : P.underlying t = some (.map k e)) (hk : P.underlying k = some (.int .i64)) {w : World} (hz : (zeroValue e).run P w = .ok (Slc.v ⟨none, 0, 0⟩) w) {m : Nat} {f : Nat → Nat} (h : MapOk w m f) (n : Nat)
    {K : Value → World → Prop} (h1 : ∀ s, Num w s (f n) → K (.tuple #[Slc.v s, .bool true]) w) (h2 : K (.tuple #[Slc.v ⟨none, 0, 0⟩, .bool false]) w) :
    (Instr.lookup t (.map (some m)) (.int .i64 (n : Int)) true).wp P K (fun _ _ => False) w := by
  obtain ⟨es, c, hb, hg⟩ := h
  rw [Sem.wp_iff_run]
  rcases find_int hk (n : Int) (MapOk.keys hg) w with hf | ⟨x, j, q1, q2, hf⟩
  · have hr : (Instr.lookup t (.map (some m)) (.int .i64 (n : Int)) true).run P w = .ok (.tuple #[Slc.v ⟨none, 0, 0⟩, .bool false]) w := by
      simp [Instr.lookup, run_underlying hT, MapKept.run_getObj_map hb, check_int hk, hf, hz, Result.andThen]
    rw [hr]; exact h2
  · have hm : x ∈ es.toList := List.mem_of_getElem? q1
    obtain ⟨n', s, g1, g2, g3⟩ := hg x hm
    have e1 : n' = n := by rw [q2] at g1; injection g1; omega
    subst e1
    have hr : (Instr.lookup t (.map (some m)) (.int .i64 (n' : Int)) true).run P w = .ok (.tuple #[Slc.v s, .bool true]) w := by
      simp [Instr.lookup, run_underlying hT, MapKept.run_getObj_map hb, check_int hk, hf, Result.andThen, g2]
    rw [hr]; exact h1 s g3
end
end Bd
end Go.Proofs.YtbeiopoejdkheaaGreatDoor
namespace Go.Proofs.YtbeiopoejdkheaaGreatDoor
open Go Go.RowKit Eng Sp Dg
set_option linter.unusedVariables false
set_option linter.unusedSimpArgs false
set_option maxRecDepth 100000
namespace Bd
open _root_.Go.Proofs.YtbeiopoejdkheaaGreatDoor.Nat (Num Num.ahead OwnNil OwnNil.ahead OwnNil.mono OwnNil.nil Ret Ret.num bigC bigC_ok digs_len_bl own_num From_spec add_num)
open _root_.Go.Proofs.YtbeiopoejdkheaaGreatDoor.Mul (Pow_spec Mul_spec)

def hvFrom (B v : Nat) (l : List Nat) : Nat := l.foldl (fun v d => v * B + d) v
def hv (B : Nat) (l : List Nat) : Nat := hvFrom B 0 l

end Bd
end Go.Proofs.YtbeiopoejdkheaaGreatDoor
namespace Go.Proofs.YtbeiopoejdkheaaGreatDoor
open Go Go.RowKit Eng Sp Dg
set_option linter.unusedVariables false
set_option linter.unusedSimpArgs false
set_option maxRecDepth 100000
namespace Nat

/-- Numbers of the call's own, or nil. -/
def OwnI (base : Nat) (w : World) (s : Slc) (l : List Int) : Prop := (s = ⟨none, 0, 0⟩ ∧ l = []) ∨ ∃ b, base ≤ b ∧ s.c ≤ maxLen ∧ Owr .i64 tInt w s l b
theorem OwnI.rd {base : Nat} {w : World} {s : Slc} {l : List Int} (h : OwnI base w s l) : Rd .i64 w s l := by
  rcases h with ⟨rfl, rfl⟩ | ⟨b, _, _, h⟩
  · exact Rd.nil
  · exact h.rd
theorem OwnI.ahead {base : Nat} {w w' : World} {s : Slc} {l : List Int} (h : OwnI base w s l) (ha : Ahead w w') : OwnI base w' s l := by
  rcases h with h | ⟨b, h1, h2, h3⟩
  · exact .inl h
  · exact .inr ⟨b, h1, h2, h3.ahead ha⟩
theorem OwnI.mono {base base' : Nat} {w : World} {s : Slc} {l : List Int} (h : OwnI base w s l) (hb : base' ≤ base) : OwnI base' w s l := by
  rcases h with h | ⟨b, h1, h2, h3⟩
  · exact .inl h
  · exact .inr ⟨b, by omega, h2, h3⟩
theorem OwnI.nil {base : Nat} {w : World} : OwnI base w ⟨none, 0, 0⟩ [] := .inl ⟨rfl, rfl⟩

theorem lit_rd (k : IntKind) (t : TypeId) (w : World) (l : List Int) : Rd k (w.alloc (.cells (ints k l).toArray t (0, 0))) ⟨some ⟨w.heap.size, 0, none⟩, l.length, l.length⟩ l :=
  Owr.rd (t := t) (b := w.heap.size) ⟨rfl, [], by simp, by rw [get_alloc]; simp⟩

/-- The attempts of a fuel: how many, and which. -/
def atts (N : Nat) : Nat := min 16 (bl N - 6)

end Nat
end Go.Proofs.YtbeiopoejdkheaaGreatDoor
namespace Go.Proofs.YtbeiopoejdkheaaGreatDoor
open Go Go.RowKit Eng Sp Dg
set_option linter.unusedVariables false
set_option linter.unusedSimpArgs false
set_option maxRecDepth 100000
namespace Ref
open _root_.Go.Proofs.YtbeiopoejdkheaaGreatDoor.Nat (OwnNil Num Ret Yes From_spec digs_len_bl)

/-- The least of 64, 128, .. that is not below p is 64 * 2^i. -/
def Least (p : Int) (i : Nat) : Prop := (∀ j, j < i → ((64 * 2 ^ j : Nat) : Int) < p) ∧ p ≤ ((64 * 2 ^ i : Nat) : Int)
theorem Least.eq {p : Int} {i j : Nat} (h : Least p i) (k : Least p j) : i = j := by
  rcases Nat.lt_trichotomy i j with h1 | h1 | h1
  · have := k.1 i h1; have := h.2; omega
  · exact h1
  · have := h.1 j h1; have := k.2; omega

end Ref
end Go.Proofs.YtbeiopoejdkheaaGreatDoor
namespace Go.Proofs.YtbeiopoejdkheaaGreatDoor
open Go Go.RowKit Eng Sp Dg
set_option linter.unusedVariables false
set_option linter.unusedSimpArgs false
set_option maxRecDepth 100000
namespace Fuel
open _root_.Go.Proofs.YtbeiopoejdkheaaGreatDoor.Nat (Yes Num Num.ahead Num.bl OwnNil OwnNil.rd OwnNil.ahead OwnI OwnI.rd OwnI.ahead OwnI.mono atts Norm_spec Add_spec bigC num_of)
open _root_.Go.Proofs.YtbeiopoejdkheaaGreatDoor.Ref (Least)
open Sb

theorem cutHiG {k : IntKind} {t e : TypeId} (hT : isSl pr t k = some e) {w : World} {s : Slc} {h : Int} (h0 : 0 ≤ h) (h1 : h ≤ s.c) {K : Slc → World → Prop} (hk : K ⟨s.A, h.toNat, s.c⟩ w) :
    semS pr (Instr.sliceAt t s.v none (some (.int .i64 h)) none) w fun s' w' => K s' w' := by
  unfold semS; rw [Sem.wp_iff_run, run_slice_hi hT w s h0 h1]; exact ⟨_, rfl, hk⟩

/-- The meter lies in block b: its fuel is N, k attempts have been told. -/
def Mt (w : World) (b : Nat) (N k : Nat) : Prop := ∃ s : Slc, Blk w b #[s.v, .int .i64 (k : Int), .bool true] ∧ Num w s N
theorem Mt.ahead {w w' : World} {b N k : Nat} (h : Mt w b N k) (ha : Ahead w w') : Mt w' b N k := by
  obtain ⟨s, h1, h2⟩ := h; exact ⟨s, h1.ahead ha, h2.ahead ha⟩
theorem Mt.lt {w : World} {b N k : Nat} (h : Mt w b N k) : b < w.heap.size := by obtain ⟨s, h1, _⟩ := h; exact h1.lt
/-- Only the meter's block, and new memory. -/
structure Stp (b : Nat) (w w' : World) : Prop where
  bar : Bar (fun k => k = b) w w'
  rd : ∀ s l, Rd .u64 w s l → Rd .u64 w' s l
theorem Stp.of_ahead {b : Nat} {w w' : World} (h : Ahead w w') : Stp b w w' := ⟨Bar.of_ahead h, fun _ _ hr => hr.ahead h⟩
theorem Stp.trans {b : Nat} {x y z : World} (h : Stp b x y) (k : Stp b y z) : Stp b x z := ⟨h.bar.trans k.bar, fun s l hr => k.rd s l (h.rd s l hr)⟩
theorem Stp.ahead {b : Nat} {w0 w w' : World} (h : Stp b w w') (ha : Ahead w0 w) (hb : w0.heap.size ≤ b) : Ahead w0 w' :=
  ⟨h.bar.os.trans ha.os, h.bar.tape.trans ha.tape, h.bar.output.trans ha.output, Nat.le_trans ha.size h.bar.size, fun k hk => (h.bar.block k (Nat.lt_of_lt_of_le hk ha.size) (by omega)).trans (Below.block ha k hk)⟩
theorem Stp.num {b : Nat} {w w' : World} {s : Slc} {N : Nat} (h : Stp b w w') (hn : Num w s N) : Num w' s N := by
  obtain ⟨l, h1, h2⟩ := hn; exact ⟨l, h.rd _ _ h1, h2⟩

def enough (N : Nat) (p : Int) : Prop := 0 < atts N ∧ p ≤ ((64 * 2 ^ (atts N - 1) : Nat) : Int)
instance (N : Nat) (p : Int) : Decidable (enough N p) := inferInstanceAs (Decidable (_ ∧ _))

end Fuel
end Go.Proofs.YtbeiopoejdkheaaGreatDoor
namespace Go.Proofs.YtbeiopoejdkheaaGreatDoor
open Go Go.RowKit Eng
set_option linter.unusedVariables false

set_option maxRecDepth 100000 in
/-- surd/numeral.good: function 113. -/
theorem numeral_good_vc (a0_base : Int) (w : World) (R : Ending → World → Prop)
    
    (h : br (decide (a0_base ≥ 2))
    (R (.returned (Value.bool (decide (a0_base ≤ 36)))) w)
    (R (.returned (Value.bool false)) w)) :
    Calls Tryz.prog 113 #[Value.int .i64 a0_base] w R := by
  refine calls_of_vc (fun _ => none) (by kernel_rfl) Tryz.func113 rfl ?_ ?_
  · refine kcast h ?_; kernel_rfl
  · exact (obl_seq rfl (obl_reg (obl_seq rfl (obl_reg (obl_ret trivial)))))

end Go.Proofs.YtbeiopoejdkheaaGreatDoor
namespace Go.Proofs.YtbeiopoejdkheaaGreatDoor
open Go Go.RowKit Eng Sp Dg
set_option linter.unusedVariables false
set_option linter.unusedSimpArgs false
set_option maxRecDepth 100000
namespace Bd
open _root_.Go.Proofs.YtbeiopoejdkheaaGreatDoor.Nat (Num Num.ahead OwnNil OwnNil.ahead OwnNil.mono OwnNil.nil Ret)
open Sb

/-- A text's bytes. -/
def bs (s : ByteArray) : List Nat := s.data.toList.map UInt8.toNat
theorem bs_length (s : ByteArray) : (bs s).length = s.size := by simp [bs]
theorem run_byte {P : Program} {t : TypeId} (hT : P.underlying t = some .string) (w : World) (s : ByteArray) {i : Nat} (h : i < s.size) :
    (Instr.index t (.string s) (.int .i64 (i : Int))).run P w = .ok (.int .u8 (((bs s).getD i 0 : Nat) : Int)) w := by
  have e : s[i]? = some s[i] := by simp [h]
  have e2 : (s[i]).toNat = (bs s).getD i 0 := by
    rw [getD_lt _ _ (by rw [bs_length]; exact h)]
    simp [bs]; rfl
  simp [Instr.index, asIntOf, run_underlying hT, Result.andThen, e, e2]
theorem ix_byte {P : Program} {t : TypeId} (hT : P.underlying t = some .string) {w : World} {s : ByteArray} {i : Nat} (h : i < s.size) {K : Int → World → Prop} (hk : K (((bs s).getD i 0 : Nat) : Int) w) :
    semI P .u8 (Instr.index t (.string s) (.int .i64 (i : Int))) w fun x w1 => K x w1 := by
  unfold semI
  rw [Sem.wp_iff_run, run_byte hT w s h]
  exact ⟨_, rfl, hk⟩

/-- What a byte says as a digit; 36: nothing. -/
def dg (c : Nat) : Nat := if 48 ≤ c ∧ c ≤ 57 then c - 48 else if 97 ≤ c ∧ c ≤ 122 then c - 97 + 10 else 36
def dl (s : ByteArray) : List Nat := (bs s).map dg
/-- Digits of the base alone, one or more. -/
def GoodT (B : Nat) (s : ByteArray) : Prop := 0 < s.size ∧ ok B (dl s)
instance (B : Nat) (s : ByteArray) : Decidable (GoodT B s) := by unfold GoodT ok; exact inferInstance

theorem good_spec {w : World} {B : Nat} (hB : 2 ≤ B) (hB2 : B ≤ 36) : Calls pr numeral_good_id #[.int .i64 (B : Int)] w fun e w' => w' = w ∧ e = .returned (.bool true) :=
  numeral_good_vc _ w _ (br_true (decide_eq_true (by omega)) ⟨rfl, by simp; omega⟩)

end Bd
end Go.Proofs.YtbeiopoejdkheaaGreatDoor
namespace Go.Proofs.YtbeiopoejdkheaaGreatDoor
open Go Go.RowKit Eng
set_option linter.unusedVariables false

set_option maxRecDepth 100000 in
/-- surd/numeral.Print: function 80. -/
theorem numeral_Print_vc (a0_a : Slc) (a1_base : Int) (w : World) (R : Ending → World → Prop)
    
    (h : Calls Tryz.prog 113 #[Value.int .i64 a1_base] w fun e1 w1 =>
    ∃ b1 : Bool, e1 = .returned (Value.bool b1) ∧
    (br (!b1)
     (R (.returned (Value.tuple #[Value.string (⟨#[]⟩ : ByteArray), Value.int .i64 50])) w1)
     (Calls Tryz.prog 115 #[a0_a.v, Value.int .i64 a1_base] w1 fun e2 w2 =>
      ∃ s1 : Slc, e2 = .returned s1.v ∧
      (Calls Tryz.prog 114 #[s1.v] w2 fun e3 w3 =>
       ∃ s2 : Slc, e3 = .returned s2.v ∧
       (semN Tryz.prog (convert 143 9 s2.v) w3 fun n1 w4 =>
        R (.returned (Value.tuple #[Value.string n1, Value.int .i64 0])) w4))))) :
    Calls Tryz.prog 80 #[a0_a.v, Value.int .i64 a1_base] w R := by
  refine calls_of_vc (fun _ => none) (by kernel_rfl) Tryz.func80 rfl ?_ ?_
  · refine kcast h ?_; kernel_rfl
  · exact (obl_seq rfl (obl_reg (obl_seq rfl (obl_seq rfl (obl_reg (obl_cond (obl_seq rfl (obl_reg (obl_ret (obl_skip (obl_seq rfl (obl_reg (obl_ret trivial)))))))))))))

def numeral_text_cut (J0 : Slc → Slc → Int → Int → World → Prop) (m0 : Slc → Slc → Int → Int → World → Nat) : Nat → Option ((Act → World → Prop) × (Act → World → Nat))
  | 0 => some (fun a_ w_ => atSz a_ 23 (atS a_ 3 fun t3_b => atS a_ 9 fun t9 => atI .i64 a_ 10 fun t10 => atI .i64 a_ 11 fun t11 => J0 t3_b t9 t10 t11 w_), fun a_ w_ => mS a_ 3 fun t3_b => mS a_ 9 fun t9 => mI a_ 10 fun t10 => mI a_ 11 fun t11 => m0 t3_b t9 t10 t11 w_)
  | _ => none

set_option maxRecDepth 100000 in
/-- surd/numeral.text: function 114. -/
theorem numeral_text_vc (a0_l : Slc) (w : World) (R : Ending → World → Prop)
    (J0 : Slc → Slc → Int → Int → World → Prop) (m0 : Slc → Slc → Int → Int → World → Nat)
    (h : semS Tryz.prog (Instr.makeSlice 143 (Value.int .i64 (a0_l.n : Int)) (Value.int .i64 (a0_l.n : Int))) w fun s1 w1 =>
    J0 s1 a0_l (a0_l.n : Int) 0 w1)
    (h0 : ∀ (t3_b : Slc) (t9 : Slc) (t10 : Int) (t11 : Int) (w_ : World), J0 t3_b t9 t10 t11 w_ → 
    br (decide (t11 < t10))
    (semA Tryz.prog (Instr.indexAt 145 t9.v (Value.int .i64 t11)) w_ fun ad1 w2 =>
     ldI .i64 ad1 w2 fun x1 =>
     semI Tryz.prog .u8 (Instr.index 9 (Value.string (⟨#[48, 49, 50, 51, 52, 53, 54, 55, 56, 57, 97, 98, 99, 100, 101, 102, 103, 104, 105, 106, 107, 108, 109, 110, 111, 112, 113, 114, 115, 116, 117, 118, 119, 120, 121, 122]⟩ : ByteArray)) (Value.int .i64 x1)) w2 fun x2 w3 =>
     semA Tryz.prog (Instr.indexAt 143 t3_b.v (Value.int .i64 t11)) w3 fun ad2 w4 =>
     stC ad2 (Value.int .u8 x2) w4 fun w5 =>
     J0 t3_b t9 t10 (IntKind.i64.wrap (t11 + 1)) w5 ∧
     m0 t3_b t9 t10 (IntKind.i64.wrap (t11 + 1)) w5 < m0 t3_b t9 t10 t11 w_)
    (R (.returned t3_b.v) w_)) :
    Calls Tryz.prog 114 #[a0_l.v] w R := by
  refine calls_of_vc (numeral_text_cut J0 m0) (by kernel_rfl) Tryz.func114 rfl ?_ ?_
  · refine kcast h ?_; kernel_rfl
  · exact (obl_seq rfl (obl_reg (obl_seq rfl (obl_reg (obl_seq rfl (obl_seq rfl (obl_reg (obl_loop _ rfl (fun a_ w_ hL_ => (by
    obtain ⟨hz_, hd_, hL_⟩ := atSz_out hL_
    obtain ⟨t3_b, h3_, hL_⟩ := atS_out hL_
    obtain ⟨t9, h9_, hL_⟩ := atS_out hL_
    obtain ⟨t10, h10_, hL_⟩ := atI_out hL_
    obtain ⟨t11, h11_, hL_⟩ := atI_out hL_
    obtain ⟨g0, rfl⟩ : ∃ g, a_ = Fr 23 [(3, t3_b.v), (9, t9.v), (10, Value.int .i64 t10), (11, Value.int .i64 t11)] g := ⟨_, fr_of hz_ hd_ [(3, t3_b.v), (9, t9.v), (10, Value.int .i64 t10), (11, Value.int .i64 t11)] (sel_cons h3_ (sel_cons h9_ (sel_cons h10_ (sel_cons h11_ sel_nil))))⟩
    clear hz_ hd_ h3_ h9_ h10_ h11_
    have hJ0_ := hL_
    refine ⟨(fun _ => none), kcast (h0 t3_b t9 t10 t11 w_ hJ0_) ?_, ?_⟩
    · kernel_rfl
    · exact (obl_seq rfl (obl_reg (obl_seq rfl (obl_cond (obl_skip (obl_exit (obl_seq rfl (obl_blk rfl (obl_seq rfl (obl_reg (obl_reg (obl_reg trivial)))))))))))))) (obl_seq rfl (obl_reg (obl_ret trivial)))))))))))

def numeral_all_cut (J0 : Slc → Addr → Addr → World → Prop) (m0 : Slc → Addr → Addr → World → Nat) (J2 : Slc → Int → World → Prop) (m2 : Slc → Int → World → Nat) : Nat → Option ((Act → World → Prop) × (Act → World → Nat))
  | 0 => some (fun a_ w_ => atSz a_ 75 (atS a_ 0 fun t0 => atA a_ 3 fun t3 => atA a_ 5 fun t5 => J0 t0 t3 t5 w_), fun a_ w_ => mS a_ 0 fun t0 => mA a_ 3 fun t3 => mA a_ 5 fun t5 => m0 t0 t3 t5 w_)
  | 2 => some (fun a_ w_ => atSz a_ 75 (atS a_ 10 fun t10 => atI .i64 a_ 11 fun t11 => J2 t10 t11 w_), fun a_ w_ => mS a_ 10 fun t10 => mI a_ 11 fun t11 => m2 t10 t11 w_)
  | _ => none

set_option maxRecDepth 100000 in
/-- surd/numeral.all: function 115. -/
theorem numeral_all_vc (a0 : Slc) (a1 : Int) (w : World) (R : Ending → World → Prop)
    (J0 : Slc → Addr → Addr → World → Prop) (m0 : Slc → Addr → Addr → World → Nat) (J2 : Slc → Int → World → Prop) (m2 : Slc → Int → World → Nat)
    (h : newC w #[Value.int .i64 a1] 3 fun ad1 w1 =>
    Calls Tryz.prog 46 #[a0.v] w1 fun e1 w2 =>
    ∃ x1 : Int, e1 = .returned (Value.int .i64 x1) ∧
    (br (decide (x1 ≤ 768))
     (ldI .i64 ad1 w2 fun x2 =>
      Calls Tryz.prog 146 #[a0.v, Value.int .i64 x2, Value.int .i64 1] w2 fun e2 w3 =>
      ∃ s1 : Slc, e2 = .returned s1.v ∧
      (R (.returned s1.v) w3))
     (Calls Tryz.prog 46 #[a0.v] w2 fun e3 w4 =>
      ∃ x3 : Int, e3 = .returned (Value.int .i64 x3) ∧
      (br (decide (x3 > 67108864))
       (ldI .i64 ad1 w4 fun x4 =>
        Calls Tryz.prog 146 #[a0.v, Value.int .i64 x4, Value.int .i64 1] w4 fun e4 w5 =>
        ∃ s2 : Slc, e4 = .returned s2.v ∧
        (R (.returned s2.v) w5))
       (ldI .i64 ad1 w4 fun x5 =>
        Calls Tryz.prog 84 #[Value.int .u64 (IntKind.u64.wrap x5)] w4 fun e5 w6 =>
        ∃ s3 : Slc, e5 = .returned s3.v ∧
        (newC w6 #[s3.v] 23 fun ad2 w7 =>
         newC w7 #[(⟨none, 0, 0⟩ : Slc).v] 164 fun ad3 w8 =>
         stC ad3 ((⟨some ad2, 1, 1⟩ : Slc).v) w8 fun w9 =>
         J0 a0 ad1 ad3 w9))))))
    (h0 : ∀ (t0 : Slc) (t3 : Addr) (t5 : Addr) (w_ : World), J0 t0 t3 t5 w_ → 
    ldS t5 w_ fun s4 =>
    ldS t5 w_ fun s5 =>
    semA Tryz.prog (Instr.indexAt 164 s4.v (Value.int .i64 (IntKind.i64.wrap ((s5.n : Int) - 1)))) w_ fun ad4 w10 =>
    ldS ad4 w10 fun s6 =>
    Calls Tryz.prog 147 #[s6.v] w10 fun e6 w11 =>
    ∃ s7 : Slc, ∃ x6 : Int, e6 = .returned (Value.tuple #[s7.v, Value.int .i64 x6]) ∧
    (br (x6 != 0)
     (newC w11 #[Value.nilFunc] 146 fun ad5 w12 =>
      stC ad5 (Value.func (Fn.func 148) #[] #[Value.pointer (some t3), Value.pointer (some t5), Value.pointer (some ad5)]) w12 fun w13 =>
      ldV ad5 w13 fun v1 =>
      ldS t5 w13 fun s8 =>
      callX Tryz.prog v1 #[t0.v, Value.int .i64 (IntKind.i64.wrap ((s8.n : Int) - 1))] w13 fun e7 w14 =>
      ∃ s9 : Slc, e7 = .returned s9.v ∧
      (J2 s9 0 w14))
     (Calls Tryz.prog 81 #[s7.v, t0.v] w11 fun e8 w20 =>
      ∃ x8 : Int, e8 = .returned (Value.int .i64 x8) ∧
      (br (decide (x8 > 0))
       (newC w20 #[Value.nilFunc] 146 fun ad7 w21 =>
        stC ad7 (Value.func (Fn.func 148) #[] #[Value.pointer (some t3), Value.pointer (some t5), Value.pointer (some ad7)]) w21 fun w22 =>
        ldV ad7 w22 fun v2 =>
        ldS t5 w22 fun s14 =>
        callX Tryz.prog v2 #[t0.v, Value.int .i64 (IntKind.i64.wrap ((s14.n : Int) - 1))] w22 fun e9 w23 =>
        ∃ s15 : Slc, e9 = .returned s15.v ∧
        (J2 s15 0 w23))
       (ldS t5 w20 fun s16 =>
        newC w20 #[s7.v] 23 fun ad8 w24 =>
        semS Tryz.prog (Builtin.append_ #[164, 164] 164 #[s16.v, (⟨some ad8, 1, 1⟩ : Slc).v]) w24 fun s17 w25 =>
        stC t5 s17.v w25 fun w26 =>
        J0 t0 t3 t5 w26 ∧
        m0 t0 t3 t5 w26 < m0 t0 t3 t5 w_)))))
    (h2 : ∀ (t10 : Slc) (t11 : Int) (w_ : World), J2 t10 t11 w_ → 
    br (decide (t11 < (IntKind.i64.wrap ((t10.n : Int) - 1))))
    (semA Tryz.prog (Instr.indexAt 145 t10.v (Value.int .i64 t11)) w_ fun ad6 w15 =>
     ldI .i64 ad6 w15 fun x7 =>
     br (x7 == 0)
     (J2 t10 (IntKind.i64.wrap (t11 + 1)) w15 ∧
      m2 t10 (IntKind.i64.wrap (t11 + 1)) w15 < m2 t10 t11 w_)
     (semS Tryz.prog (Instr.sliceAt 145 t10.v (some (Value.int .i64 t11)) none none) w15 fun s10 w16 =>
      semS Tryz.prog (Builtin.append_ #[145, 145] 145 #[(⟨none, 0, 0⟩ : Slc).v, s10.v]) w16 fun s11 w17 =>
      R (.returned s11.v) w17))
    (semS Tryz.prog (Instr.sliceAt 145 t10.v (some (Value.int .i64 t11)) none none) w_ fun s12 w18 =>
     semS Tryz.prog (Builtin.append_ #[145, 145] 145 #[(⟨none, 0, 0⟩ : Slc).v, s12.v]) w18 fun s13 w19 =>
     R (.returned s13.v) w19)) :
    Calls Tryz.prog 115 #[a0.v, Value.int .i64 a1] w R := by
  refine calls_of_vc (numeral_all_cut J0 m0 J2 m2) (by kernel_rfl) Tryz.func115 rfl ?_ ?_
  · refine kcast h ?_; kernel_rfl
  · exact (obl_seq rfl (obl_reg (obl_seq rfl (obl_seq rfl (obl_reg (obl_cond (obl_seq rfl (obl_reg (obl_ret (obl_skip (obl_seq rfl (obl_reg (obl_seq rfl (obl_loop _ rfl (fun a_ w_ hL_ => (by
    obtain ⟨hz_, hd_, hL_⟩ := atSz_out hL_
    obtain ⟨t0, h0_, hL_⟩ := atS_out hL_
    obtain ⟨t3, h3_, hL_⟩ := atA_out hL_
    obtain ⟨t5, h5_, hL_⟩ := atA_out hL_
    obtain ⟨g0, rfl⟩ : ∃ g, a_ = Fr 75 [(0, t0.v), (3, Value.pointer (some t3)), (5, Value.pointer (some t5))] g := ⟨_, fr_of hz_ hd_ [(0, t0.v), (3, Value.pointer (some t3)), (5, Value.pointer (some t5))] (sel_cons h0_ (sel_cons h3_ (sel_cons h5_ sel_nil)))⟩
    clear hz_ hd_ h0_ h3_ h5_
    have hJ0_ := hL_
    refine ⟨(fun _ => none), kcast (h0 t0 t3 t5 w_ hJ0_) ?_, ?_⟩
    · kernel_rfl
    · exact (obl_blk rfl (obl_seq rfl (obl_reg (obl_seq rfl (obl_reg (obl_seq rfl (obl_seq rfl (obl_reg (obl_cond (obl_exit (obl_skip (obl_reg trivial)))))))))))))) (obl_seq rfl (obl_reg (obl_seq rfl (obl_reg (obl_seq rfl (obl_reg (obl_seq rfl (obl_reg (obl_seq rfl (obl_loop _ rfl (fun a_ w_ hL_ => (by
    obtain ⟨hz_, hd_, hL_⟩ := atSz_out hL_
    obtain ⟨t10, h10_, hL_⟩ := atS_out hL_
    obtain ⟨t11, h11_, hL_⟩ := atI_out hL_
    obtain ⟨g2, rfl⟩ : ∃ g, a_ = Fr 75 [(10, t10.v), (11, Value.int .i64 t11)] g := ⟨_, fr_of hz_ hd_ [(10, t10.v), (11, Value.int .i64 t11)] (sel_cons h10_ (sel_cons h11_ sel_nil))⟩
    clear hz_ hd_ h10_ h11_
    have hJ2_ := hL_
    refine ⟨(fun _ => none), kcast (h2 t10 t11 w_ hJ2_) ?_, ?_⟩
    · kernel_rfl
    · exact (obl_seq rfl (obl_seq rfl (obl_reg (obl_cond (obl_skip (obl_exit (obl_blk rfl (obl_reg trivial)))))))))) (obl_seq rfl (obl_reg (obl_ret trivial)))))))))))))))))))))))))))

def numeral_digits_cut (J0 : Slc → Int → Int → Slc → Int → Int → World → Prop) (m0 : Slc → Int → Int → Slc → Int → Int → World → Nat) (J2 : Slc → Int → Int → Slc → Int → Int → World → Int → Int → Slc → Int → Int → Slc → Int → Int → Int → World → Prop) (m2 : Slc → Int → Int → Slc → Int → Int → World → Int → Int → Slc → Int → Int → Slc → Int → Int → Int → World → Nat) (J4 : Int → Slc → World → Prop) (m4 : Int → Slc → World → Nat) (J6 : Int → Slc → World → Prop) (m6 : Int → Slc → World → Nat) (J8 : Slc → Slc → Int → Int → World → Prop) (m8 : Slc → Slc → Int → Int → World → Nat) : Nat → Option ((Act → World → Prop) × (Act → World → Nat))
  | 0 => some (fun a_ w_ => atSz a_ 102 (atS a_ 0 fun t0 => atI .i64 a_ 1 fun t1 => atI .i64 a_ 2 fun t2 => atS a_ 7 fun t7 => atI .u64 a_ 8 fun t8 => atI .i64 a_ 9 fun t9 => J0 t0 t1 t2 t7 t8 t9 w_), fun a_ w_ => mS a_ 0 fun t0 => mI a_ 1 fun t1 => mI a_ 2 fun t2 => mS a_ 7 fun t7 => mI a_ 8 fun t8 => mI a_ 9 fun t9 => m0 t0 t1 t2 t7 t8 t9 w_)
  | 4 => some (fun a_ w_ => atSz a_ 102 (atI .i64 a_ 2 fun t2 => atS a_ 7 fun t7 => J4 t2 t7 w_), fun a_ w_ => mI a_ 2 fun t2 => mS a_ 7 fun t7 => m4 t2 t7 w_)
  | 6 => some (fun a_ w_ => atSz a_ 102 (atI .i64 a_ 2 fun t2 => atS a_ 7 fun t7 => J6 t2 t7 w_), fun a_ w_ => mI a_ 2 fun t2 => mS a_ 7 fun t7 => m6 t2 t7 w_)
  | 8 => some (fun a_ w_ => atSz a_ 102 (atS a_ 13 fun t13 => atS a_ 85 fun t85 => atI .i64 a_ 86 fun t86 => atI .i64 a_ 87 fun t87 => J8 t13 t85 t86 t87 w_), fun a_ w_ => mS a_ 13 fun t13 => mS a_ 85 fun t85 => mI a_ 86 fun t86 => mI a_ 87 fun t87 => m8 t13 t85 t86 t87 w_)
  | _ => none

def numeral_digits_cut_0 (J0 : Slc → Int → Int → Slc → Int → Int → World → Prop) (m0 : Slc → Int → Int → Slc → Int → Int → World → Nat) (J2 : Slc → Int → Int → Slc → Int → Int → World → Int → Int → Slc → Int → Int → Slc → Int → Int → Int → World → Prop) (m2 : Slc → Int → Int → Slc → Int → Int → World → Int → Int → Slc → Int → Int → Slc → Int → Int → Int → World → Nat) (J4 : Int → Slc → World → Prop) (m4 : Int → Slc → World → Nat) (J6 : Int → Slc → World → Prop) (m6 : Int → Slc → World → Nat) (J8 : Slc → Slc → Int → Int → World → Prop) (m8 : Slc → Slc → Int → Int → World → Nat) (o_t0 : Slc) (o_t1 : Int) (o_t2 : Int) (o_t7 : Slc) (o_t8 : Int) (o_t9 : Int) (o_w_ : World) : Nat → Option ((Act → World → Prop) × (Act → World → Nat))
  | 2 => some (fun a_ w_ => atSz a_ 102 (atI .i64 a_ 1 fun t1 => atI .i64 a_ 2 fun t2 => atS a_ 7 fun t7 => atI .u64 a_ 8 fun t8 => atI .i64 a_ 9 fun t9 => atS a_ 10 fun t10 => atI .u64 a_ 11 fun t11 => atI .i64 a_ 41 fun t41 => atI .i64 a_ 42 fun t42 => J2 o_t0 o_t1 o_t2 o_t7 o_t8 o_t9 o_w_ t1 t2 t7 t8 t9 t10 t11 t41 t42 w_), fun a_ w_ => mI a_ 1 fun t1 => mI a_ 2 fun t2 => mS a_ 7 fun t7 => mI a_ 8 fun t8 => mI a_ 9 fun t9 => mS a_ 10 fun t10 => mI a_ 11 fun t11 => mI a_ 41 fun t41 => mI a_ 42 fun t42 => m2 o_t0 o_t1 o_t2 o_t7 o_t8 o_t9 o_w_ t1 t2 t7 t8 t9 t10 t11 t41 t42 w_)
  | _ => none

set_option maxRecDepth 100000 in
/-- surd/numeral.digits: function 146. -/
theorem numeral_digits_vc (a0 : Slc) (a1 : Int) (a2 : Int) (w : World) (R : Ending → World → Prop)
    (J0 : Slc → Int → Int → Slc → Int → Int → World → Prop) (m0 : Slc → Int → Int → Slc → Int → Int → World → Nat) (J2 : Slc → Int → Int → Slc → Int → Int → World → Int → Int → Slc → Int → Int → Slc → Int → Int → Int → World → Prop) (m2 : Slc → Int → Int → Slc → Int → Int → World → Int → Int → Slc → Int → Int → Slc → Int → Int → Int → World → Nat) (J4 : Int → Slc → World → Prop) (m4 : Int → Slc → World → Nat) (J6 : Int → Slc → World → Prop) (m6 : Int → Slc → World → Nat) (J8 : Slc → Slc → Int → Int → World → Prop) (m8 : Slc → Slc → Int → Int → World → Nat)
    (h : Calls Tryz.prog 169 #[Value.int .i64 a1] w fun e1 w1 =>
    ∃ x1 : Int, ∃ x2 : Int, e1 = .returned (Value.tuple #[Value.int .u64 x1, Value.int .i64 x2]) ∧
    (J0 a0 a1 a2 (⟨none, 0, 0⟩ : Slc) x1 x2 w1))
    (h0 : ∀ (t0 : Slc) (t1 : Int) (t2 : Int) (t7 : Slc) (t8 : Int) (t9 : Int) (w_ : World), J0 t0 t1 t2 t7 t8 t9 w_ → 
    Calls Tryz.prog 46 #[t0.v] w_ fun e2 w2 =>
    ∃ x3 : Int, e2 = .returned (Value.int .i64 x3) ∧
    (br (decide (x3 > 0))
     (Calls Tryz.prog 157 #[t0.v, Value.int .u64 t8] w2 fun e3 w3 =>
      ∃ s1 : Slc, ∃ x4 : Int, ∃ x5 : Int, e3 = .returned (Value.tuple #[s1.v, Value.int .u64 x4, Value.int .i64 x5]) ∧
      (br (x5 != 0)
       (Calls Tryz.prog 84 #[Value.int .u64 t8] w3 fun e4 w4 =>
        ∃ s2 : Slc, e4 = .returned s2.v ∧
        (Calls Tryz.prog 149 #[t0.v, s2.v] w4 fun e5 w5 =>
         ∃ s3 : Slc, ∃ s4 : Slc, ∃ x6 : Int, e5 = .returned (Value.tuple #[s3.v, s4.v, Value.int .i64 x6]) ∧
         (J2 t0 t1 t2 t7 t8 t9 w_ t1 t2 t7 t8 t9 s3 x4 t9 0 w5)))
       (J2 t0 t1 t2 t7 t8 t9 w_ t1 t2 t7 t8 t9 s1 x4 t9 0 w3)))
     (J4 t2 t7 w2)))
    (h2 : ∀ (t0 : Slc) (t1 : Int) (t2 : Int) (t7 : Slc) (t8 : Int) (t9 : Int) (w_ : World), J0 t0 t1 t2 t7 t8 t9 w_ → ∀ (t1' : Int) (t2' : Int) (t7' : Slc) (t8' : Int) (t9' : Int) (t10' : Slc) (t11' : Int) (t41' : Int) (t42' : Int) (w__ : World), J2 t0 t1 t2 t7 t8 t9 w_ t1' t2' t7' t8' t9' t10' t11' t41' t42' w__ → 
    br (decide (t42' < t41'))
    (semI Tryz.prog .u64 (binOp .rem 65 (Value.int .u64 t11') (Value.int .u64 (IntKind.u64.wrap t1'))) w__ fun x7 w6 =>
     newC w6 #[Value.int .i64 (IntKind.i64.wrap x7)] 3 fun ad1 w7 =>
     semS Tryz.prog (Builtin.append_ #[145, 145] 145 #[t7'.v, (⟨some ad1, 1, 1⟩ : Slc).v]) w7 fun s5 w8 =>
     semI Tryz.prog .u64 (binOp .quo 65 (Value.int .u64 t11') (Value.int .u64 (IntKind.u64.wrap t1'))) w8 fun x8 w9 =>
     J2 t0 t1 t2 t7 t8 t9 w_ t1' t2' s5 t8' t9' t10' x8 t41' (IntKind.i64.wrap (t42' + 1)) w9 ∧
     m2 t0 t1 t2 t7 t8 t9 w_ t1' t2' s5 t8' t9' t10' x8 t41' (IntKind.i64.wrap (t42' + 1)) w9 < m2 t0 t1 t2 t7 t8 t9 w_ t1' t2' t7' t8' t9' t10' t11' t41' t42' w__)
    (J0 t10' t1' t2' t7' t8' t9' w__ ∧
     m0 t10' t1' t2' t7' t8' t9' w__ < m0 t0 t1 t2 t7 t8 t9 w_))
    (h4 : ∀ (t2 : Int) (t7 : Slc) (w_ : World), J4 t2 t7 w_ → 
    br (decide ((t7.n : Int) > 0))
    (semA Tryz.prog (Instr.indexAt 145 t7.v (Value.int .i64 (IntKind.i64.wrap ((t7.n : Int) - 1)))) w_ fun ad2 w10 =>
     ldI .i64 ad2 w10 fun x9 =>
     br (x9 == 0)
     (semS Tryz.prog (Instr.sliceAt 145 t7.v none (some (Value.int .i64 (IntKind.i64.wrap ((t7.n : Int) - 1)))) none) w10 fun s6 w11 =>
      J4 t2 s6 w11 ∧
      m4 t2 s6 w11 < m4 t2 t7 w_)
     (J6 t2 t7 w10))
    (J6 t2 t7 w_))
    (h6 : ∀ (t2 : Int) (t7 : Slc) (w_ : World), J6 t2 t7 w_ → 
    br (decide ((t7.n : Int) < t2))
    (newC w_ #[Value.int .i64 0] 3 fun ad3 w12 =>
     semS Tryz.prog (Builtin.append_ #[145, 145] 145 #[t7.v, (⟨some ad3, 1, 1⟩ : Slc).v]) w12 fun s7 w13 =>
     J6 t2 s7 w13 ∧
     m6 t2 s7 w13 < m6 t2 t7 w_)
    (semS Tryz.prog (Instr.makeSlice 145 (Value.int .i64 (t7.n : Int)) (Value.int .i64 (t7.n : Int))) w_ fun s8 w14 =>
     J8 s8 t7 (t7.n : Int) 0 w14))
    (h8 : ∀ (t13 : Slc) (t85 : Slc) (t86 : Int) (t87 : Int) (w_ : World), J8 t13 t85 t86 t87 w_ → 
    br (decide (t87 < t86))
    (semA Tryz.prog (Instr.indexAt 145 t85.v (Value.int .i64 t87)) w_ fun ad4 w15 =>
     ldI .i64 ad4 w15 fun x10 =>
     semA Tryz.prog (Instr.indexAt 145 t13.v (Value.int .i64 (IntKind.i64.wrap ((IntKind.i64.wrap ((t13.n : Int) - 1)) - t87)))) w15 fun ad5 w16 =>
     stC ad5 (Value.int .i64 x10) w16 fun w17 =>
     J8 t13 t85 t86 (IntKind.i64.wrap (t87 + 1)) w17 ∧
     m8 t13 t85 t86 (IntKind.i64.wrap (t87 + 1)) w17 < m8 t13 t85 t86 t87 w_)
    (R (.returned t13.v) w_)) :
    Calls Tryz.prog 146 #[a0.v, Value.int .i64 a1, Value.int .i64 a2] w R := by
  refine calls_of_vc (numeral_digits_cut J0 m0 J2 m2 J4 m4 J6 m6 J8 m8) (by kernel_rfl) Tryz.func146 rfl ?_ ?_
  · refine kcast h ?_; kernel_rfl
  · exact (obl_seq rfl (obl_reg (obl_seq rfl (obl_reg (obl_seq rfl (obl_reg (obl_seq rfl (obl_loop _ rfl (fun a_ w_ hL_ => (by
    obtain ⟨hz_, hd_, hL_⟩ := atSz_out hL_
    obtain ⟨t0, h0_, hL_⟩ := atS_out hL_
    obtain ⟨t1, h1_, hL_⟩ := atI_out hL_
    obtain ⟨t2, h2_, hL_⟩ := atI_out hL_
    obtain ⟨t7, h7_, hL_⟩ := atS_out hL_
    obtain ⟨t8, h8_, hL_⟩ := atI_out hL_
    obtain ⟨t9, h9_, hL_⟩ := atI_out hL_
    obtain ⟨g0, rfl⟩ : ∃ g, a_ = Fr 102 [(0, t0.v), (1, Value.int .i64 t1), (2, Value.int .i64 t2), (7, t7.v), (8, Value.int .u64 t8), (9, Value.int .i64 t9)] g := ⟨_, fr_of hz_ hd_ [(0, t0.v), (1, Value.int .i64 t1), (2, Value.int .i64 t2), (7, t7.v), (8, Value.int .u64 t8), (9, Value.int .i64 t9)] (sel_cons h0_ (sel_cons h1_ (sel_cons h2_ (sel_cons h7_ (sel_cons h8_ (sel_cons h9_ sel_nil))))))⟩
    clear hz_ hd_ h0_ h1_ h2_ h7_ h8_ h9_
    have hJ0_ := hL_
    refine ⟨(numeral_digits_cut_0 J0 m0 J2 m2 J4 m4 J6 m6 J8 m8 t0 t1 t2 t7 t8 t9 w_), kcast (h0 t0 t1 t2 t7 t8 t9 w_ hJ0_) ?_, ?_⟩
    · kernel_rfl
    · exact (obl_seq rfl (obl_seq rfl (obl_reg (obl_cond (obl_skip (obl_exit (obl_blk rfl (obl_seq rfl (obl_reg (obl_seq rfl (obl_seq rfl (obl_reg (obl_cond (obl_reg (obl_skip (obl_seq rfl (obl_seq rfl (obl_reg (obl_loop _ rfl (fun a_ w__ hL_ => (by
      obtain ⟨hz_, hd_, hL_⟩ := atSz_out hL_
      obtain ⟨t1', h1_, hL_⟩ := atI_out hL_
      obtain ⟨t2', h2_, hL_⟩ := atI_out hL_
      obtain ⟨t7', h7_, hL_⟩ := atS_out hL_
      obtain ⟨t8', h8_, hL_⟩ := atI_out hL_
      obtain ⟨t9', h9_, hL_⟩ := atI_out hL_
      obtain ⟨t10', h10_, hL_⟩ := atS_out hL_
      obtain ⟨t11', h11_, hL_⟩ := atI_out hL_
      obtain ⟨t41', h41_, hL_⟩ := atI_out hL_
      obtain ⟨t42', h42_, hL_⟩ := atI_out hL_
      obtain ⟨g2, rfl⟩ : ∃ g, a_ = Fr 102 [(1, Value.int .i64 t1'), (2, Value.int .i64 t2'), (7, t7'.v), (8, Value.int .u64 t8'), (9, Value.int .i64 t9'), (10, t10'.v), (11, Value.int .u64 t11'), (41, Value.int .i64 t41'), (42, Value.int .i64 t42')] g := ⟨_, fr_of hz_ hd_ [(1, Value.int .i64 t1'), (2, Value.int .i64 t2'), (7, t7'.v), (8, Value.int .u64 t8'), (9, Value.int .i64 t9'), (10, t10'.v), (11, Value.int .u64 t11'), (41, Value.int .i64 t41'), (42, Value.int .i64 t42')] (sel_cons h1_ (sel_cons h2_ (sel_cons h7_ (sel_cons h8_ (sel_cons h9_ (sel_cons h10_ (sel_cons h11_ (sel_cons h41_ (sel_cons h42_ sel_nil)))))))))⟩
      clear hz_ hd_ h1_ h2_ h7_ h8_ h9_ h10_ h11_ h41_ h42_
      have hJ2_ := hL_
      refine ⟨(fun _ => none), kcast (h2 t0 t1 t2 t7 t8 t9 w_ hJ0_ t1' t2' t7' t8' t9' t10' t11' t41' t42' w__ hJ2_) ?_, ?_⟩
      · kernel_rfl
      · exact (obl_seq rfl (obl_reg (obl_seq rfl (obl_cond (obl_skip (obl_exit (obl_seq rfl (obl_blk rfl (obl_seq rfl (obl_reg (obl_reg (obl_reg trivial)))))))))))))) (obl_reg trivial)))))))))))))))))))))) (obl_seq rfl (obl_loop _ rfl (fun a_ w_ hL_ => (by
    obtain ⟨hz_, hd_, hL_⟩ := atSz_out hL_
    obtain ⟨t2, h2_, hL_⟩ := atI_out hL_
    obtain ⟨t7, h7_, hL_⟩ := atS_out hL_
    obtain ⟨g4, rfl⟩ : ∃ g, a_ = Fr 102 [(2, Value.int .i64 t2), (7, t7.v)] g := ⟨_, fr_of hz_ hd_ [(2, Value.int .i64 t2), (7, t7.v)] (sel_cons h2_ (sel_cons h7_ sel_nil))⟩
    clear hz_ hd_ h2_ h7_
    have hJ4_ := hL_
    refine ⟨(fun _ => none), kcast (h4 t2 t7 w_ hJ4_) ?_, ?_⟩
    · kernel_rfl
    · exact (obl_seq rfl (obl_seq rfl (obl_reg (obl_cond (obl_skip (obl_exit (obl_blk rfl (obl_reg trivial)))))))))) (obl_seq rfl (obl_loop _ rfl (fun a_ w_ hL_ => (by
    obtain ⟨hz_, hd_, hL_⟩ := atSz_out hL_
    obtain ⟨t2, h2_, hL_⟩ := atI_out hL_
    obtain ⟨t7, h7_, hL_⟩ := atS_out hL_
    obtain ⟨g6, rfl⟩ : ∃ g, a_ = Fr 102 [(2, Value.int .i64 t2), (7, t7.v)] g := ⟨_, fr_of hz_ hd_ [(2, Value.int .i64 t2), (7, t7.v)] (sel_cons h2_ (sel_cons h7_ sel_nil))⟩
    clear hz_ hd_ h2_ h7_
    have hJ6_ := hL_
    refine ⟨(fun _ => none), kcast (h6 t2 t7 w_ hJ6_) ?_, ?_⟩
    · kernel_rfl
    · exact (obl_seq rfl (obl_seq rfl (obl_reg (obl_cond (obl_skip (obl_exit (obl_blk rfl (obl_reg trivial)))))))))) (obl_seq rfl (obl_reg (obl_seq rfl (obl_seq rfl (obl_reg (obl_loop _ rfl (fun a_ w_ hL_ => (by
    obtain ⟨hz_, hd_, hL_⟩ := atSz_out hL_
    obtain ⟨t13, h13_, hL_⟩ := atS_out hL_
    obtain ⟨t85, h85_, hL_⟩ := atS_out hL_
    obtain ⟨t86, h86_, hL_⟩ := atI_out hL_
    obtain ⟨t87, h87_, hL_⟩ := atI_out hL_
    obtain ⟨g8, rfl⟩ : ∃ g, a_ = Fr 102 [(13, t13.v), (85, t85.v), (86, Value.int .i64 t86), (87, Value.int .i64 t87)] g := ⟨_, fr_of hz_ hd_ [(13, t13.v), (85, t85.v), (86, Value.int .i64 t86), (87, Value.int .i64 t87)] (sel_cons h13_ (sel_cons h85_ (sel_cons h86_ (sel_cons h87_ sel_nil))))⟩
    clear hz_ hd_ h13_ h85_ h86_ h87_
    have hJ8_ := hL_
    refine ⟨(fun _ => none), kcast (h8 t13 t85 t86 t87 w_ hJ8_) ?_, ?_⟩
    · kernel_rfl
    · exact (obl_seq rfl (obl_reg (obl_seq rfl (obl_cond (obl_skip (obl_exit (obl_seq rfl (obl_blk rfl (obl_seq rfl (obl_reg (obl_reg (obl_reg trivial)))))))))))))) (obl_seq rfl (obl_reg (obl_ret trivial)))))))))))))))))))))

def numeral_word_cut (J0 : Int → Int → Int → World → Prop) (m0 : Int → Int → Int → World → Nat) : Nat → Option ((Act → World → Prop) × (Act → World → Nat))
  | 0 => some (fun a_ w_ => atSz a_ 19 (atI .i64 a_ 0 fun t0_base => atI .u64 a_ 4 fun t4_p => atI .i64 a_ 5 fun t5_n => J0 t0_base t4_p t5_n w_), fun a_ w_ => mI a_ 0 fun t0_base => mI a_ 4 fun t4_p => mI a_ 5 fun t5_n => m0 t0_base t4_p t5_n w_)
  | _ => none

set_option maxRecDepth 100000 in
/-- surd/numeral.word: function 169. -/
theorem numeral_word_vc (a0_base : Int) (w : World) (R : Ending → World → Prop)
    (J0 : Int → Int → Int → World → Prop) (m0 : Int → Int → Int → World → Nat)
    (h : J0 a0_base 1 0 w)
    (h0 : ∀ (t0_base : Int) (t4_p : Int) (t5_n : Int) (w_ : World), J0 t0_base t4_p t5_n w_ → 
    semI Tryz.prog .u64 (binOp .quo 65 (Value.int .u64 9223372036854775808) (Value.int .u64 (IntKind.u64.wrap t0_base))) w_ fun x1 w1 =>
    br (decide (t4_p ≤ x1))
    (J0 t0_base (IntKind.u64.wrap (t4_p * (IntKind.u64.wrap t0_base))) (IntKind.i64.wrap (t5_n + 1)) w1 ∧
     m0 t0_base (IntKind.u64.wrap (t4_p * (IntKind.u64.wrap t0_base))) (IntKind.i64.wrap (t5_n + 1)) w1 < m0 t0_base t4_p t5_n w_)
    (R (.returned (Value.tuple #[Value.int .u64 t4_p, Value.int .i64 t5_n])) w1)) :
    Calls Tryz.prog 169 #[Value.int .i64 a0_base] w R := by
  refine calls_of_vc (numeral_word_cut J0 m0) (by kernel_rfl) Tryz.func169 rfl ?_ ?_
  · refine kcast h ?_; kernel_rfl
  · exact (obl_seq rfl (obl_reg (obl_seq rfl (obl_reg (obl_seq rfl (obl_loop _ rfl (fun a_ w_ hL_ => (by
    obtain ⟨hz_, hd_, hL_⟩ := atSz_out hL_
    obtain ⟨t0_base, h0_, hL_⟩ := atI_out hL_
    obtain ⟨t4_p, h4_, hL_⟩ := atI_out hL_
    obtain ⟨t5_n, h5_, hL_⟩ := atI_out hL_
    obtain ⟨g0, rfl⟩ : ∃ g, a_ = Fr 19 [(0, Value.int .i64 t0_base), (4, Value.int .u64 t4_p), (5, Value.int .i64 t5_n)] g := ⟨_, fr_of hz_ hd_ [(0, Value.int .i64 t0_base), (4, Value.int .u64 t4_p), (5, Value.int .i64 t5_n)] (sel_cons h0_ (sel_cons h4_ (sel_cons h5_ sel_nil)))⟩
    clear hz_ hd_ h0_ h4_ h5_
    have hJ0_ := hL_
    refine ⟨(fun _ => none), kcast (h0 t0_base t4_p t5_n w_ hJ0_) ?_, ?_⟩
    · kernel_rfl
    · exact (obl_seq rfl (obl_seq rfl (obl_reg (obl_cond (obl_skip (obl_exit (obl_blk rfl (obl_seq rfl (obl_reg (obl_reg trivial)))))))))))) (obl_seq rfl (obl_reg (obl_ret trivial)))))))))

end Go.Proofs.YtbeiopoejdkheaaGreatDoor
namespace Go.Proofs.YtbeiopoejdkheaaGreatDoor
open Go Go.RowKit Eng Sp Dg
set_option linter.unusedVariables false
set_option linter.unusedSimpArgs false
set_option maxRecDepth 100000
namespace By
section
variable {P : Program} {t e : TypeId}
/-- Is it a type of rows of bytes? -/
def isBy (P : Program) (t : TypeId) : Option TypeId := match P.underlying t with
  | some (.slice e) => match P.info? e with
    | some i => match i.size, i.bytes, i.zero, P.underlying e with
      | 1, 1, some (.int .u8 0), some (.int .u8) => some e
      | _, _, _, _ => none
    | none => none
  | _ => none
theorem isBy_out (h : isBy P t = some e) : P.underlying t = some (.slice e) ∧ P.underlying e = some (.int .u8) ∧ ∃ i, P.info? e = some i ∧ i.size = 1 ∧ i.bytes = 1 ∧ i.zero = some (.int .u8 0) := by
  unfold isBy at h
  split at h
  · rename_i e' hu
    split at h
    · rename_i i hi
      split at h
      · rename_i h1 h2 h3 h4
        obtain rfl := Option.some.inj h
        exact ⟨hu, h4, i, hi, h1, h2, h3⟩
      · cases h
    · cases h
  · cases h
theorem run_indexAt (hT : isBy P t = some e) (w : World) (s : Slc) (i : Int) (ad : Addr) (hA : s.A = some ad) (h0 : 0 ≤ i) (h1 : i < s.n) :
    (Instr.indexAt t s.v (.int .i64 i)).run P w = .ok (.pointer (some (ad.add i.toNat))) w := by
  obtain ⟨hu, _, inf, hi, hs, _⟩ := isBy_out hT
  obtain ⟨A, n, c⟩ := s
  simp only at hA h1
  subst hA
  simp only [Instr.indexAt, asIntOf, Slc.v, underlying, program, Sem.run_bind, Sem.run, Result.andThen, hu, Sem.run_pure]
  simp [h0, h1, sizeOf, typeInfo, program, Sem.run, hi, hs, hu]
/-- A byte written. -/
theorem ix_st (hT : isBy P t = some e) {w : World} {s : Slc} {l : List Int} {b : Nat} (h : Owr .u8 e w s l b) {i : Int} (h0 : 0 ≤ i) (h1 : i < l.length) {x : Int} {K : World → Prop}
    (hk : ∀ w', Owr .u8 e w' s (l.set i.toNat x) b → (∀ w0, Ahead w0 w → w0.heap.size ≤ b → Ahead w0 w') → w'.heap.size = w.heap.size → K w') :
    semA P (Instr.indexAt t s.v (.int .i64 i)) w fun ad w1 => stC ad (.int .u8 x) w1 fun w2 => K w2 := by
  unfold semA
  rw [Sem.wp_iff_run, run_indexAt hT w s i _ h.A h0 (by rw [h.n]; exact h1)]
  refine ⟨_, rfl, ?_⟩
  rw [add_off]
  refine ⟨⟨_, h.cell (by omega)⟩, h.frozen _, hk _ (h.set (by omega) x) (fun w0 ha hb => ?_) (by simp [World.setCell])⟩
  exact Ahead.setCell ha hb
theorem run_makeSlice (hT : isBy P t = some e) (w : World) (n c : Nat) (hnc : n ≤ c) (hn : c ≤ 2 ^ 48) :
    (Instr.makeSlice t (.int .i64 n) (.int .i64 c)).run P w = .ok (.slice (some ⟨w.heap.size, 0, none⟩) n c) (w.alloc (.cells (ints .u8 (List.replicate c 0)).toArray e (0, 0))) := by
  obtain ⟨hu, he, inf, hi, hs, hb, hz⟩ := isBy_out hT
  have hw : IntKind.i64.wrap (n : Int) = n := by unfold IntKind.wrap; simp [IntKind.bits, IntKind.signed]; omega
  have hwc : IntKind.i64.wrap (c : Int) = c := by unfold IntKind.wrap; simp [IntKind.bits, IntKind.signed]; omega
  have hzero : (zeroValue e).run P w = .ok (.int .u8 0) w := by simp [zeroValue, typeInfo, program, Sem.run, hi, hz]
  have hcells : (Array.range c).map (fun i => (#[Value.int .u8 0] : Array Value)[i % 1]!) = (ints .u8 (List.replicate c 0)).toArray := by
    apply Array.ext
    · simp [ints]
    · intro i h1 h2; simp [ints, Nat.mod_one]
  have c1 : (decide ((c : Int) < 0) || decide (((1 : Nat) : Int) * (c : Int) > 2 ^ 48)) = false := by
    simp only [Bool.or_eq_false_iff, decide_eq_false_iff_not]; omega
  have c2 : decide ((n : Int) < 0) = false := by simp only [decide_eq_false_iff_not]; omega
  have c3 : decide ((n : Int) > (c : Int)) = false := by simp only [decide_eq_false_iff_not]; omega
  have hti : (typeInfo e).run P w = .ok inf w := by simp [typeInfo, program, Sem.run, hi]
  have hsz : (sizeOf e).run P w = .ok 1 w := by simp [sizeOf, hti, hs]
  have hul : (underlying t).run P w = .ok (.slice e) w := by simp [underlying, program, Sem.run, hu]
  unfold Instr.makeSlice
  simp only [Sem.run_bind, hul, Result.andThen, asInt, asIntOf, Sem.run_pure, hti, hb, hw, hwc, c1, c2, c3, Bool.or_self, if_false, Bool.false_eq_true, Int.toNat_natCast, run_askRoom, hsz, Nat.mul_one]
  by_cases h0 : c = 0
  · subst h0
    simp only [if_true, Sem.run_pure, Sem.run_bind, Result.andThen, run_newRow]
    have hr : ∀ f : Nat → Value, (Array.range 0).map f = #[] := fun f => Array.eq_empty_of_size_eq_zero (by simp)
    simp [ints, hr]
  · simp only [h0, if_false, hzero, Sem.run_bind, Result.andThen, Sem.run_pure, Value.cells, List.size_toArray, List.length_cons, List.length_nil, Nat.zero_add, hcells, run_newRow]
theorem mk (hT : isBy P t = some e) {w : World} {n c : Int} (h0 : 0 ≤ n) (hnc : n ≤ c) (hn : c ≤ 2 ^ 48) {K : Slc → World → Prop}
    (hk : ∀ s w', s.c = c.toNat → Owr .u8 e w' s (List.replicate n.toNat 0) w.heap.size → Ahead w w' → w'.heap.size = w.heap.size + 1 → K s w') :
    semS P (Instr.makeSlice t (.int .i64 n) (.int .i64 c)) w fun s w' => K s w' := by
  obtain ⟨n, rfl⟩ := Int.eq_ofNat_of_zero_le h0
  obtain ⟨c, rfl⟩ := Int.eq_ofNat_of_zero_le (Int.le_trans h0 hnc)
  unfold semS
  rw [Sem.wp_iff_run, run_makeSlice hT w n c (by omega) (by omega)]
  refine ⟨⟨_, _, _⟩, rfl, hk _ _ (by simp) ⟨by simp, ints .u8 (List.replicate (c - n) 0), by simp [ints]; omega, ?_⟩ (Ahead.alloc _ _) (size_alloc _ _)⟩
  rw [get_alloc, Int.toNat_natCast]
  unfold ints
  rw [← List.map_append, List.replicate_append_replicate, show n + (c - n) = c by omega]
/-- A row of bytes, as a text. -/
theorem toText {dst : TypeId} (hT : isBy P t = some e) (hd : P.underlying dst = some .string) {w : World} {s : Slc} {l : List Int} (r : Rd .u8 w s l) (hl : 0 < l.length) {K : ByteArray → World → Prop}
    (hk : K (l.foldl (fun r n => r.push (UInt8.ofNat n.toNat)) ByteArray.empty) w) : semN P (convert t dst s.v) w fun x w' => K x w' := by
  obtain ⟨hu, he, _⟩ := isBy_out hT
  obtain ⟨ad, hA, _⟩ := r.get 0 hl
  have hsv : s.v = .slice (some ad) l.length s.c := by rw [Slc.v, hA, r.n]
  have hload : (loadCells ad l.length).run P w = .ok (l.map (Value.int .u8)).toArray w := by
    have := run_loadCells_list (P := P) (w := w) ad (l.map (Value.int .u8)) (fun j v hj => by
      have hj' : j < l.length := by
        have := (List.getElem?_eq_some_iff.1 hj).1
        simpa using this
      obtain ⟨ad', e', hc⟩ := r.get j hj'
      rw [hA] at e'
      obtain rfl := Option.some.inj e'
      rw [List.getElem?_map, List.getElem?_eq_getElem hj'] at hj
      rw [getD_lt l 0 hj'] at hc
      obtain rfl := Option.some.inj hj
      exact hc)
    simpa using this
  unfold semN
  rw [Sem.wp_iff_run, hsv, run_convert_bytes_string w t dst e (some ad) _ _ hu he hd, run_bytesToString w ad _ _ l hload]
  exact ⟨_, rfl, hk⟩
end
end By

namespace Wr
open _root_.Go.Proofs.YtbeiopoejdkheaaGreatDoor.Nat (Num Num.ahead Num.ext Num.bl num_of OwnNil OwnNil.rd OwnNil.ext digs_len_bl len_num Through_spec one_rd thC bigC_ok semQuo binQuo binRem)
open _root_.Go.Proofs.YtbeiopoejdkheaaGreatDoor.Bd (good_spec ix_byte bs)
open Sb

/-- 42's digits, the lowest first, as many as a word of tens has. -/
def L42 : List Int := [2, 4, 0, 0, 0, 0, 0, 0, 0, 0, 0, 0, 0, 0, 0, 0, 0, 0]
def OI (base : Nat) (w : World) (s : Slc) (l : List Int) : Prop := (s = ⟨none, 0, 0⟩ ∧ l = []) ∨ ∃ b, base ≤ b ∧ s.c ≤ maxLen ∧ Owr .i64 3 w s l b
theorem OI.n {base : Nat} {w : World} {s : Slc} {l : List Int} (h : OI base w s l) : s.n = l.length := by
  rcases h with ⟨rfl, rfl⟩ | ⟨b, _, _, h⟩
  · rfl
  · exact h.n
theorem OI.ahead {base : Nat} {w w' : World} {s : Slc} {l : List Int} (h : OI base w s l) (a : Ahead w w') : OI base w' s l := by
  rcases h with h | ⟨b, h1, h2, h3⟩
  · exact .inl h
  · exact .inr ⟨b, h1, h2, h3.ahead a⟩
theorem OI.own {base : Nat} {w : World} {s : Slc} {l : List Int} (h : OI base w s l) (hl : l ≠ []) : ∃ b, base ≤ b ∧ s.c ≤ maxLen ∧ Owr .i64 3 w s l b := by
  rcases h with ⟨_, h⟩ | h
  · exact absurd h hl
  · exact h

theorem semRem {x y : Nat} {t : TypeId} {w : World} {K : Int → World → Prop} (hx : x < B64) (hy : y ≠ 0) (h : K ((x % y : Nat) : Int) w) : semI pr .u64 (binOp .rem t (.int .u64 (x : Int)) (.int .u64 (y : Int))) w K := by
  unfold semI; rw [binRem hx hy]; exact ⟨_, rfl, h⟩
theorem word_ten {w : World} : Calls pr numeral_word_id #[.int .i64 10] w fun e w' => w' = w ∧ e = .returned (.tuple #[.int .u64 1000000000000000000, .int .i64 18]) := by
  have hB := B64v
  refine numeral_word_vc 10 w _ (fun t0 t4 t5 w' => t0 = 10 ∧ w' = w ∧ ∃ i : Nat, i ≤ 18 ∧ t4 = ((10 ^ i : Nat) : Int) ∧ t5 = (i : Int)) (fun _ _ t5 _ => (18 - t5).toNat) ⟨rfl, rfl, 0, by omega, rfl, rfl⟩ ?_
  rintro t0 t4 t5 w1 ⟨rfl, rfl, i, hi, rfl, rfl⟩
  refine semQuo (x := 9223372036854775808) (y := 10) (by omega) (by omega) ?_
  have hp : ∀ i, i < 18 → (10 : Nat) ^ i ≤ 100000000000000000 := fun i h => Nat.le_trans (Nat.pow_le_pow_right (by omega) (show i ≤ 17 by omega)) (by decide)
  refine br_intro (fun h => ?_) (fun h => ?_)
  · have h1 := of_decide_eq_true h
    have hi' : i < 18 := by
      rcases Nat.lt_or_ge i 18 with h2 | h2
      · exact h2
      · have h3 : i = 18 := by omega
        subst h3
        exact absurd h1 (by decide)
    have h4 := hp i hi'
    refine ⟨⟨rfl, rfl, i + 1, by omega, ?_, by rw [wrap_i64 (by omega) (by omega)]; omega⟩, by rw [wrap_i64 (by omega) (by omega)]; omega⟩
    show IntKind.u64.wrap (((10 ^ i : Nat) : Int) * 10) = _
    rw [wrap_u64, Nat.pow_succ]
    omega
  · have h1 := of_decide_eq_false h
    have hi' : i = 18 := by
      rcases Nat.lt_or_ge i 18 with h2 | h2
      · exact absurd (show (((10 ^ i : Nat) : Int) ≤ ((9223372036854775808 / 10 : Nat) : Int)) by have := hp i h2; omega) h1
      · omega
    subst hi'
    exact ⟨rfl, rfl⟩

def J2d (w : World) (t0 : Slc) (t1 t2 : Int) (t7 : Slc) (t8 t9 : Int) (w_ : World) (t1' t2' : Int) (t7' : Slc) (t8' t9' : Int) (t10' : Slc) (t11' t41' t42' : Int) (w' : World) : Prop :=
  t7.n = 0 ∧ t1' = 10 ∧ t2' = 1 ∧ t8' = 1000000000000000000 ∧ t9' = 18 ∧ t41' = 18 ∧ Ahead w w' ∧ t10'.n = 0 ∧ t10'.n ≤ t10'.c ∧ ∃ i : Nat, i ≤ 18 ∧ t42' = (i : Int) ∧ t11' = ((42 / 10 ^ i : Nat) : Int) ∧ OI w.heap.size w' t7' (L42.take i)
theorem L42_take {i : Nat} (h : i < 18) : L42.take (i + 1) = L42.take i ++ [((42 / 10 ^ i % 10 : Nat) : Int)] := by
  have : ∀ i : Fin 18, L42.take (i.1 + 1) = L42.take i.1 ++ [((42 / 10 ^ i.1 % 10 : Nat) : Int)] := by decide
  exact this ⟨i, h⟩
theorem L42_len {i : Nat} (h : i ≤ 18) : (L42.take i).length = i := by rw [List.length_take]; show min i 18 = i; omega
theorem L42_get {k : Nat} (h : 2 < k) (h2 : k ≤ 18) : (L42.take k).getD (k - 1) 0 = 0 := by
  have : ∀ k : Fin 19, 2 < k.1 → (L42.take k.1).getD (k.1 - 1) 0 = 0 := by decide
  exact this ⟨k, by omega⟩ h

set_option maxHeartbeats 1000000 in
theorem digits_42 {w : World} {a : Slc} (ha : Rd .u64 w a (nn [42])) : Calls pr numeral_digits_id #[a.v, .int .i64 10, .int .i64 1] w fun e w' => Ahead w w' ∧ ∃ s, e = .returned (Slc.v s) ∧ Rd .i64 w' s [4, 2] := by
  have hB := B64v
  refine numeral_digits_vc a 10 1 w _ (fun t0 t1 t2 t7 t8 t9 w' => t1 = 10 ∧ t2 = 1 ∧ t8 = 1000000000000000000 ∧ t9 = 18 ∧ Ahead w w' ∧ ((t7 = ⟨none, 0, 0⟩ ∧ Rd .u64 w' t0 (nn [42])) ∨ (Rd .u64 w' t0 (nn []) ∧ OI w.heap.size w' t7 L42)))
    (fun t0 _ _ t7 _ _ _ => if t7.n = 0 then 1 else 0) (J2d w) (fun _ _ _ _ _ _ _ _ _ _ _ _ _ _ _ i _ => (18 - i).toNat)
    (fun t2 t7 w' => t2 = 1 ∧ Ahead w w' ∧ ∃ k : Nat, 2 ≤ k ∧ k ≤ 18 ∧ OI w.heap.size w' t7 (L42.take k)) (fun _ t7 _ => t7.n)
    (fun t2 t7 w' => t2 = 1 ∧ Ahead w w' ∧ OI w.heap.size w' t7 [2, 4]) (fun _ _ _ => 0)
    (fun t13 t85 t86 t87 w' => t86 = 2 ∧ ∃ i : Nat, i ≤ 2 ∧ t87 = (i : Int) ∧ ∃ w1 b, Ahead w w1 ∧ Ahead w1 w' ∧ w1.heap.size ≤ b ∧ Rd .i64 w1 t85 [2, 4] ∧ Owr .i64 3 w' t13 (if i = 0 then [0, 0] else if i = 1 then [0, 2] else [4, 2]) b) (fun _ _ _ i _ => (2 - i).toNat)
    (Calls.mono word_ten ?_) ?_ ?_ ?_ ?_ ?_
  · rintro e w1 ⟨rfl, rfl⟩
    exact ⟨_, _, rfl, rfl, rfl, rfl, rfl, Ahead.refl _, .inl ⟨rfl, ha⟩⟩
  · rintro t0 t1 t2 t7 t8 t9 w1 ⟨rfl, rfl, rfl, rfl, h1, ⟨rfl, r⟩ | ⟨r, o⟩⟩
    · have n42 : Num w1 t0 42 := ⟨[42], r, by simp, fun y hy => by rw [List.mem_singleton.1 hy]; omega, by simp [val]⟩
      refine Calls.mono (len_num n42) ?_
      rintro e w2 ⟨rfl, rfl⟩
      have hb : 0 < bl 42 := bl_pos (by omega)
      refine ⟨_, rfl, br_true (decide_eq_true (by omega)) ?_⟩
      have ht := Through_spec (d := 1000000000000000000) r (by simp) (fun y hy => by rw [List.mem_singleton.1 hy]; omega) (by omega)
      rw [show val B64 [42] = 42 by simp [val]] at ht
      have hc : thC 42 1000000000000000000 = 0 := by
        unfold thC; rw [if_neg (by omega), show 42 / 1000000000000000000 = 0 from rfl]
        exact bigC_ok (by rw [bl_zero]; omega)
      rw [hc] at ht
      refine Calls.mono ht ?_
      rintro e w3 ⟨h3, s, rfl, os⟩
      refine ⟨_, _, _, rfl, br_false rfl ?_⟩
      rw [if_pos rfl, show 42 / 1000000000000000000 = 0 from rfl, digs_zero] at os
      refine ⟨rfl, rfl, rfl, rfl, rfl, rfl, h1.trans h3, by rw [os.rd.n]; rfl, os.rd.c, 0, by omega, rfl, by rw [if_pos rfl], .inl ⟨rfl, rfl⟩⟩
    · have n0 : Num w1 t0 0 := ⟨[], r, by simp, ok_nil, by simp [val]⟩
      refine Calls.mono (len_num n0) ?_
      rintro e w2 ⟨rfl, rfl⟩
      refine ⟨_, rfl, br_false (decide_eq_false (by rw [bl_zero]; omega)) ⟨rfl, h1, 18, by omega, by omega, o⟩⟩
  · rintro t0 t1 t2 t7 t8 t9 w0 _ t1' t2' t7' t8' t9' t10' t11' t41' t42' w1 ⟨hn7, rfl, rfl, rfl, rfl, rfl, h1, hn, hcn, i, hi, rfl, rfl, oi⟩
    refine br_intro (fun hlt => ?_) (fun hge => ?_)
    · have hi' : i < 18 := by have := of_decide_eq_true hlt; omega
      have hd : 42 / 10 ^ i ≤ 42 := Nat.div_le_self _ _
      have ew : IntKind.u64.wrap (10 : Int) = ((10 : Nat) : Int) := rfl
      rw [ew]
      refine semRem (by omega) (by omega) ?_
      rw [wrap_i64 (x := ((42 / 10 ^ i % 10 : Nat) : Int)) (by omega) (by omega)]
      have hal := Ahead.alloc w1 (.cells (ints .i64 [((42 / 10 ^ i % 10 : Nat) : Int)]).toArray 3 (0, 0))
      refine app (k := .i64) (e := 3) (by kernel_rfl) (base := w.heap.size) (l := L42.take i) (ys := [((42 / 10 ^ i % 10 : Nat) : Int)]) (Nat.lit_rd .i64 3 w1 _) (by simp) (oi.ahead hal) (h1.trans hal).size (by rw [L42_len hi]; simp; omega) ?_
      intro s5 w5 b5 hb5 hc5 o5 _ hah
      have h5 : Ahead w w5 := hah w (h1.trans hal) fun b hb => by
        rcases oi with ⟨rfl, _⟩ | ⟨b', g1, _, g3⟩
        · cases hb
        · rw [g3.A] at hb; cases hb; exact g1
      refine semQuo (by omega) (by omega) ?_
      rw [Nat.div_div_eq_div_mul, ← Nat.pow_succ, wrap_i64 (x := (i : Int) + 1) (by omega) (by omega)]
      rw [← L42_take hi'] at o5
      exact ⟨⟨hn7, rfl, rfl, rfl, rfl, rfl, h5, hn, hcn, i + 1, by omega, by omega, rfl, .inr ⟨b5, hb5, hc5, o5⟩⟩, by omega⟩
    · have hi' : i = 18 := by have := of_decide_eq_false hge; omega
      subst hi'
      refine ⟨⟨rfl, rfl, rfl, rfl, h1, .inr ⟨⟨hn, hcn, fun k hk => absurd hk (by simp)⟩, oi⟩⟩, ?_⟩
      rw [if_pos hn7, if_neg (by rw [oi.n]; exact fun h => by cases h)]
      omega
  · rintro t2 t7 w1 ⟨rfl, h1, k, hk2, hk, o⟩
    have hn := o.n
    rw [L42_len hk] at hn
    obtain ⟨b, hb, hc, ow⟩ := o.own (fun h => by have := L42_len hk; rw [h] at this; simp at this; omega)
    refine br_true (decide_eq_true (by omega)) ?_
    rw [wrap_i64 (by omega) (by omega)]
    refine ix_ld (k := .i64) (e := 3) (by kernel_rfl) ow.rd (by omega) (by rw [L42_len hk]; omega) ?_
    rw [show ((t7.n : Int) - 1).toNat = k - 1 by omega]
    rcases Nat.lt_or_ge 2 k with h2 | h2
    · rw [L42_get h2 hk]
      refine br_true rfl ?_
      refine Fuel.cutHiG (k := .i64) (e := 3) (by kernel_rfl) (by omega) (by have := ow.rd.c; omega) ?_
      have ot := ow.take (m := k - 1) (by rw [L42_len hk]; omega)
      rw [List.take_take, show min (k - 1) k = k - 1 by omega] at ot
      rw [show ((t7.n : Int) - 1).toNat = k - 1 by omega]
      exact ⟨⟨rfl, h1, k - 1, by omega, by omega, .inr ⟨b, hb, hc, ot⟩⟩, by show k - 1 < t7.n; omega⟩
    · have : k = 2 := by omega
      subst this
      refine br_false rfl ⟨rfl, h1, o⟩
  · rintro t2 t7 w1 ⟨rfl, h1, o⟩
    have hn : t7.n = 2 := o.n
    refine br_false (decide_eq_false (by omega)) ?_
    obtain ⟨b, hb, hc, ow⟩ := o.own (by simp)
    rw [hn]
    refine mk (k := .i64) (e := 3) (by kernel_rfl) (by omega) (Int.le_refl _) (by omega) fun t w2 _ o2 h2 _ => ?_
    exact ⟨rfl, 0, by omega, rfl, w1, _, h1, h2, Nat.le_refl _, ow.rd, o2⟩
  · rintro t13 t85 t86 t87 w1 ⟨rfl, i, hi, rfl, w2, b, h1, h2, hb, r, o⟩
    refine br_intro (fun hlt => ?_) (fun hge => ?_)
    · have hi' : i < 2 := by have := of_decide_eq_true hlt; omega
      refine ix_ld (k := .i64) (e := 3) (by kernel_rfl) (r.ahead h2) (by omega) (by simp; omega) ?_
      have hn : t13.n = 2 := by rw [o.n]; split <;> (try split) <;> rfl
      rw [hn]
      have hlen : (if i = 0 then [0, 0] else if i = 1 then [0, 2] else [4, 2] : List Int).length = 2 := by split <;> (try split) <;> rfl
      have ew : IntKind.i64.wrap (IntKind.i64.wrap (((2 : Nat) : Int) - 1) - (i : Int)) = ((1 - i : Nat) : Int) := by
        rw [wrap_i64 (x := ((2 : Nat) : Int) - 1) (by omega) (by omega), wrap_i64 (by omega) (by omega)]; omega
      rw [ew]
      refine ix_st (k := .i64) (e := 3) (by kernel_rfl) o (by omega) (by rw [hlen]; omega) fun w5 o5 a5 _ => ?_
      rw [wrap_i64 (x := (i : Int) + 1) (by omega) (by omega)]
      refine ⟨⟨rfl, i + 1, by omega, by omega, w2, b, h1, a5 w2 h2 hb, hb, r, ?_⟩, by omega⟩
      rw [Int.toNat_natCast, Int.toNat_natCast] at o5
      have : i = 0 ∨ i = 1 := by omega
      rcases this with rfl | rfl
      · exact o5
      · exact o5
    · have hi' : i = 2 := by have := of_decide_eq_false hge; omega
      subst hi'
      exact ⟨h1.trans h2, _, rfl, o.rd⟩

theorem text_42 {w : World} {s : Slc} (r : Rd .i64 w s [4, 2]) : Calls pr numeral_text_id #[s.v] w fun e w' => Ahead w w' ∧ ∃ t, e = .returned (Slc.v t) ∧ Rd .u8 w' t [52, 50] := by
  have hn : s.n = 2 := r.n
  refine numeral_text_vc s w _ (fun t3 t9 t10 t11 w' => t9 = s ∧ t10 = 2 ∧ ∃ i : Nat, i ≤ 2 ∧ t11 = (i : Int) ∧ Ahead w w' ∧ ∃ b, w.heap.size ≤ b ∧ Owr .u8 5 w' t3 (if i = 0 then [0, 0] else if i = 1 then [52, 0] else [52, 50]) b) (fun _ _ _ i _ => (2 - i).toNat) ?_ ?_
  · rw [hn]
    refine By.mk (e := 5) (by kernel_rfl) (by omega) (Int.le_refl _) (by omega) fun t w2 _ o2 h2 _ => ?_
    exact ⟨rfl, rfl, 0, by omega, rfl, h2, _, Nat.le_refl _, o2⟩
  · rintro t3 t9 t10 t11 w1 ⟨rfl, rfl, i, hi, rfl, h1, b, hb, o⟩
    refine br_intro (fun hlt => ?_) (fun hge => ?_)
    · have hi' : i < 2 := by have := of_decide_eq_true hlt; omega
      refine ix_ld (k := .i64) (e := 3) (by kernel_rfl) (r.ahead h1) (by omega) (by simp; omega) ?_
      rw [Int.toNat_natCast]
      have hd : ([4, 2] : List Int).getD i 0 = ((if i = 0 then 4 else 2 : Nat) : Int) := by
        have : i = 0 ∨ i = 1 := by omega
        rcases this with rfl | rfl <;> rfl
      rw [hd]
      refine ix_byte (by kernel_rfl) (by show (if i = 0 then 4 else 2) < 36; split <;> omega) ?_
      have hlen : (if i = 0 then [0, 0] else if i = 1 then [52, 0] else [52, 50] : List Int).length = 2 := by split <;> (try split) <;> rfl
      refine By.ix_st (e := 5) (by kernel_rfl) o (by omega) (by rw [hlen]; omega) fun w5 o5 a5 _ => ?_
      rw [wrap_i64 (x := (i : Int) + 1) (by omega) (by omega)]
      refine ⟨⟨rfl, rfl, i + 1, by omega, by omega, a5 w h1 hb, b, hb, ?_⟩, by omega⟩
      rw [Int.toNat_natCast] at o5
      have : i = 0 ∨ i = 1 := by omega
      rcases this with rfl | rfl
      · exact o5
      · exact o5
    · have hi' : i = 2 := by have := of_decide_eq_false hge; omega
      subst hi'
      exact ⟨h1, _, rfl, o.rd⟩

theorem Print_42 {w : World} {a : Slc} (ha : Rd .u64 w a (nn [42])) : Calls pr numeral_Print_id #[a.v, .int .i64 10] w fun e w' => ∃ (n1 : ByteArray) (x3 : Int), e = .returned (.tuple #[.string n1, .int .i64 x3]) ∧ Ahead w w' ∧ x3 = 0 ∧ n1.toList = (⟨#[52, 50]⟩ : ByteArray).toList := by
  refine numeral_Print_vc a 10 w _ (Calls.mono (good_spec (B := 10) (by omega) (by omega)) ?_)
  rintro e w1 ⟨rfl, rfl⟩
  refine ⟨_, rfl, br_false rfl ?_⟩
  have hall : Calls pr numeral_all_id #[a.v, .int .i64 10] w1 fun e w' => Ahead w1 w' ∧ ∃ s, e = .returned (Slc.v s) ∧ Rd .i64 w' s [4, 2] := by
    refine numeral_all_vc a 10 w1 _ (fun _ _ _ _ => False) (fun _ _ _ _ => 0) (fun _ _ _ => False) (fun _ _ _ => 0) ?_ (fun _ _ _ _ h => h.elim) (fun _ _ _ h => h.elim)
    refine newC_b fun b w2 hb h2 hs2 B2 => ?_
    have r2 := ha.ahead h2
    have n42 : Num w2 a 42 := ⟨[42], r2, by simp, fun y hy => by rw [List.mem_singleton.1 hy]; have := B64v; omega, by simp [val]⟩
    refine Calls.mono (len_num n42) ?_
    rintro e w3 ⟨rfl, rfl⟩
    have hb2 : bl 42 ≤ 6 := bl_le (by omega)
    refine ⟨_, rfl, br_true (decide_eq_true (by omega)) (ldI_b 0 B2 rfl (Calls.mono (digits_42 r2) ?_))⟩
    rintro e w4 ⟨h4, s, rfl, r4⟩
    exact ⟨_, rfl, h2.trans h4, _, rfl, r4⟩
  refine Calls.mono hall ?_
  rintro e w2 ⟨h2, s, rfl, r2⟩
  refine ⟨_, rfl, Calls.mono (text_42 r2) ?_⟩
  rintro e w3 ⟨h3, t, rfl, r3⟩
  refine ⟨_, rfl, By.toText (e := 5) (by kernel_rfl) (by kernel_rfl) r3 (by simp) ?_⟩
  refine ⟨_, _, rfl, h2.trans h3, rfl, ?_⟩
  decide +kernel
end Wr
end Go.Proofs.YtbeiopoejdkheaaGreatDoor
namespace Go.Proofs.YtbeiopoejdkheaaGreatDoor
open Go Go.RowKit Eng
set_option linter.unusedVariables false

set_option maxRecDepth 100000 in
/-- surd/span.Of: function 35. -/
theorem span_Of_vc (a0_r_0 : Bool) (a0_r_1 : Slc) (a0_r_2 : Slc) (a1_pos : Int) (w : World) (R : Ending → World → Prop)
    
    (h : newC w #[Value.bool a0_r_0, a0_r_1.v, a0_r_2.v] 67 fun ad1 w1 =>
    newC w1 #[Value.bool false, (⟨none, 0, 0⟩ : Slc).v, Value.int .i64 0, Value.bool false, (⟨none, 0, 0⟩ : Slc).v, Value.int .i64 0] 50 fun ad2 w2 =>
    ldB ad1 w2 fun b1 =>
    ldS (ad1.add 1) w2 fun s1 =>
    ldS (ad1.add 2) w2 fun s2 =>
    Calls Tryz.prog 77 #[Value.agg #[Value.bool b1, s1.v, s2.v], Value.int .i64 a1_pos, Value.int .i64 0] w2 fun e1 w3 =>
    ∃ b2 : Bool, ∃ s3 : Slc, ∃ x1 : Int, ∃ x2 : Int, e1 = .returned (Value.tuple #[Value.agg #[Value.bool b2, s3.v, Value.int .i64 x1], Value.int .i64 x2]) ∧
    (newC w3 #[Value.bool false, (⟨none, 0, 0⟩ : Slc).v, Value.int .i64 0] 27 fun ad3 w4 =>
     stC ad3 (Value.bool b2) w4 fun w5 =>
     stC (ad3.add 1) s3.v w5 fun w6 =>
     stC (ad3.add 2) (Value.int .i64 x1) w6 fun w7 =>
     br (x2 == 70)
     (stC ad2 (Value.bool false) w7 fun w8 =>
      stC (ad2.add 1) ((⟨none, 0, 0⟩ : Slc).v) w8 fun w9 =>
      stC (ad2.add 2) (Value.int .i64 0) w9 fun w10 =>
      stC (ad2.add 3) (Value.bool false) w10 fun w11 =>
      stC (ad2.add 4) ((⟨none, 0, 0⟩ : Slc).v) w11 fun w12 =>
      stC (ad2.add 5) (Value.int .i64 0) w12 fun w13 =>
      ldB ad2 w13 fun b3 =>
      ldS (ad2.add 1) w13 fun s4 =>
      ldI .i64 (ad2.add 2) w13 fun x3 =>
      ldB (ad2.add 3) w13 fun b4 =>
      ldS (ad2.add 4) w13 fun s5 =>
      ldI .i64 (ad2.add 5) w13 fun x4 =>
      R (.returned (Value.tuple #[Value.agg #[Value.bool b3, s4.v, Value.int .i64 x3, Value.bool b4, s5.v, Value.int .i64 x4], Value.int .i64 x2])) w13)
     (br (x2 == 1)
      (stC ad2 (Value.bool false) w7 fun w14 =>
       stC (ad2.add 1) ((⟨none, 0, 0⟩ : Slc).v) w14 fun w15 =>
       stC (ad2.add 2) (Value.int .i64 0) w15 fun w16 =>
       stC (ad2.add 3) (Value.bool false) w16 fun w17 =>
       stC (ad2.add 4) ((⟨none, 0, 0⟩ : Slc).v) w17 fun w18 =>
       stC (ad2.add 5) (Value.int .i64 0) w18 fun w19 =>
       ldB ad2 w19 fun b5 =>
       ldS (ad2.add 1) w19 fun s6 =>
       ldI .i64 (ad2.add 2) w19 fun x5 =>
       ldB (ad2.add 3) w19 fun b6 =>
       ldS (ad2.add 4) w19 fun s7 =>
       ldI .i64 (ad2.add 5) w19 fun x6 =>
       R (.returned (Value.tuple #[Value.agg #[Value.bool b5, s6.v, Value.int .i64 x5, Value.bool b6, s7.v, Value.int .i64 x6], Value.int .i64 x2])) w19)
      (ldB ad1 w7 fun b7 =>
       ldS (ad1.add 1) w7 fun s8 =>
       ldS (ad1.add 2) w7 fun s9 =>
       Calls Tryz.prog 77 #[Value.agg #[Value.bool b7, s8.v, s9.v], Value.int .i64 a1_pos, Value.int .i64 1] w7 fun e2 w20 =>
       ∃ b8 : Bool, ∃ s10 : Slc, ∃ x7 : Int, ∃ x8 : Int, e2 = .returned (Value.tuple #[Value.agg #[Value.bool b8, s10.v, Value.int .i64 x7], Value.int .i64 x8]) ∧
       (newC w20 #[Value.bool false, (⟨none, 0, 0⟩ : Slc).v, Value.int .i64 0] 27 fun ad4 w21 =>
        stC ad4 (Value.bool b8) w21 fun w22 =>
        stC (ad4.add 1) s10.v w22 fun w23 =>
        stC (ad4.add 2) (Value.int .i64 x7) w23 fun w24 =>
        ldB ad3 w24 fun b9 =>
        ldS (ad3.add 1) w24 fun s11 =>
        ldI .i64 (ad3.add 2) w24 fun x9 =>
        ldB ad4 w24 fun b10 =>
        ldS (ad4.add 1) w24 fun s12 =>
        ldI .i64 (ad4.add 2) w24 fun x10 =>
        Calls Tryz.prog 78 #[Value.agg #[Value.bool b9, s11.v, Value.int .i64 x9], Value.int .i64 x2, Value.agg #[Value.bool b10, s12.v, Value.int .i64 x10], Value.int .i64 x8] w24 fun e3 w25 =>
        ∃ b11 : Bool, ∃ s13 : Slc, ∃ x11 : Int, ∃ b12 : Bool, ∃ s14 : Slc, ∃ x12 : Int, ∃ x13 : Int, e3 = .returned (Value.tuple #[Value.agg #[Value.bool b11, s13.v, Value.int .i64 x11, Value.bool b12, s14.v, Value.int .i64 x12], Value.int .i64 x13]) ∧
        (stC ad2 (Value.bool b11) w25 fun w26 =>
         stC (ad2.add 1) s13.v w26 fun w27 =>
         stC (ad2.add 2) (Value.int .i64 x11) w27 fun w28 =>
         stC (ad2.add 3) (Value.bool b12) w28 fun w29 =>
         stC (ad2.add 4) s14.v w29 fun w30 =>
         stC (ad2.add 5) (Value.int .i64 x12) w30 fun w31 =>
         ldB ad2 w31 fun b13 =>
         ldS (ad2.add 1) w31 fun s15 =>
         ldI .i64 (ad2.add 2) w31 fun x14 =>
         ldB (ad2.add 3) w31 fun b14 =>
         ldS (ad2.add 4) w31 fun s16 =>
         ldI .i64 (ad2.add 5) w31 fun x15 =>
         R (.returned (Value.tuple #[Value.agg #[Value.bool b13, s15.v, Value.int .i64 x14, Value.bool b14, s16.v, Value.int .i64 x15], Value.int .i64 x13])) w31)))))) :
    Calls Tryz.prog 35 #[Value.agg #[Value.bool a0_r_0, a0_r_1.v, a0_r_2.v], Value.int .i64 a1_pos] w R := by
  refine calls_of_vc (fun _ => none) (by kernel_rfl) Tryz.func35 rfl ?_ ?_
  · refine kcast h ?_; kernel_rfl
  · exact (obl_seq rfl (obl_reg (obl_seq rfl (obl_reg (obl_seq rfl (obl_seq rfl (obl_reg (obl_cond (obl_seq rfl (obl_reg (obl_ret (obl_skip (obl_seq rfl (obl_reg (obl_seq rfl (obl_reg (obl_ret trivial)))))))))))))))))

set_option maxRecDepth 100000 in
/-- surd/span.ends: function 78. -/
theorem span_ends_vc (a0_lo_0 : Bool) (a0_lo_1 : Slc) (a0_lo_2 : Int) (a1_e : Int) (a2_hi_0 : Bool) (a2_hi_1 : Slc) (a2_hi_2 : Int) (a3_f : Int) (w : World) (R : Ending → World → Prop)
    
    (h : newC w #[Value.bool a0_lo_0, a0_lo_1.v, Value.int .i64 a0_lo_2] 27 fun ad1 w1 =>
    newC w1 #[Value.bool a2_hi_0, a2_hi_1.v, Value.int .i64 a2_hi_2] 27 fun ad2 w2 =>
    newC w2 #[Value.bool false, (⟨none, 0, 0⟩ : Slc).v, Value.int .i64 0, Value.bool false, (⟨none, 0, 0⟩ : Slc).v, Value.int .i64 0] 50 fun ad3 w3 =>
    Calls Tryz.prog 64 #[Value.int .i64 a1_e, Value.int .i64 a3_f] w3 fun e1 w4 =>
    ∃ x1 : Int, e1 = .returned (Value.int .i64 x1) ∧
    (br (x1 != 0)
     (stC ad3 (Value.bool false) w4 fun w5 =>
      stC (ad3.add 1) ((⟨none, 0, 0⟩ : Slc).v) w5 fun w6 =>
      stC (ad3.add 2) (Value.int .i64 0) w6 fun w7 =>
      stC (ad3.add 3) (Value.bool false) w7 fun w8 =>
      stC (ad3.add 4) ((⟨none, 0, 0⟩ : Slc).v) w8 fun w9 =>
      stC (ad3.add 5) (Value.int .i64 0) w9 fun w10 =>
      ldB ad3 w10 fun b1 =>
      ldS (ad3.add 1) w10 fun s1 =>
      ldI .i64 (ad3.add 2) w10 fun x2 =>
      ldB (ad3.add 3) w10 fun b2 =>
      ldS (ad3.add 4) w10 fun s2 =>
      ldI .i64 (ad3.add 5) w10 fun x3 =>
      R (.returned (Value.tuple #[Value.agg #[Value.bool b1, s1.v, Value.int .i64 x2, Value.bool b2, s2.v, Value.int .i64 x3], Value.int .i64 x1])) w10)
     (ldB ad1 w4 fun b3 =>
      ldS (ad1.add 1) w4 fun s3 =>
      ldI .i64 (ad1.add 2) w4 fun x4 =>
      ldB ad2 w4 fun b4 =>
      ldS (ad2.add 1) w4 fun s4 =>
      ldI .i64 (ad2.add 2) w4 fun x5 =>
      stC ad3 (Value.bool b3) w4 fun w11 =>
      stC (ad3.add 1) s3.v w11 fun w12 =>
      stC (ad3.add 2) (Value.int .i64 x4) w12 fun w13 =>
      stC (ad3.add 3) (Value.bool b4) w13 fun w14 =>
      stC (ad3.add 4) s4.v w14 fun w15 =>
      stC (ad3.add 5) (Value.int .i64 x5) w15 fun w16 =>
      ldB ad3 w16 fun b5 =>
      ldS (ad3.add 1) w16 fun s5 =>
      ldI .i64 (ad3.add 2) w16 fun x6 =>
      ldB (ad3.add 3) w16 fun b6 =>
      ldS (ad3.add 4) w16 fun s6 =>
      ldI .i64 (ad3.add 5) w16 fun x7 =>
      R (.returned (Value.tuple #[Value.agg #[Value.bool b5, s5.v, Value.int .i64 x6, Value.bool b6, s6.v, Value.int .i64 x7], Value.int .i64 0])) w16))) :
    Calls Tryz.prog 78 #[Value.agg #[Value.bool a0_lo_0, a0_lo_1.v, Value.int .i64 a0_lo_2], Value.int .i64 a1_e, Value.agg #[Value.bool a2_hi_0, a2_hi_1.v, Value.int .i64 a2_hi_2], Value.int .i64 a3_f] w R := by
  refine calls_of_vc (fun _ => none) (by kernel_rfl) Tryz.func78 rfl ?_ ?_
  · refine kcast h ?_; kernel_rfl
  · exact (obl_seq rfl (obl_reg (obl_seq rfl (obl_seq rfl (obl_reg (obl_seq rfl (obl_reg (obl_cond (obl_seq rfl (obl_reg (obl_ret (obl_skip (obl_seq rfl (obl_reg (obl_ret trivial)))))))))))))))

set_option maxRecDepth 100000 in
/-- surd/span.worst: function 64. -/
theorem span_worst_vc (a0_e : Int) (a1_f : Int) (w : World) (R : Ending → World → Prop)
    
    (h : br (a0_e == 3)
    (R (.returned (Value.int .i64 3)) w)
    (br (a1_f == 3)
     (R (.returned (Value.int .i64 3)) w)
     (br (a0_e != 0)
      (R (.returned (Value.int .i64 a0_e)) w)
      (R (.returned (Value.int .i64 a1_f)) w)))) :
    Calls Tryz.prog 64 #[Value.int .i64 a0_e, Value.int .i64 a1_f] w R := by
  refine calls_of_vc (fun _ => none) (by kernel_rfl) Tryz.func64 rfl ?_ ?_
  · refine kcast h ?_; kernel_rfl
  · exact (obl_seq rfl (obl_reg (obl_seq rfl (obl_seq rfl (obl_reg (obl_cond (obl_seq rfl (obl_reg (obl_ret (obl_skip (obl_seq rfl (obl_seq rfl (obl_reg (obl_cond (obl_seq rfl (obl_reg (obl_ret (obl_skip (obl_seq rfl (obl_reg (obl_ret trivial)))))))))))))))))))))

set_option maxRecDepth 100000 in
/-- surd/ratio.Int: function 38. -/
theorem ratio_Int_vc (a0_v : Int) (w : World) (R : Ending → World → Prop)
    
    (h : newC w #[Value.bool false, (⟨none, 0, 0⟩ : Slc).v, (⟨none, 0, 0⟩ : Slc).v] 67 fun ad1 w1 =>
    Calls Tryz.prog 83 #[Value.int .i64 a0_v] w1 fun e1 w2 =>
    ∃ b1 : Bool, ∃ s1 : Slc, e1 = .returned (Value.agg #[Value.bool b1, s1.v]) ∧
    (Calls Tryz.prog 84 #[Value.int .u64 1] w2 fun e2 w3 =>
     ∃ s2 : Slc, e2 = .returned s2.v ∧
     (stC ad1 (Value.bool b1) w3 fun w4 =>
      stC (ad1.add 1) s1.v w4 fun w5 =>
      stC (ad1.add 2) s2.v w5 fun w6 =>
      ldB ad1 w6 fun b2 =>
      ldS (ad1.add 1) w6 fun s3 =>
      ldS (ad1.add 2) w6 fun s4 =>
      R (.returned (Value.agg #[Value.bool b2, s3.v, s4.v])) w6))) :
    Calls Tryz.prog 38 #[Value.int .i64 a0_v] w R := by
  refine calls_of_vc (fun _ => none) (by kernel_rfl) Tryz.func38 rfl ?_ ?_
  · refine kcast h ?_; kernel_rfl
  · exact (obl_seq rfl (obl_reg (obl_seq rfl (obl_reg (obl_ret trivial)))))

end Go.Proofs.YtbeiopoejdkheaaGreatDoor
namespace Go.Proofs.YtbeiopoejdkheaaGreatDoor
open Go Go.RowKit Eng L2
set_option linter.unusedVariables false
set_option maxHeartbeats 2000000
set_option maxRecDepth 100000

/-- surd/span.Of: function 35, its local variables as values. -/
theorem span_Of_v2 (a0_r_0 : Bool) (a0_r_1 : Slc) (a0_r_2 : Slc) (a1_pos : Int) (w : World) (R : Ending → World → Prop)
    
    (h : ∀ w1, Ext w w1 → Ahead w w1 →
    (Calls Tryz.prog 77 #[Value.agg #[Value.bool a0_r_0, a0_r_1.v, a0_r_2.v], Value.int .i64 a1_pos, Value.int .i64 0] w1 fun e1 w2 =>
     ∃ b1 : Bool, ∃ s1 : Slc, ∃ x1 : Int, ∃ x2 : Int, e1 = .returned (Value.tuple #[Value.agg #[Value.bool b1, s1.v, Value.int .i64 x1], Value.int .i64 x2]) ∧ Ahead w1 w2 ∧
     (br (x2 == 70)
      (∀ w3, Ext w2 w3 → Ahead w w3 →
       (R (.returned (Value.tuple #[Value.agg #[Value.bool (false), ((⟨none, 0, 0⟩ : Slc)).v, Value.int .i64 (0 : Int), Value.bool (false), ((⟨none, 0, 0⟩ : Slc)).v, Value.int .i64 (0 : Int)], Value.int .i64 x2])) w3))
      (br (x2 == 1)
       (∀ w4, Ext w2 w4 → Ahead w w4 →
        (R (.returned (Value.tuple #[Value.agg #[Value.bool (false), ((⟨none, 0, 0⟩ : Slc)).v, Value.int .i64 (0 : Int), Value.bool (false), ((⟨none, 0, 0⟩ : Slc)).v, Value.int .i64 (0 : Int)], Value.int .i64 x2])) w4))
       (∀ w5, Ext w2 w5 → Ahead w w5 →
        (Calls Tryz.prog 77 #[Value.agg #[Value.bool a0_r_0, a0_r_1.v, a0_r_2.v], Value.int .i64 a1_pos, Value.int .i64 1] w5 fun e2 w6 =>
         ∃ b2 : Bool, ∃ s2 : Slc, ∃ x3 : Int, ∃ x4 : Int, e2 = .returned (Value.tuple #[Value.agg #[Value.bool b2, s2.v, Value.int .i64 x3], Value.int .i64 x4]) ∧ Ahead w5 w6 ∧
         (∀ w7, Ext w6 w7 → Ahead w w7 →
          (Calls Tryz.prog 78 #[Value.agg #[Value.bool b1, s1.v, Value.int .i64 x1], Value.int .i64 x2, Value.agg #[Value.bool b2, s2.v, Value.int .i64 x3], Value.int .i64 x4] w7 fun e3 w8 =>
           ∃ b3 : Bool, ∃ s3 : Slc, ∃ x5 : Int, ∃ b4 : Bool, ∃ s4 : Slc, ∃ x6 : Int, ∃ x7 : Int, e3 = .returned (Value.tuple #[Value.agg #[Value.bool b3, s3.v, Value.int .i64 x5, Value.bool b4, s4.v, Value.int .i64 x6], Value.int .i64 x7]) ∧ Ahead w7 w8 ∧
           (∀ w9, Ext w8 w9 → Ahead w w9 →
            (R (.returned (Value.tuple #[Value.agg #[Value.bool b3, s3.v, Value.int .i64 x5, Value.bool b4, s4.v, Value.int .i64 x6], Value.int .i64 x7])) w9))))))))))
     :
    Calls Tryz.prog 35 #[Value.agg #[Value.bool a0_r_0, a0_r_1.v, a0_r_2.v], Value.int .i64 a1_pos] w (fun e_ w_ => Ahead w w_ ∧ R e_ w_) := by
  refine span_Of_vc a0_r_0 a0_r_1 a0_r_2 a1_pos w _  ?_
  · have A : Ahead w w := Ahead.refl w
    have X : Ext w w := Ext.refl w
    refine newC_t fun bk1 u1 hb1 ha_u1 _ B1 => ?_
    have g1 := le_eq A.size hb1
    obtain ⟨A, X⟩ := axa2 ha_u1 A X
    refine newC_t fun bk2 u2 hb2 ha_u2 _ B2 => ?_
    have g2 := le_eq A.size hb2
    have l1_2 := lt1 hb2 B1
    replace B1 := B1.ahead ha_u2
    obtain ⟨A, X⟩ := axa2 ha_u2 A X
    refine ldB_t 0 B1 rfl ?_
    refine ldS_t 1 B1 rfl ?_
    refine ldS_t 2 B1 rfl ?_
    replace h := h _ X A
    refine Calls.mono h ?_
    clear h
    rintro e1 w2 ⟨b1, s1, x1, x2, he_, ha_w2, h⟩
    refine ⟨b1, s1, x1, x2, he_, ?_⟩
    clear he_
    obtain ⟨B1, B2⟩ := ah2 ha_w2 B1 B2
    obtain ⟨A, X⟩ := axa2 ha_w2 A X
    replace X : Ext w2 w2 := Ext.refl _
    refine newC_t fun bk3 u3 hb3 ha_u3 _ B3 => ?_
    have g3 := le_eq A.size hb3
    obtain ⟨_, _⟩ := lt2 hb3 B1 B2
    obtain ⟨B1, B2⟩ := ah2 ha_u3 B1 B2
    obtain ⟨A, X⟩ := axa2 ha_u3 A X
    refine st3_t B3 rfl rfl rfl rfl fun u4 k_u4 B3 => ?_
    obtain ⟨B1, B2⟩ := up2 k_u4 B1 B2
    obtain ⟨A, X⟩ := axu2 k_u4 g3 A X
    refine br_map h (fun h_ => ?_) (fun h_ => ?_)
    ·clear h
     have h := h_
     clear h_
     refine stC_t 0 B2 rfl rfl rfl fun u5 k_u5 B2_ => ?_
     replace B2 : Blt u5 bk2 50 #[Value.bool false, (⟨none, 0, 0⟩ : Slc).v, Value.int .i64 0, Value.bool false, (⟨none, 0, 0⟩ : Slc).v, Value.int .i64 0] := B2_
     clear B2_
     refine stC_t 1 B2 rfl rfl rfl fun u6 k_u6 B2_ => ?_
     replace B2 : Blt u6 bk2 50 #[Value.bool false, (⟨none, 0, 0⟩ : Slc).v, Value.int .i64 0, Value.bool false, (⟨none, 0, 0⟩ : Slc).v, Value.int .i64 0] := B2_
     clear B2_
     refine stC_t 2 B2 rfl rfl rfl fun u7 k_u7 B2_ => ?_
     replace B2 : Blt u7 bk2 50 #[Value.bool false, (⟨none, 0, 0⟩ : Slc).v, Value.int .i64 0, Value.bool false, (⟨none, 0, 0⟩ : Slc).v, Value.int .i64 0] := B2_
     clear B2_
     refine stC_t 3 B2 rfl rfl rfl fun u8 k_u8 B2_ => ?_
     replace B2 : Blt u8 bk2 50 #[Value.bool false, (⟨none, 0, 0⟩ : Slc).v, Value.int .i64 0, Value.bool false, (⟨none, 0, 0⟩ : Slc).v, Value.int .i64 0] := B2_
     clear B2_
     refine stC_t 4 B2 rfl rfl rfl fun u9 k_u9 B2_ => ?_
     replace B2 : Blt u9 bk2 50 #[Value.bool false, (⟨none, 0, 0⟩ : Slc).v, Value.int .i64 0, Value.bool false, (⟨none, 0, 0⟩ : Slc).v, Value.int .i64 0] := B2_
     clear B2_
     refine stC_t 5 B2 rfl rfl rfl fun u10 k_u10 B2_ => ?_
     replace B2 : Blt u10 bk2 50 #[Value.bool false, (⟨none, 0, 0⟩ : Slc).v, Value.int .i64 0, Value.bool false, (⟨none, 0, 0⟩ : Slc).v, Value.int .i64 0] := B2_
     clear B2_
     have kk_u5 := (((((k_u5.trans k_u6).trans k_u7).trans k_u8).trans k_u9).trans k_u10)
     obtain ⟨B1, B3⟩ := up2 kk_u5 B1 B3
     obtain ⟨A, X⟩ := axu2 kk_u5 g2 A X
     clear k_u10 k_u9 k_u8 k_u7 k_u6 k_u5
     refine ldB_t 0 B2 rfl ?_
     refine ldS_t 1 B2 rfl ?_
     refine ldI_t 2 B2 rfl ?_
     refine ldB_t 3 B2 rfl ?_
     refine ldS_t 4 B2 rfl ?_
     refine ldI_t 5 B2 rfl ?_
     replace h := h _ X A
     exact ⟨A, h⟩
    ·clear h
     have h := h_
     clear h_
     refine br_map h (fun h_ => ?_) (fun h_ => ?_)
     ·clear h
      have h := h_
      clear h_
      refine stC_t 0 B2 rfl rfl rfl fun u11 k_u11 B2_ => ?_
      replace B2 : Blt u11 bk2 50 #[Value.bool false, (⟨none, 0, 0⟩ : Slc).v, Value.int .i64 0, Value.bool false, (⟨none, 0, 0⟩ : Slc).v, Value.int .i64 0] := B2_
      clear B2_
      refine stC_t 1 B2 rfl rfl rfl fun u12 k_u12 B2_ => ?_
      replace B2 : Blt u12 bk2 50 #[Value.bool false, (⟨none, 0, 0⟩ : Slc).v, Value.int .i64 0, Value.bool false, (⟨none, 0, 0⟩ : Slc).v, Value.int .i64 0] := B2_
      clear B2_
      refine stC_t 2 B2 rfl rfl rfl fun u13 k_u13 B2_ => ?_
      replace B2 : Blt u13 bk2 50 #[Value.bool false, (⟨none, 0, 0⟩ : Slc).v, Value.int .i64 0, Value.bool false, (⟨none, 0, 0⟩ : Slc).v, Value.int .i64 0] := B2_
      clear B2_
      refine stC_t 3 B2 rfl rfl rfl fun u14 k_u14 B2_ => ?_
      replace B2 : Blt u14 bk2 50 #[Value.bool false, (⟨none, 0, 0⟩ : Slc).v, Value.int .i64 0, Value.bool false, (⟨none, 0, 0⟩ : Slc).v, Value.int .i64 0] := B2_
      clear B2_
      refine stC_t 4 B2 rfl rfl rfl fun u15 k_u15 B2_ => ?_
      replace B2 : Blt u15 bk2 50 #[Value.bool false, (⟨none, 0, 0⟩ : Slc).v, Value.int .i64 0, Value.bool false, (⟨none, 0, 0⟩ : Slc).v, Value.int .i64 0] := B2_
      clear B2_
      refine stC_t 5 B2 rfl rfl rfl fun u16 k_u16 B2_ => ?_
      replace B2 : Blt u16 bk2 50 #[Value.bool false, (⟨none, 0, 0⟩ : Slc).v, Value.int .i64 0, Value.bool false, (⟨none, 0, 0⟩ : Slc).v, Value.int .i64 0] := B2_
      clear B2_
      have kk_u11 := (((((k_u11.trans k_u12).trans k_u13).trans k_u14).trans k_u15).trans k_u16)
      obtain ⟨B1, B3⟩ := up2 kk_u11 B1 B3
      obtain ⟨A, X⟩ := axu2 kk_u11 g2 A X
      clear k_u16 k_u15 k_u14 k_u13 k_u12 k_u11
      refine ldB_t 0 B2 rfl ?_
      refine ldS_t 1 B2 rfl ?_
      refine ldI_t 2 B2 rfl ?_
      refine ldB_t 3 B2 rfl ?_
      refine ldS_t 4 B2 rfl ?_
      refine ldI_t 5 B2 rfl ?_
      replace h := h _ X A
      exact ⟨A, h⟩
     ·clear h
      have h := h_
      clear h_
      refine ldB_t 0 B1 rfl ?_
      refine ldS_t 1 B1 rfl ?_
      refine ldS_t 2 B1 rfl ?_
      replace h := h _ X A
      refine Calls.mono h ?_
      clear h
      rintro e2 w6 ⟨b2, s2, x3, x4, he_, ha_w6, h⟩
      refine ⟨b2, s2, x3, x4, he_, ?_⟩
      clear he_
      obtain ⟨B1, B2, B3⟩ := ah3 ha_w6 B1 B2 B3
      obtain ⟨A, X⟩ := axa2 ha_w6 A X
      replace X : Ext w6 w6 := Ext.refl _
      refine newC_t fun bk4 u17 hb4 ha_u17 _ B4 => ?_
      have g4 := le_eq A.size hb4
      obtain ⟨_, _, _⟩ := lt3 hb4 B1 B2 B3
      obtain ⟨B1, B2, B3⟩ := ah3 ha_u17 B1 B2 B3
      obtain ⟨A, X⟩ := axa2 ha_u17 A X
      refine st3_t B4 rfl rfl rfl rfl fun u18 k_u18 B4 => ?_
      obtain ⟨B1, B2, B3⟩ := up3 k_u18 B1 B2 B3
      obtain ⟨A, X⟩ := axu2 k_u18 g4 A X
      refine ldB_t 0 B3 rfl ?_
      refine ldS_t 1 B3 rfl ?_
      refine ldI_t 2 B3 rfl ?_
      refine ldB_t 0 B4 rfl ?_
      refine ldS_t 1 B4 rfl ?_
      refine ldI_t 2 B4 rfl ?_
      replace h := h _ X A
      refine Calls.mono h ?_
      clear h
      rintro e3 w8 ⟨b3, s3, x5, b4, s4, x6, x7, he_, ha_w8, h⟩
      refine ⟨b3, s3, x5, b4, s4, x6, x7, he_, ?_⟩
      clear he_
      obtain ⟨B1, B2, B3, B4⟩ := ah4 ha_w8 B1 B2 B3 B4
      obtain ⟨A, X⟩ := axa2 ha_w8 A X
      replace X : Ext w8 w8 := Ext.refl _
      refine stC_t 0 B2 rfl rfl rfl fun u19 k_u19 B2_ => ?_
      replace B2 : Blt u19 bk2 50 #[Value.bool b3, (⟨none, 0, 0⟩ : Slc).v, Value.int .i64 0, Value.bool false, (⟨none, 0, 0⟩ : Slc).v, Value.int .i64 0] := B2_
      clear B2_
      refine stC_t 1 B2 rfl rfl rfl fun u20 k_u20 B2_ => ?_
      replace B2 : Blt u20 bk2 50 #[Value.bool b3, s3.v, Value.int .i64 0, Value.bool false, (⟨none, 0, 0⟩ : Slc).v, Value.int .i64 0] := B2_
      clear B2_
      refine stC_t 2 B2 rfl rfl rfl fun u21 k_u21 B2_ => ?_
      replace B2 : Blt u21 bk2 50 #[Value.bool b3, s3.v, Value.int .i64 x5, Value.bool false, (⟨none, 0, 0⟩ : Slc).v, Value.int .i64 0] := B2_
      clear B2_
      refine stC_t 3 B2 rfl rfl rfl fun u22 k_u22 B2_ => ?_
      replace B2 : Blt u22 bk2 50 #[Value.bool b3, s3.v, Value.int .i64 x5, Value.bool b4, (⟨none, 0, 0⟩ : Slc).v, Value.int .i64 0] := B2_
      clear B2_
      refine stC_t 4 B2 rfl rfl rfl fun u23 k_u23 B2_ => ?_
      replace B2 : Blt u23 bk2 50 #[Value.bool b3, s3.v, Value.int .i64 x5, Value.bool b4, s4.v, Value.int .i64 0] := B2_
      clear B2_
      refine stC_t 5 B2 rfl rfl rfl fun u24 k_u24 B2_ => ?_
      replace B2 : Blt u24 bk2 50 #[Value.bool b3, s3.v, Value.int .i64 x5, Value.bool b4, s4.v, Value.int .i64 x6] := B2_
      clear B2_
      have kk_u19 := (((((k_u19.trans k_u20).trans k_u21).trans k_u22).trans k_u23).trans k_u24)
      obtain ⟨B1, B3, B4⟩ := up3 kk_u19 B1 B3 B4
      obtain ⟨A, X⟩ := axu2 kk_u19 g2 A X
      clear k_u24 k_u23 k_u22 k_u21 k_u20 k_u19
      refine ldB_t 0 B2 rfl ?_
      refine ldS_t 1 B2 rfl ?_
      refine ldI_t 2 B2 rfl ?_
      refine ldB_t 3 B2 rfl ?_
      refine ldS_t 4 B2 rfl ?_
      refine ldI_t 5 B2 rfl ?_
      replace h := h _ X A
      exact ⟨A, h⟩

/-- surd/span.ends: function 78, its local variables as values. -/
theorem span_ends_v2 (a0_lo_0 : Bool) (a0_lo_1 : Slc) (a0_lo_2 : Int) (a1_e : Int) (a2_hi_0 : Bool) (a2_hi_1 : Slc) (a2_hi_2 : Int) (a3_f : Int) (w : World) (R : Ending → World → Prop)
    
    (h : ∀ w1, Ext w w1 → Ahead w w1 →
    (Calls Tryz.prog 64 #[Value.int .i64 a1_e, Value.int .i64 a3_f] w1 fun e1 w2 =>
     ∃ x1 : Int, e1 = .returned (Value.int .i64 x1) ∧ Ahead w1 w2 ∧
     (br (x1 != 0)
      (∀ w3, Ext w2 w3 → Ahead w w3 →
       (R (.returned (Value.tuple #[Value.agg #[Value.bool (false), ((⟨none, 0, 0⟩ : Slc)).v, Value.int .i64 (0 : Int), Value.bool (false), ((⟨none, 0, 0⟩ : Slc)).v, Value.int .i64 (0 : Int)], Value.int .i64 x1])) w3))
      (∀ w4, Ext w2 w4 → Ahead w w4 →
       (R (.returned (Value.tuple #[Value.agg #[Value.bool a0_lo_0, a0_lo_1.v, Value.int .i64 a0_lo_2, Value.bool a2_hi_0, a2_hi_1.v, Value.int .i64 a2_hi_2], Value.int .i64 0])) w4)))))
     :
    Calls Tryz.prog 78 #[Value.agg #[Value.bool a0_lo_0, a0_lo_1.v, Value.int .i64 a0_lo_2], Value.int .i64 a1_e, Value.agg #[Value.bool a2_hi_0, a2_hi_1.v, Value.int .i64 a2_hi_2], Value.int .i64 a3_f] w (fun e_ w_ => Ahead w w_ ∧ R e_ w_) := by
  refine span_ends_vc a0_lo_0 a0_lo_1 a0_lo_2 a1_e a2_hi_0 a2_hi_1 a2_hi_2 a3_f w _  ?_
  · have A : Ahead w w := Ahead.refl w
    have X : Ext w w := Ext.refl w
    refine newC_t fun bk1 u1 hb1 ha_u1 _ B1 => ?_
    have g1 := le_eq A.size hb1
    obtain ⟨A, X⟩ := axa2 ha_u1 A X
    refine newC_t fun bk2 u2 hb2 ha_u2 _ B2 => ?_
    have g2 := le_eq A.size hb2
    have l1_2 := lt1 hb2 B1
    replace B1 := B1.ahead ha_u2
    obtain ⟨A, X⟩ := axa2 ha_u2 A X
    refine newC_t fun bk3 u3 hb3 ha_u3 _ B3 => ?_
    have g3 := le_eq A.size hb3
    obtain ⟨_, _⟩ := lt2 hb3 B1 B2
    obtain ⟨B1, B2⟩ := ah2 ha_u3 B1 B2
    obtain ⟨A, X⟩ := axa2 ha_u3 A X
    replace h := h _ X A
    refine Calls.mono h ?_
    clear h
    rintro e1 w2 ⟨x1, he_, ha_w2, h⟩
    refine ⟨x1, he_, ?_⟩
    clear he_
    obtain ⟨B1, B2, B3⟩ := ah3 ha_w2 B1 B2 B3
    obtain ⟨A, X⟩ := axa2 ha_w2 A X
    replace X : Ext w2 w2 := Ext.refl _
    refine br_map h (fun h_ => ?_) (fun h_ => ?_)
    ·clear h
     have h := h_
     clear h_
     refine stC_t 0 B3 rfl rfl rfl fun u4 k_u4 B3_ => ?_
     replace B3 : Blt u4 bk3 50 #[Value.bool false, (⟨none, 0, 0⟩ : Slc).v, Value.int .i64 0, Value.bool false, (⟨none, 0, 0⟩ : Slc).v, Value.int .i64 0] := B3_
     clear B3_
     refine stC_t 1 B3 rfl rfl rfl fun u5 k_u5 B3_ => ?_
     replace B3 : Blt u5 bk3 50 #[Value.bool false, (⟨none, 0, 0⟩ : Slc).v, Value.int .i64 0, Value.bool false, (⟨none, 0, 0⟩ : Slc).v, Value.int .i64 0] := B3_
     clear B3_
     refine stC_t 2 B3 rfl rfl rfl fun u6 k_u6 B3_ => ?_
     replace B3 : Blt u6 bk3 50 #[Value.bool false, (⟨none, 0, 0⟩ : Slc).v, Value.int .i64 0, Value.bool false, (⟨none, 0, 0⟩ : Slc).v, Value.int .i64 0] := B3_
     clear B3_
     refine stC_t 3 B3 rfl rfl rfl fun u7 k_u7 B3_ => ?_
     replace B3 : Blt u7 bk3 50 #[Value.bool false, (⟨none, 0, 0⟩ : Slc).v, Value.int .i64 0, Value.bool false, (⟨none, 0, 0⟩ : Slc).v, Value.int .i64 0] := B3_
     clear B3_
     refine stC_t 4 B3 rfl rfl rfl fun u8 k_u8 B3_ => ?_
     replace B3 : Blt u8 bk3 50 #[Value.bool false, (⟨none, 0, 0⟩ : Slc).v, Value.int .i64 0, Value.bool false, (⟨none, 0, 0⟩ : Slc).v, Value.int .i64 0] := B3_
     clear B3_
     refine stC_t 5 B3 rfl rfl rfl fun u9 k_u9 B3_ => ?_
     replace B3 : Blt u9 bk3 50 #[Value.bool false, (⟨none, 0, 0⟩ : Slc).v, Value.int .i64 0, Value.bool false, (⟨none, 0, 0⟩ : Slc).v, Value.int .i64 0] := B3_
     clear B3_
     have kk_u4 := (((((k_u4.trans k_u5).trans k_u6).trans k_u7).trans k_u8).trans k_u9)
     obtain ⟨B1, B2⟩ := up2 kk_u4 B1 B2
     obtain ⟨A, X⟩ := axu2 kk_u4 g3 A X
     clear k_u9 k_u8 k_u7 k_u6 k_u5 k_u4
     refine ldB_t 0 B3 rfl ?_
     refine ldS_t 1 B3 rfl ?_
     refine ldI_t 2 B3 rfl ?_
     refine ldB_t 3 B3 rfl ?_
     refine ldS_t 4 B3 rfl ?_
     refine ldI_t 5 B3 rfl ?_
     replace h := h _ X A
     exact ⟨A, h⟩
    ·clear h
     have h := h_
     clear h_
     refine ldB_t 0 B1 rfl ?_
     refine ldS_t 1 B1 rfl ?_
     refine ldI_t 2 B1 rfl ?_
     refine ldB_t 0 B2 rfl ?_
     refine ldS_t 1 B2 rfl ?_
     refine ldI_t 2 B2 rfl ?_
     refine stC_t 0 B3 rfl rfl rfl fun u10 k_u10 B3_ => ?_
     replace B3 : Blt u10 bk3 50 #[Value.bool a0_lo_0, (⟨none, 0, 0⟩ : Slc).v, Value.int .i64 0, Value.bool false, (⟨none, 0, 0⟩ : Slc).v, Value.int .i64 0] := B3_
     clear B3_
     refine stC_t 1 B3 rfl rfl rfl fun u11 k_u11 B3_ => ?_
     replace B3 : Blt u11 bk3 50 #[Value.bool a0_lo_0, a0_lo_1.v, Value.int .i64 0, Value.bool false, (⟨none, 0, 0⟩ : Slc).v, Value.int .i64 0] := B3_
     clear B3_
     refine stC_t 2 B3 rfl rfl rfl fun u12 k_u12 B3_ => ?_
     replace B3 : Blt u12 bk3 50 #[Value.bool a0_lo_0, a0_lo_1.v, Value.int .i64 a0_lo_2, Value.bool false, (⟨none, 0, 0⟩ : Slc).v, Value.int .i64 0] := B3_
     clear B3_
     refine stC_t 3 B3 rfl rfl rfl fun u13 k_u13 B3_ => ?_
     replace B3 : Blt u13 bk3 50 #[Value.bool a0_lo_0, a0_lo_1.v, Value.int .i64 a0_lo_2, Value.bool a2_hi_0, (⟨none, 0, 0⟩ : Slc).v, Value.int .i64 0] := B3_
     clear B3_
     refine stC_t 4 B3 rfl rfl rfl fun u14 k_u14 B3_ => ?_
     replace B3 : Blt u14 bk3 50 #[Value.bool a0_lo_0, a0_lo_1.v, Value.int .i64 a0_lo_2, Value.bool a2_hi_0, a2_hi_1.v, Value.int .i64 0] := B3_
     clear B3_
     refine stC_t 5 B3 rfl rfl rfl fun u15 k_u15 B3_ => ?_
     replace B3 : Blt u15 bk3 50 #[Value.bool a0_lo_0, a0_lo_1.v, Value.int .i64 a0_lo_2, Value.bool a2_hi_0, a2_hi_1.v, Value.int .i64 a2_hi_2] := B3_
     clear B3_
     have kk_u10 := (((((k_u10.trans k_u11).trans k_u12).trans k_u13).trans k_u14).trans k_u15)
     obtain ⟨B1, B2⟩ := up2 kk_u10 B1 B2
     obtain ⟨A, X⟩ := axu2 kk_u10 g3 A X
     clear k_u15 k_u14 k_u13 k_u12 k_u11 k_u10
     refine ldB_t 0 B3 rfl ?_
     refine ldS_t 1 B3 rfl ?_
     refine ldI_t 2 B3 rfl ?_
     refine ldB_t 3 B3 rfl ?_
     refine ldS_t 4 B3 rfl ?_
     refine ldI_t 5 B3 rfl ?_
     replace h := h _ X A
     exact ⟨A, h⟩

/-- surd/ratio.Int: function 38, its local variables as values. -/
theorem ratio_Int_v2 (a0_v : Int) (w : World) (R : Ending → World → Prop)
    
    (h : ∀ w1, Ext w w1 → Ahead w w1 →
    (Calls Tryz.prog 83 #[Value.int .i64 a0_v] w1 fun e1 w2 =>
     ∃ b1 : Bool, ∃ s1 : Slc, e1 = .returned (Value.agg #[Value.bool b1, s1.v]) ∧ Ahead w1 w2 ∧
     (Calls Tryz.prog 84 #[Value.int .u64 1] w2 fun e2 w3 =>
      ∃ s2 : Slc, e2 = .returned s2.v ∧ Ahead w2 w3 ∧
      (∀ w4, Ext w3 w4 → Ahead w w4 →
       (R (.returned (Value.agg #[Value.bool b1, s1.v, s2.v])) w4)))))
     :
    Calls Tryz.prog 38 #[Value.int .i64 a0_v] w (fun e_ w_ => Ahead w w_ ∧ R e_ w_) := by
  refine ratio_Int_vc a0_v w _  ?_
  · have A : Ahead w w := Ahead.refl w
    have X : Ext w w := Ext.refl w
    refine newC_t fun bk1 u1 hb1 ha_u1 _ B1 => ?_
    have g1 := le_eq A.size hb1
    obtain ⟨A, X⟩ := axa2 ha_u1 A X
    replace h := h _ X A
    refine Calls.mono h ?_
    clear h
    rintro e1 w2 ⟨b1, s1, he_, ha_w2, h⟩
    refine ⟨b1, s1, he_, ?_⟩
    clear he_
    replace B1 := B1.ahead ha_w2
    obtain ⟨A, X⟩ := axa2 ha_w2 A X
    replace X : Ext w2 w2 := Ext.refl _
    refine Calls.mono h ?_
    clear h
    rintro e2 w3 ⟨s2, he_, ha_w3, h⟩
    refine ⟨s2, he_, ?_⟩
    clear he_
    replace B1 := B1.ahead ha_w3
    obtain ⟨A, X⟩ := axa2 ha_w3 A X
    replace X : Ext w3 w3 := Ext.refl _
    refine st3_t B1 rfl rfl rfl rfl fun u2 k_u2 B1 => ?_
    obtain ⟨A, X⟩ := axu2 k_u2 g1 A X
    refine ldB_t 0 B1 rfl ?_
    refine ldS_t 1 B1 rfl ?_
    refine ldS_t 2 B1 rfl ?_
    replace h := h _ X A
    exact ⟨A, h⟩

/-- surd/whole.Of: function 83, its local variables as values. -/
theorem whole_Of_v2 (a0_n : Int) (w : World) (R : Ending → World → Prop)
    
    (h : br (decide (a0_n < 0))
    (∀ w1, Ext w w1 → Ahead w w1 →
     (Calls Tryz.prog 84 #[Value.int .u64 (IntKind.u64.wrap (0 - (IntKind.u64.wrap a0_n)))] w1 fun e1 w2 =>
      ∃ s1 : Slc, e1 = .returned s1.v ∧ Ahead w1 w2 ∧
      (∀ w3, Ext w2 w3 → Ahead w w3 →
       (R (.returned (Value.agg #[Value.bool (true), s1.v])) w3))))
    (∀ w4, Ext w w4 → Ahead w w4 →
     (Calls Tryz.prog 84 #[Value.int .u64 (IntKind.u64.wrap a0_n)] w4 fun e2 w5 =>
      ∃ s2 : Slc, e2 = .returned s2.v ∧ Ahead w4 w5 ∧
      (∀ w6, Ext w5 w6 → Ahead w w6 →
       (R (.returned (Value.agg #[Value.bool (false), s2.v])) w6)))))
     :
    Calls Tryz.prog 83 #[Value.int .i64 a0_n] w (fun e_ w_ => Ahead w w_ ∧ R e_ w_) := by
  refine whole_Of_vc a0_n w _  ?_
  · have A : Ahead w w := Ahead.refl w
    have X : Ext w w := Ext.refl w
    refine newC_t fun bk1 u1 hb1 ha_u1 _ B1 => ?_
    have g1 := le_eq A.size hb1
    obtain ⟨A, X⟩ := axa2 ha_u1 A X
    refine br_map h (fun h_ => ?_) (fun h_ => ?_)
    ·clear h
     have h := h_
     clear h_
     replace h := h _ X A
     refine Calls.mono h ?_
     clear h
     rintro e1 w2 ⟨s1, he_, ha_w2, h⟩
     refine ⟨s1, he_, ?_⟩
     clear he_
     replace B1 := B1.ahead ha_w2
     obtain ⟨A, X⟩ := axa2 ha_w2 A X
     replace X : Ext w2 w2 := Ext.refl _
     refine st2_t B1 rfl rfl rfl fun u2 k_u2 B1 => ?_
     obtain ⟨A, X⟩ := axu2 k_u2 g1 A X
     refine ldB_t 0 B1 rfl ?_
     refine ldS_t 1 B1 rfl ?_
     replace h := h _ X A
     exact ⟨A, h⟩
    ·clear h
     have h := h_
     clear h_
     replace h := h _ X A
     refine Calls.mono h ?_
     clear h
     rintro e2 w5 ⟨s2, he_, ha_w5, h⟩
     refine ⟨s2, he_, ?_⟩
     clear he_
     replace B1 := B1.ahead ha_w5
     obtain ⟨A, X⟩ := axa2 ha_w5 A X
     replace X : Ext w5 w5 := Ext.refl _
     refine st2_t B1 rfl rfl rfl fun u3 k_u3 B1 => ?_
     obtain ⟨A, X⟩ := axu2 k_u3 g1 A X
     refine ldB_t 0 B1 rfl ?_
     refine ldS_t 1 B1 rfl ?_
     replace h := h _ X A
     exact ⟨A, h⟩

end Go.Proofs.YtbeiopoejdkheaaGreatDoor
namespace Go.Proofs.YtbeiopoejdkheaaGreatDoor
open Go Go.RowKit Eng Sp Dg L2
set_option linter.unusedVariables false
set_option linter.unusedSimpArgs false
set_option maxRecDepth 100000
namespace Wr
open _root_.Go.Proofs.YtbeiopoejdkheaaGreatDoor.Nat (Yes Num Num.ahead Num.ext Num.bl num_of OwnNil OwnNil.rd OwnNil.ext OwnNil.ahead OwnNil.mono digs_len_bl len_num Norm_spec From_spec cmp_num own_num Ret.num bigC_ok one_rd ok_one)
open _root_.Go.Proofs.YtbeiopoejdkheaaGreatDoor.Ro (nu de bhv rdQ quQ asked_spec quotE_spec)
open _root_.Go.Proofs.YtbeiopoejdkheaaGreatDoor.Rt (isR isR_unique)
open Dy Sb

theorem lit1 {w : World} {x : Nat} {K : Addr → World → Prop} (h : ∀ ad w', Ahead w w' → Rd .u64 w' ⟨some ad, 1, 1⟩ (nn [x]) → K ad w') : newC w #[.int .u64 (x : Int)] tU64 K :=
  h _ _ (Ahead.alloc _ _) (one_rd w x)
theorem num1 {w : World} {s : Slc} {x : Nat} (r : Rd .u64 w s (nn [x])) (hx : x < B64) : Num w s x :=
  ⟨[x], r, by simp, ok_one hx, by simp [val]⟩
theorem digs_limb {x : Nat} (h0 : x ≠ 0) (hx : x < B64) : digs B64 x = [x] := by
  rw [digs_pos two64 h0, Nat.mod_eq_of_lt hx, Nat.div_eq_of_lt hx, digs_zero]

/-- A ratio, rounded. -/
theorem Ratio_spec {w : World} {neg : Bool} {s1 s2 : Slc} {X Y : Nat} {pos m : Int} (hT : Tab w) (h1 : Num w s1 X) (h2 : Num w s2 Y) (hX : bl X ≤ 1048576) (hY : bl Y ≤ 1048576) (hY0 : Y ≠ 0)
    (hp : -1048576 ≤ pos ∧ pos ≤ 1048576) (hm : 0 ≤ m ∧ m ≤ 2) :
    Calls pr rounded_Ratio_id #[.agg #[.bool neg, s1.v, s2.v], .int .i64 pos, .int .i64 m] w
      (DOut w (tC (rdQ m neg (nu X (0 - pos) / de Y (0 - pos)) (bhv (nu X (0 - pos)) (de Y (0 - pos)))) pos) neg (rdQ m neg (nu X (0 - pos) / de Y (0 - pos)) (bhv (nu X (0 - pos)) (de Y (0 - pos)))) pos) := by
  obtain ⟨QQ, hQQ⟩ : ∃ QQ, QQ = rdQ m neg (nu X (0 - pos) / de Y (0 - pos)) (bhv (nu X (0 - pos)) (de Y (0 - pos))) := ⟨_, rfl⟩
  rw [← hQQ]
  have wip : wi pos := by unfold wi; omega
  refine Calls.mono (rounded_Ratio_v2 neg s1 s2 pos m w (fun en w' => ∃ s', en = .returned (.tuple #[.agg (c3 (if tC QQ pos = 0 then nD neg QQ else false) s' (if tC QQ pos = 0 then eD QQ pos else 0)), .int .i64 (tC QQ pos)]) ∧ OwnNil w.heap.size w' s' (if tC QQ pos = 0 then digs B64 (od QQ) else [])) ?_) fun en w' h => h
  intro w1 x1 a1
  refine Calls.mono (len_num (h2.ahead a1)) ?_
  rintro en w2 ⟨rfl, rfl⟩
  have hb := bl_pos hY0
  refine ⟨_, rfl, Ahead.refl _, br_false (beq_eq_false_iff_ne.2 (by omega)) (Calls.mono (asked_spec wip hm) ?_)⟩
  rintro en w4 ⟨rfl, rfl⟩
  refine ⟨_, rfl, Ahead.refl _, br_false rfl fun w6 x6 a6 => ?_⟩
  obtain ⟨l1, r1, n1, o1, v1⟩ := h1
  obtain ⟨l2, r2, n2, o2, v2⟩ := h2
  refine Calls.mono (Norm_spec (r1.ahead a6) n1 o1) ?_
  rw [v1]
  rintro en w7 ⟨h7, t1, rfl, q1⟩
  refine ⟨_, rfl, h7, Calls.mono (Norm_spec ((r2.ahead a6).ahead h7) n2 o2) ?_⟩
  rw [v2]
  rintro en w8 ⟨h8, t2, rfl, q2⟩
  have a8 := (a6.trans h7).trans h8
  have hq := quotE_spec (neg := neg) (k := 0) (pos := pos) (m := m) (hT.ahead a8) (q1.ahead h8).rd q2.rd hX hY hY0 (by omega) (by omega)
  rw [← hQQ] at hq
  refine ⟨_, rfl, h8, Calls.mono hq ?_⟩
  rintro en w9 ⟨h9, s', rfl, o'⟩
  exact ⟨_, _, _, _, rfl, h9, fun w10 x10 a10 => ⟨_, rfl, (o'.ext x10).mono a8.size⟩⟩

theorem third {m : Int} (hm : m = 0 ∨ m = 1) : rdQ m false (nu 1 (0 - (-4)) / de 3 (0 - (-4))) (bhv (nu 1 (0 - (-4))) (de 3 (0 - (-4)))) = if m = 0 then 5 else 6 := by
  rcases hm with rfl | rfl <;> decide
theorem bl_small {x k : Nat} (h : x < 2 ^ k) : bl x ≤ k := bl_le h

theorem worst_ok {w : World} : Calls pr span_worst_id #[.int .i64 0, .int .i64 0] w fun e w' => w' = w ∧ e = .returned (.int .i64 0) :=
  span_worst_vc 0 0 w _ (br_false rfl (br_false rfl (br_false rfl ⟨rfl, rfl⟩)))
theorem ends_ok {w : World} {b1 b2 : Bool} {s1 s2 : Slc} {x1 x2 : Int} :
    Calls pr span_ends_id #[.agg #[.bool b1, s1.v, .int .i64 x1], .int .i64 0, .agg #[.bool b2, s2.v, .int .i64 x2], .int .i64 0] w fun e w' => Ahead w w' ∧ e = .returned (.tuple #[.agg #[.bool b1, s1.v, .int .i64 x1, .bool b2, s2.v, .int .i64 x2], .int .i64 0]) := by
  refine span_ends_v2 b1 s1 x1 0 b2 s2 x2 0 w (fun e w' => e = .returned (.tuple #[.agg #[.bool b1, s1.v, .int .i64 x1, .bool b2, s2.v, .int .i64 x2], .int .i64 0])) fun w1 _ a1 => Calls.mono worst_ok ?_
  rintro e w2 ⟨rfl, rfl⟩
  exact ⟨_, rfl, Ahead.refl _, br_false rfl fun w4 _ _ => rfl⟩

theorem Of_third {w : World} {s1 s2 : Slc} (hT : Tab w) (h1 : Num w s1 1) (h2 : Num w s2 3) :
    Calls pr span_Of_id #[.agg #[.bool false, s1.v, s2.v], .int .i64 (-4)] w fun e w' => Ahead w w' ∧ ∃ (s t : Slc) (c : Bool) (x : Int), e = .returned (.tuple #[.agg #[.bool false, s.v, .int .i64 (-4), .bool c, t.v, .int .i64 x], .int .i64 0]) ∧ Rd .u64 w' s (nn (digs B64 5)) := by
  have e5 : eD 5 (-4) = -4 := by rw [eD, if_neg (by omega), tz_odd (by rfl)]; rfl
  refine span_Of_v2 false s1 s2 (-4) w (fun e w' => ∃ (s t : Slc) (c : Bool) (x : Int), e = .returned (.tuple #[.agg #[.bool false, s.v, .int .i64 (-4), .bool c, t.v, .int .i64 x], .int .i64 0]) ∧ Rd .u64 w' s (nn (digs B64 5))) fun w1 _ a1 => ?_
  have b1 : bl 1 ≤ 1 := bl_small (by omega)
  have b3 : bl 3 ≤ 2 := bl_small (by omega)
  have b5 : bl 5 ≤ 3 := bl_small (by omega)
  have b6 : bl 6 ≤ 3 := bl_small (by omega)
  refine Calls.mono (Ratio_spec (hT.ahead a1) (h1.ahead a1) (h2.ahead a1) (by omega) (by omega) (by omega) (by omega) (by omega)) ?_
  rw [third (.inl rfl), if_pos rfl, tC_ok (by omega) (by omega)]
  rintro e w2 ⟨k2, s, rfl, o⟩
  rw [if_pos rfl] at o
  refine ⟨_, _, _, _, rfl, k2, br_false rfl (br_false rfl fun w5 x5 a5 => ?_)⟩
  refine Calls.mono (Ratio_spec (hT.ahead a5) (h1.ahead a5) (h2.ahead a5) (by omega) (by omega) (by omega) (by omega) (by omega)) ?_
  rw [third (.inr rfl), if_neg (by omega), tC_ok (by omega) (by omega)]
  rintro e w6 ⟨k6, t, rfl, o'⟩
  refine ⟨_, _, _, _, rfl, k6, fun w7 x7 a7 => Calls.mono ends_ok ?_⟩
  rintro e w8 ⟨k8, rfl⟩
  refine ⟨_, _, _, _, _, _, _, rfl, k8, fun w9 x9 a9 => ⟨s, t, nD false 6, eD 6 (-4), ?_, ?_⟩⟩
  · rw [if_pos rfl, if_pos rfl, if_pos rfl, if_pos rfl, e5]; rfl
  · have := (((((o.ext x5).ahead k6).ext x7).ahead k8).ext x9).rd
    rwa [od_of_odd (by rfl)] at this

theorem dSign_ok {w : World} {c : Bool} {s : Slc} {x : Nat} {E : Int} (h : Num w s x) : Calls pr dyadic_Sign_id #[.agg #[.bool c, s.v, .int .i64 E]] w fun e w' => Ahead w w' ∧ e = .returned (.int .i64 (sgn c x)) := by
  refine dyadic_Sign_vc c s E w _ (newC_b fun b w1 hb h1 hs1 B1 => ldB_b 0 B1 rfl (ldS_b 1 B1 rfl (Calls.mono (Sign_spec (h.ahead h1)) ?_)))
  rintro e w2 ⟨h2, rfl⟩
  exact ⟨_, rfl, h1.trans h2, rfl⟩

theorem Int_five {w : World} : Calls pr ratio_Int_id #[.int .i64 5] w fun e w' => Ahead w w' ∧ ∃ (b : Bool) (s t : Slc), e = .returned (.agg #[.bool b, s.v, t.v]) ∧ Rd .u64 w' s (nn [5]) := by
  have hB := B64v
  refine ratio_Int_v2 5 w (fun e w' => ∃ (b : Bool) (s t : Slc), e = .returned (.agg #[.bool b, s.v, t.v]) ∧ Rd .u64 w' s (nn [5])) fun w1 _ a1 => ?_
  have hOf : Calls pr whole_Of_id #[.int .i64 5] w1 fun e w' => Ahead w1 w' ∧ ∃ s, e = .returned (.agg #[.bool false, s.v]) ∧ Rd .u64 w' s (nn [5]) := by
    refine whole_Of_v2 5 w1 (fun e w' => ∃ s, e = .returned (.agg #[.bool false, s.v]) ∧ Rd .u64 w' s (nn [5])) (br_false rfl fun w4 x4 a4 => ?_)
    refine Calls.mono (From_spec (v := 5) (by omega)) ?_
    rintro e w5 ⟨h5, s, rfl, o⟩
    refine ⟨_, rfl, h5, fun w6 x6 a6 => ⟨_, rfl, ?_⟩⟩
    have := (o.ext x6).rd
    rwa [digs_limb (by omega) (by omega)] at this
  refine Calls.mono hOf ?_
  rintro e w2 ⟨h2, s, rfl, r⟩
  refine ⟨_, _, rfl, h2, Calls.mono (From_spec (v := 1) (by omega)) ?_⟩
  rintro e w3 ⟨h3, t, rfl, o⟩
  exact ⟨_, rfl, h3, fun w4 x4 a4 => ⟨_, _, _, rfl, (r.ahead h3).ext x4⟩⟩

theorem works_ok {w : World} (hT : Tab w) : Calls pr surdtop_works_id #[] w fun e w' => Ahead w w' ∧ e = .returned (.bool true) := by
  have hB := B64v
  refine surdtop_works_v2 w (fun e w' => e = .returned (.bool true)) ?_
  refine lit1 (x := 6) fun ad1 w1 h1 r1 => lit1 (x := 7) fun ad2 w2 h2 r2 => ?_
  have n6 := num1 (r1.ahead h2) (by omega)
  have n7 := num1 r2 (by omega)
  have d6 := digs_limb (x := 6) (by omega) (by omega)
  have d7 := digs_limb (x := 7) (by omega) (by omega)
  have d42 := digs_limb (x := 42) (by omega) (by omega)
  have b42 : bl 42 ≤ 6 := bl_small (by omega)
  refine Calls.mono (Mul.Mul_spec n6 n7 (by rw [d6]; simp) (by rw [d7]; simp)) ?_
  intro e w3 hr
  obtain ⟨h3, s1, rfl, o1, _⟩ := hr.num (bigC_ok (by show bl 42 ≤ _; omega)) (by show bl 42 ≤ _; omega)
  refine ⟨_, _, rfl, h3, lit1 (x := 49) fun ad3 w4 h4 r4 => ?_⟩
  have b49 : bl 49 ≤ 6 := bl_small (by omega)
  refine Calls.mono (Rt.Sqrt_spec (num1 r4 (by omega)) (by omega)) ?_
  rintro e w5 ⟨h5, s2, s3, r, rfl, o2, _, hr⟩
  obtain rfl : r = 7 := isR_unique hr ⟨by omega, by omega⟩
  refine ⟨_, _, _, rfl, h5, Calls.mono (Print_42 (a := s1) ?_) ?_⟩
  · have := ((o1.ahead h4).ahead h5).rd
    rwa [show 6 * 7 = 42 from rfl, d42] at this
  rintro e w6 ⟨n1, x3, rfl, h6, rfl, hn⟩
  refine ⟨_, _, rfl, h6, br_true rfl (br_true rfl (br_true rfl (br_true (beq_iff_eq.2 hn) (lit1 (x := 7) fun ad4 w7 h7 r7 => ?_))))⟩
  have b7 : bl 7 ≤ 3 := bl_small (by omega)
  refine Calls.mono (cmp_num (own_num ((o2.ahead h6).ahead h7) (by omega)) (num1 r7 (by omega))) ?_
  rintro e w8 ⟨h8, rfl⟩
  refine ⟨_, rfl, h8, br_true rfl (lit1 (x := 1) fun ad5 w9 h9 r9 => ?_)⟩
  refine Calls.mono (Sign_spec (neg := true) (num1 r9 (by omega))) ?_
  rintro e w10 ⟨h10, rfl⟩
  exact ⟨_, rfl, h10, rfl⟩

theorem works_all : Works := by
  intro w hT
  have hB := B64v
  refine surdtop_worksTen_v2 w (fun e w' => e = .returned (.bool true)) ?_
  refine lit1 (x := 1) fun ad1 w1 h1 r1 => lit1 (x := 3) fun ad2 w2 h2 r2 => ?_
  refine Calls.mono (Of_third (hT.ahead (h1.trans h2)) (num1 (r1.ahead h2) (by omega)) (num1 r2 (by omega))) ?_
  rintro e w3 ⟨h3, s, t, c, x, rfl, r3⟩
  refine ⟨_, _, _, _, _, _, _, rfl, h3, fun w4 x4 a4 => Calls.mono (works_ok (hT.ahead a4)) ?_⟩
  rintro e w5 ⟨h5, rfl⟩
  refine ⟨_, rfl, h5, br_true rfl (br_true rfl ?_)⟩
  have d5 := digs_limb (x := 5) (by omega) (by omega)
  rw [d5] at r3
  refine Calls.mono (dSign_ok (num1 ((r3.ext x4).ahead h5) (by omega))) ?_
  rintro e w6 ⟨h6, rfl⟩
  refine ⟨_, rfl, h6, br_true rfl (br_true rfl (Calls.mono Int_five ?_))⟩
  rintro e w7 ⟨h7, b4, s3, s4, rfl, r7⟩
  refine ⟨_, _, _, rfl, h7, ?_⟩
  obtain ⟨ad, hA, hc⟩ := r7.get 0 (by simp)
  unfold semA
  rw [Sem.wp_iff_run, run_indexAt (k := .u64) (e := tU64) (by kernel_rfl) w7 s3 0 ad hA (by omega) (by have := r7.n; simp at this; omega)]
  exact ⟨_, rfl, rfl, _, hc, rfl⟩
end Wr
end Go.Proofs.YtbeiopoejdkheaaGreatDoor
namespace Go.Proofs.YtbeiopoejdkheaaGreatDoor
open Go Go.RowKit Eng Sp Dg L2
set_option linter.unusedVariables false
namespace Wr
open _root_.Go.Proofs.YtbeiopoejdkheaaGreatDoor.Nat (Yes)
open Dy Sb
theorem WholeRounds_ok {w : World} (hT : Tab w) {n0 : Bool} {s0 : Slc} {e0 : Int} {l0 : List Nat} (r0 : Rd .u64 w s0 (nn l0)) (o0 : ok B64 l0) (z0 : l0.length * 8 ≤ 140737488351232) (he0 : -9223372036854775808 ≤ e0 ∧ e0 ≤ 9223372036854775807)
    {n1 : Bool} {s1 : Slc} {e1 : Int} {l1 : List Nat} (r1 : Rd .u64 w s1 (nn l1)) (o1 : ok B64 l1) (z1 : l1.length * 8 ≤ 140737488351232) (he1 : -9223372036854775808 ≤ e1 ∧ e1 ≤ 9223372036854775807)
    {x2 : Int} (hx2 : -9223372036854775808 ≤ x2 ∧ x2 ≤ 9223372036854775807) :
    Calls pr surdtop_WholeRounds_id #[.agg (c3 n0 s0 e0), .agg (c3 n1 s1 e1), .int .i64 x2] w (Yes w) :=
  WholeRounds_walk works_all hT r0 o0 z0 r1 o1 z1
end Wr
end Go.Proofs.YtbeiopoejdkheaaGreatDoor
