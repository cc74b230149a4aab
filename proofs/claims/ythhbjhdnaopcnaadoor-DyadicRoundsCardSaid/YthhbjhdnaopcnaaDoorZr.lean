/- The document's whole numbers (surdref06) as integers: Neg, Add, Sub, Mul, Floor, Ceil, Near. No condition but room. -/
import Derived.Test.YthhbjhdnaopcnaaDoorDy2
import Derived.Test.YthhbjhdnaopcnaaDoorRef5
import Derived.Test.YthhbjhdnaopcnaaDoorRef6
import Derived.Test.YthhbjhdnaopcnaaDoorLx
import Derived.Test.YthhbjhdnaopcnaaDoorV2R
namespace Go.Proofs.YthhbjhdnaopcnaaDoor
open Go Go.RowKit Eng Sp Dg L2
set_option linter.unusedVariables false
set_option linter.unusedSimpArgs false
set_option maxRecDepth 100000
namespace Dy
open _root_.Go.Proofs.YthhbjhdnaopcnaaDoor.Ref (RN RN.nil RN.ext RN.ahead Is_spec Len_spec zero_spec Shl_spec Cmp_spec Int_spec rDiv_spec rMul_spec len_mono len_lt_of bl_len32)
open Sb

def zb (z : Int) : Bool := decide (z < 0)
/-- The number of a sign and a size. -/
def sg (neg : Bool) (n : Nat) : Int := if neg then -(n : Int) else n
theorem sg_abs (neg : Bool) (n : Nat) : (sg neg n).natAbs = n := by unfold sg; cases neg <;> simp
theorem zb_sg (neg : Bool) (n : Nat) : zb (sg neg n) = nD neg n := by
  unfold zb sg nD
  cases neg
  · simp
  · by_cases h : n = 0
    · subst h; rfl
    · simp [h]; omega
theorem zb_nD (z : Int) : nD (zb z) z.natAbs = zb z := by
  unfold nD zb
  by_cases h : z < 0
  · have : z.natAbs ≠ 0 := by omega
    simp [h, this]
  · simp [h]
theorem sg_zb (z : Int) : sg (zb z) z.natAbs = z := by
  unfold sg zb
  by_cases h : z < 0
  · rw [decide_eq_true h]; simp; omega
  · rw [decide_eq_false h]; simp; omega
theorem zb_neg (z : Int) : nD (!zb z) z.natAbs = zb (-z) := by
  rw [← zb_sg]
  congr 1
  unfold sg zb
  by_cases h : z < 0
  · rw [decide_eq_true h]; simp; omega
  · rw [decide_eq_false h]; simp; omega
/-- A whole number as an answer. -/
def ZRet (z : Int) (e : Ending) (w' : World) : Prop := ∃ s, e = .returned (.agg (c2 (zb z) s)) ∧ RN w' s z.natAbs

theorem dl_le {B x y : Nat} (hB : 2 ≤ B) (h : x ≤ y) : (digs B x).length ≤ (digs B y).length := len_mono hB h
theorem dl_add {x y k : Nat} (hx : (digs B32 x).length ≤ k) (hy : (digs B32 y).length ≤ k) : (digs B32 (x + y)).length ≤ k + 1 := by
  have h : ∀ z, (digs B32 z).length ≤ k → z < B32 ^ k := fun z hz => by
    have := val_lt (ok_digs two32 z)
    rw [val_digs two32] at this
    exact Nat.lt_of_lt_of_le this (Nat.pow_le_pow_right (by rw [B32v]; omega) hz)
  refine digs_length_le two32 ?_
  have h1 := h x hx
  have h2 := h y hy
  rw [Nat.pow_succ]
  have := Nat.mul_le_mul_left (B32 ^ k) two32
  omega
theorem dl_mul (x y : Nat) : (digs B32 (x * y)).length ≤ (digs B32 x).length + (digs B32 y).length := by
  refine digs_length_le two32 ?_
  have h := fun y => val_lt (ok_digs two32 y)
  have h1 := h x
  have h2 := h y
  rw [val_digs two32] at h1 h2
  rw [Nat.pow_add]
  exact Nat.mul_lt_mul'' h1 h2
/-- How long a quotient and its divisor are together. -/
theorem dl_quot {x y : Nat} (hy : 0 < y) : (digs B32 (x / y)).length + (digs B32 y).length ≤ max ((digs B32 x).length + 1) (digs B32 y).length := by
  by_cases hq : x / y = 0
  · rw [hq, digs_zero]; simp; omega
  · have h1 := (digs_length_bounds two32 hq).1
    have h2 := (digs_length_bounds two32 (show y ≠ 0 by omega)).1
    have p1 := List.length_pos_iff.2 (digs_ne_nil two32 hq)
    have p2 := List.length_pos_iff.2 (digs_ne_nil two32 (show y ≠ 0 by omega))
    have h3 : B32 ^ ((digs B32 (x / y)).length - 1 + ((digs B32 y).length - 1)) ≤ x := by
      rw [Nat.pow_add]
      exact Nat.le_trans (Nat.mul_le_mul h1 h2) (Nat.div_mul_le_self _ _)
    have h4 : (digs B32 (x / y)).length - 1 + ((digs B32 y).length - 1) < (digs B32 x).length := (Ref.digs_lt_iff two32).2 h3
    omega

theorem zNeg_spec {w : World} {a : Slc} {x : Int} (ha : RN w a x.natAbs) :
    Calls pr surdref06_Neg_id #[.agg (c2 (zb x) a)] w fun e w' => Ahead w w' ∧ ZRet (-x) e w' := by
  refine surdref06_Neg_v2 (zb x) a w _ fun w1 x1 a1 => Calls.mono (make1_spec (ha.ahead a1)) ?_
  rintro e w2 ⟨h2, rfl, r2⟩
  refine ⟨_, _, rfl, h2, fun w3 x3 a3 => ⟨a, by rw [zb_neg], ?_⟩⟩
  rw [Int.natAbs_neg]; exact r2.ext x3

theorem zAdd_spec {w : World} {a b : Slc} {x y : Int} (ha : RN w a x.natAbs) (hb : RN w b y.natAbs) (la : (digs B32 x.natAbs).length + 1 ≤ 2 ^ 45) (lb : (digs B32 y.natAbs).length + 1 ≤ 2 ^ 45) :
    Calls pr surdref06_Add_id #[.agg (c2 (zb x) a), .agg (c2 (zb y) b)] w fun e w' => Ahead w w' ∧ ZRet (x + y) e w' := by
  refine surdref06_Add_v2 (zb x) a (zb y) b w _ (br_intro (fun he => ?_) (fun hne => ?_))
  · intro w1 x1 a1
    have he' := eq_of_beq he
    refine Calls.mono (Ref.Add_spec (ha.ahead a1) (hb.ahead a1) la lb) ?_
    rintro e w2 ⟨h2, s, rfl, r2⟩
    refine ⟨_, rfl, h2, Calls.mono (make1_spec r2) ?_⟩
    rintro e w3 ⟨h3, rfl, r3⟩
    have es : sg (zb x) (x.natAbs + y.natAbs) = x + y := by
      have h1 := sg_zb x
      have h2 := sg_zb y
      rw [← he'] at h2
      unfold sg at *
      split <;> simp_all <;> omega
    refine ⟨_, _, rfl, h3, fun w4 x4 a4 => ⟨s, ?_, ?_⟩⟩
    · rw [← es, zb_sg]
    · rw [← es, sg_abs]; exact r3.ext x4
  · intro w5 x5 a5
    have hne' : zb x ≠ zb y := fun h => by rw [h] at hne; simp at hne
    have hy' : zb y = !zb x := by cases hx : zb x <;> cases hy : zb y <;> simp_all
    refine Calls.mono (Cmp_spec (ha.ahead a5) (hb.ahead a5) (by omega) (by omega)) ?_
    rintro e w6 ⟨h6, rfl⟩
    have a6 := a5.trans h6
    have hc := cmpI_neg (m := x.natAbs) (n := y.natAbs)
    have h1 := sg_zb x
    have h2 := sg_zb y
    rw [hy'] at h2
    refine ⟨_, rfl, h6, br_intro (fun hg => ?_) (fun hl => ?_)⟩
    · have hle : y.natAbs ≤ x.natAbs := by
        rcases Nat.lt_or_ge x.natAbs y.natAbs with h | h
        · have := hc.2 h; have := of_decide_eq_true hg; omega
        · exact h
      intro w7 x7 a7
      refine Calls.mono (Ref.Sub_spec (ha.ahead a7) (hb.ahead a7) hle (by omega)) ?_
      rintro e w8 ⟨h8, s, rfl, r8⟩
      refine ⟨_, rfl, h8, Calls.mono (make1_spec r8) ?_⟩
      rintro e w9 ⟨h9, rfl, r9⟩
      have es : sg (zb x) (x.natAbs - y.natAbs) = x + y := by
        unfold sg at *
        cases hx : zb x <;> simp_all <;> omega
      refine ⟨_, _, rfl, h9, fun w4 x4 a4 => ⟨s, ?_, ?_⟩⟩
      · rw [← es, zb_sg]
      · rw [← es, sg_abs]; exact r9.ext x4
    · have hlt : x.natAbs < y.natAbs := hc.1 (by have := of_decide_eq_false hl; omega)
      intro w7 x7 a7
      refine Calls.mono (Ref.Sub_spec (hb.ahead a7) (ha.ahead a7) (by omega) (by omega)) ?_
      rintro e w8 ⟨h8, s, rfl, r8⟩
      refine ⟨_, rfl, h8, Calls.mono (make1_spec r8) ?_⟩
      rintro e w9 ⟨h9, rfl, r9⟩
      have es : sg (zb y) (y.natAbs - x.natAbs) = x + y := by
        rw [hy']
        unfold sg at *
        cases hx : zb x <;> simp_all <;> omega
      refine ⟨_, _, rfl, h9, fun w4 x4 a4 => ⟨s, ?_, ?_⟩⟩
      · rw [← es, zb_sg]
      · rw [← es, sg_abs]; exact r9.ext x4

theorem zSub_spec {w : World} {a b : Slc} {x y : Int} (ha : RN w a x.natAbs) (hb : RN w b y.natAbs) (la : (digs B32 x.natAbs).length + 1 ≤ 2 ^ 45) (lb : (digs B32 y.natAbs).length + 1 ≤ 2 ^ 45) :
    Calls pr surdref06_Sub_id #[.agg (c2 (zb x) a), .agg (c2 (zb y) b)] w fun e w' => Ahead w w' ∧ ZRet (x - y) e w' := by
  refine surdref06_Sub_v2 (zb x) a (zb y) b w _ fun w1 x1 a1 => Calls.mono (zNeg_spec (hb.ahead a1)) ?_
  rintro e w2 ⟨h2, s, rfl, r2⟩
  refine ⟨_, _, rfl, h2, Calls.mono (zAdd_spec (ha.ahead (a1.trans h2)) r2 la (by rw [Int.natAbs_neg]; exact lb)) ?_⟩
  rintro e w3 ⟨h3, t, rfl, r3⟩
  exact ⟨_, _, rfl, h3, fun w4 x4 a4 => ⟨t, rfl, r3.ext x4⟩⟩

theorem zMul_spec {w : World} {a b : Slc} {x y : Int} (ha : RN w a x.natAbs) (hb : RN w b y.natAbs) (l : (digs B32 x.natAbs).length + (digs B32 y.natAbs).length + 1 ≤ 2 ^ 45) :
    Calls pr surdref06_Mul_id #[.agg (c2 (zb x) a), .agg (c2 (zb y) b)] w fun e w' => Ahead w w' ∧ ZRet (x * y) e w' := by
  refine surdref06_Mul_v2 (zb x) a (zb y) b w _ fun w1 x1 a1 => Calls.mono (Ref.rMul_spec (ha.ahead a1) (hb.ahead a1) l) ?_
  rintro e w2 ⟨h2, s, rfl, r2⟩
  refine ⟨_, rfl, h2, Calls.mono (make1_spec r2) ?_⟩
  rintro e w3 ⟨h3, rfl, r3⟩
  have key : ∀ (p q : Bool) (m n : Nat), sg (!(p == q)) (m * n) = sg p m * sg q n := by
    intro p q m n
    unfold sg
    cases p <;> cases q <;> simp [Int.neg_mul, Int.mul_neg]
  have es : sg (!(zb x == zb y)) (x.natAbs * y.natAbs) = x * y := by rw [key, sg_zb, sg_zb]
  refine ⟨_, _, rfl, h3, fun w4 x4 a4 => ⟨s, ?_, ?_⟩⟩
  · rw [← es, zb_sg]
  · rw [← es, sg_abs]; exact r3.ext x4

theorem zInt1_spec {w : World} : Calls pr surdref06_Int_id #[.int .i64 1] w fun e w' => Ahead w w' ∧ ZRet 1 e w' :=
  Calls.mono (zInt_spec (v := 1) (by omega) (by omega)) fun e w' ⟨h1, s, h2, h3⟩ => ⟨h1, s, h2, h3⟩

/-! ### Quotients of integers by naturals -/
theorem floor_sg {neg : Bool} {x y : Nat} (hy : 0 < y) : sg neg x / (y : Int) = sg neg (x / y) - (if x % y ≠ 0 ∧ neg = true then 1 else 0) := by
  have hd := Nat.mod_add_div x y
  have hm := Nat.mod_lt x hy
  have key : ∀ q r : Int, r + (y : Int) * q = sg neg x → 0 ≤ r → r < y → sg neg x / (y : Int) = q := fun q r h1 h2 h3 =>
    ((Int.ediv_emod_unique (by omega)).2 ⟨h1, h2, h3⟩).1
  have e : (x : Int) = ((x % y : Nat) : Int) + (y : Int) * ((x / y : Nat) : Int) := by
    conv => lhs; rw [← hd]
    push_cast; rfl
  generalize x / y = q at *
  generalize x % y = r at *
  cases neg
  · refine key _ (r : Int) ?_ (by omega) (by omega)
    simp [sg]; omega
  · by_cases hr : r = 0
    · refine key _ 0 ?_ (by omega) (by omega)
      subst hr
      simp [sg]; rw [Int.mul_neg]; omega
    · refine key _ ((y : Int) - r) ?_ (by omega) (by omega)
      simp [sg, hr]
      rw [Int.mul_sub, Int.mul_neg]; omega
theorem mod_sub {x : Int} {y : Nat} : x % (y : Int) = x - x / (y : Int) * y := by
  have := Int.emod_add_mul_ediv x y
  rw [Int.mul_comm] at this
  omega
theorem floor_abs {x : Int} {y : Nat} (hy : 0 < y) : (x / (y : Int)).natAbs ≤ x.natAbs / y + 1 := by
  have h := floor_sg (neg := zb x) (x := x.natAbs) hy
  rw [sg_zb] at h
  rw [h]
  generalize x.natAbs / y = q
  unfold sg
  split <;> split <;> omega

theorem zb_nat (y : Nat) : zb (y : Int) = false := decide_eq_false (by omega)
theorem zb_pos {y : Int} (h : 0 ≤ y) : zb y = false := decide_eq_false (by omega)
/-- Room for a quotient, and for it times its divisor. -/
theorem dl_floor {x : Int} {y : Nat} (hy : 0 < y) {q : Nat} (hq : q ≤ x.natAbs / y + 1) : (digs B32 q).length + (digs B32 y).length ≤ max ((digs B32 x.natAbs).length + 2) ((digs B32 y).length + 1) := by
  have h1 := dl_quot (x := x.natAbs) hy
  have l1 : (digs B32 1).length ≤ 1 := digs_length_le two32 (by rw [Nat.pow_one, B32v]; omega)
  have h2 := dl_le two32 hq
  by_cases h0 : x.natAbs / y = 0
  · rw [h0, Nat.zero_add] at h2; omega
  · have p := List.length_pos_iff.2 (digs_ne_nil two32 h0)
    have h3 := dl_add (x := x.natAbs / y) (y := 1) (Nat.le_refl _) (by omega)
    omega

set_option maxHeartbeats 1000000 in
theorem zFloor_spec {w : World} {a b : Slc} {x : Int} {y : Nat} (ha : RN w a x.natAbs) (hb : RN w b y) (hy : 0 < y) (la : (digs B32 x.natAbs).length + 6 ≤ 2 ^ 45) (lb : (digs B32 y).length + 6 ≤ 2 ^ 45) :
    Calls pr surdref06_Floor_id #[.agg (c2 (zb x) a), .agg (c2 false b)] w fun e w' => Ahead w w' ∧ ∃ s t, e = .returned (.tuple #[.agg (c2 (zb (x / y)) s), .agg (c2 (zb (x % y)) t)]) ∧ RN w' s (x / (y : Int)).natAbs ∧ RN w' t (x % (y : Int)).natAbs := by
  have hfl := floor_sg (neg := zb x) (x := x.natAbs) hy
  rw [sg_zb] at hfl
  have hfa := floor_abs (x := x) hy
  have l1 : (digs B32 1).length ≤ 1 := digs_length_le two32 (by rw [Nat.pow_one, B32v]; omega)
  have lq := dl_le two32 (Nat.div_le_self x.natAbs y)
  refine surdref06_Floor_v2 (zb x) a false b w _
    (fun t33 x0 x1 y0 y1 _ _ _ _ q0 q1 w' => t33 = decide (x.natAbs % y ≠ 0 ∧ zb x = true) ∧ zb x = x0 ∧ a = x1 ∧ false = y0 ∧ b = y1 ∧ zb (sg (zb x) (x.natAbs / y)) = q0 ∧ RN w' q1 (x.natAbs / y))
    (fun x0 x1 y0 y1 _ _ _ _ q0 q1 w' => zb x = x0 ∧ a = x1 ∧ false = y0 ∧ b = y1 ∧ zb (x / y) = q0 ∧ RN w' q1 (x / (y : Int)).natAbs) ?_ ?_ ?_
  · intro w1 x1 a1
    refine Calls.mono (rDiv_spec (ha.ahead a1) (hb.ahead a1) hy (by omega) (by omega)) ?_
    rintro e w2 ⟨h2, s1, s2, rfl, r1, r2⟩
    refine ⟨_, _, rfl, h2, Calls.mono (make1_spec r1) ?_⟩
    rintro e w3 ⟨h3, rfl, r3⟩
    have en : (!(zb x == false)) = zb x := by cases zb x <;> rfl
    rw [en]
    refine ⟨_, _, rfl, h3, fun w4 x4 a4 => Calls.mono (zero_spec ((r2.ahead h3).ext x4)) ?_⟩
    rintro e w5 ⟨rfl, rfl⟩
    refine ⟨_, rfl, Ahead.refl _, br_intro (fun hz => ?_) (fun hz => ?_)⟩
    · have hz' : x.natAbs % y ≠ 0 := by simpa using hz
      exact ⟨by cases h : zb x <;> simp [hz'], rfl, rfl, rfl, rfl, zb_sg _ _, r3.ext x4⟩
    · have hz' : x.natAbs % y = 0 := by simpa using hz
      exact ⟨by simp [hz'], rfl, rfl, rfl, rfl, zb_sg _ _, r3.ext x4⟩
  · rintro t33 _ _ _ _ _ _ _ _ _ q1 w1 a1 ⟨rfl, rfl, rfl, rfl, rfl, rfl, r1⟩
    refine br_intro (fun hc => ?_) (fun hc => ?_)
    · have hc' := of_decide_eq_true hc
      rw [if_pos hc'] at hfl
      intro w6 x6 a6
      refine Calls.mono zInt1_spec ?_
      rintro e w7 ⟨h7, s4, rfl, r4⟩
      have hs := zSub_spec (w := w7) (a := q1) (b := s4) (x := sg (zb x) (x.natAbs / y)) (y := 1) (by rw [sg_abs]; exact (r1.ext x6).ahead h7) r4 (by rw [sg_abs]; omega) (by show (digs B32 1).length + 1 ≤ _; omega)
      rw [← hfl] at hs
      refine ⟨_, _, rfl, h7, Calls.mono hs ?_⟩
      rintro e w8 ⟨h8, s5, rfl, r5⟩
      exact ⟨_, _, rfl, h8, fun w13 x13 a13 => ⟨rfl, rfl, rfl, rfl, rfl, r5.ext x13⟩⟩
    · have hc' := of_decide_eq_false hc
      rw [if_neg hc', Int.sub_zero] at hfl
      refine ⟨rfl, rfl, rfl, rfl, by rw [hfl], ?_⟩
      rw [hfl, sg_abs]; exact r1
  · rintro _ _ _ _ _ _ _ _ _ q1 w1 a1 ⟨rfl, rfl, rfl, rfl, rfl, r1⟩ w9 x9 a9
    have lf := dl_floor (x := x) hy hfa
    have hm := zMul_spec (w := w9) (a := q1) (b := b) (x := x / (y : Int)) (y := (y : Int)) (r1.ext x9) (hb.ahead a9) (by show _ + (digs B32 y).length + 1 ≤ _; omega)
    rw [zb_nat] at hm
    refine Calls.mono hm ?_
    rintro e w10 ⟨h10, s6, rfl, r6⟩
    have lm : (digs B32 (x / (y : Int) * (y : Int)).natAbs).length + 1 ≤ 2 ^ 45 := by
      rw [Int.natAbs_mul]
      have := dl_mul (x / (y : Int)).natAbs y
      show (digs B32 ((x / (y : Int)).natAbs * y)).length + 1 ≤ _
      omega
    have hs := zSub_spec (w := w10) (x := x) (ha.ahead (a9.trans h10)) r6 (by omega) lm
    rw [← mod_sub] at hs
    refine ⟨_, _, rfl, h10, Calls.mono hs ?_⟩
    rintro e w11 ⟨h11, s7, rfl, r7⟩
    exact ⟨_, _, rfl, h11, fun w12 x12 a12 => ⟨_, _, rfl, (((r1.ext x9).ahead h10).ahead h11).ext x12, r7.ext x12⟩⟩

/-- The product with the divisor, and what is left: they go through. -/
theorem zTail {w : World} {a b q : Slc} {x z : Int} {y : Nat} (ha : RN w a x.natAbs) (hb : RN w b y) (hy : 0 < y) (la : (digs B32 x.natAbs).length + 6 ≤ 2 ^ 45) (lb : (digs B32 y).length + 6 ≤ 2 ^ 45)
    (hq : z.natAbs ≤ x.natAbs / y + 1) (rq : RN w q z.natAbs) {K : Bool → Slc → World → Prop} (hk : ∀ b6 s7 w2, Ahead w w2 → K b6 s7 w2) :
    Calls pr surdref06_Mul_id #[.agg (c2 (zb z) q), .agg (c2 false b)] w fun e6 w10 => ∃ b5 : Bool, ∃ s6 : Slc, e6 = .returned (Value.agg #[Value.bool b5, s6.v]) ∧ Ahead w w10 ∧
      (Calls pr surdref06_Sub_id #[.agg (c2 (zb x) a), Value.agg #[Value.bool b5, s6.v]] w10 fun e7 w11 => ∃ b6 : Bool, ∃ s7 : Slc, e7 = .returned (Value.agg #[Value.bool b6, s7.v]) ∧ Ahead w10 w11 ∧ K b6 s7 w11) := by
  have lf := dl_floor (x := x) hy hq
  have hm := zMul_spec (w := w) (a := q) (b := b) (x := z) (y := (y : Int)) rq hb (by show _ + (digs B32 y).length + 1 ≤ _; omega)
  rw [zb_nat] at hm
  refine Calls.mono hm ?_
  rintro e w10 ⟨h10, s6, rfl, r6⟩
  have lm : (digs B32 (z * (y : Int)).natAbs).length + 1 ≤ 2 ^ 45 := by
    rw [Int.natAbs_mul]
    have := dl_mul z.natAbs y
    show (digs B32 (z.natAbs * y)).length + 1 ≤ _
    omega
  refine ⟨_, _, rfl, h10, Calls.mono (zSub_spec (w := w10) (x := x) (ha.ahead h10) r6 (by omega) lm) ?_⟩
  rintro e w11 ⟨h11, s7, rfl, r7⟩
  exact ⟨_, _, rfl, h11, hk _ _ _ (h10.trans h11)⟩
theorem floor_abs1 {x : Int} {y : Nat} (hy : 0 < y) (hr : x % (y : Int) ≠ 0 ∨ True) : (x / (y : Int) + 1).natAbs ≤ x.natAbs / y + 1 := by
  have h := floor_sg (neg := zb x) (x := x.natAbs) hy
  rw [sg_zb] at h
  rw [h]
  have hx : zb x = true → x.natAbs % y = 0 → 0 < x.natAbs / y := fun h1 h2 => by
    have hne : x.natAbs ≠ 0 := by unfold zb at h1; have := of_decide_eq_true h1; omega
    have := Nat.mod_add_div x.natAbs y
    rcases Nat.eq_zero_or_pos (x.natAbs / y) with h | h
    · rw [h] at this; omega
    · exact h
  generalize x.natAbs / y = q at *
  unfold sg
  split
  · rename_i hn
    have := hx hn
    split
    · omega
    · rename_i h2
      have h3 : x.natAbs % y = 0 := by
        rcases Nat.eq_zero_or_pos (x.natAbs % y) with h | h
        · exact h
        · exact absurd ⟨by omega, hn⟩ h2
      have := hx hn h3
      omega
  · split <;> omega

/-- The answer of a quotient: what is left is not told. -/
def QRet (z : Int) (e : Ending) (w' : World) : Prop := ∃ s b t, e = .returned (.tuple #[.agg (c2 (zb z) s), .agg (c2 b t)]) ∧ RN w' s z.natAbs
theorem sgn_zb {z : Int} : sgn (zb z) z.natAbs = 0 ↔ z = 0 := by rw [sgn_zero_iff]; omega
theorem zSign_zb {w : World} {s : Slc} {z : Int} (h : RN w s z.natAbs) : Calls pr surdref06_Z_Sign_id #[.agg (c2 (zb z) s)] w fun e w' => Ahead w w' ∧ e = .returned (.int .i64 (sgn (zb z) z.natAbs)) := by
  have := zSign_spec (neg := zb z) h
  rw [zb_nD] at this
  exact this
theorem zPlus1 {w : World} {q s : Slc} {z : Int} (hq : RN w q z.natAbs) (hs : RN w s 1) (l : (digs B32 z.natAbs).length + 1 ≤ 2 ^ 45) :
    Calls pr surdref06_Add_id #[.agg (c2 (zb z) q), .agg (c2 (zb 1) s)] w fun e w' => Ahead w w' ∧ ZRet (z + 1) e w' :=
  zAdd_spec hq hs l (by
    have l1 : (digs B32 1).length ≤ 1 := digs_length_le two32 (by rw [Nat.pow_one, B32v]; omega)
    show (digs B32 1).length + 1 ≤ _; omega)
theorem dl_floor1 {x z : Int} {y : Nat} (hy : 0 < y) (hq : z.natAbs ≤ x.natAbs / y + 1) (la : (digs B32 x.natAbs).length + 6 ≤ 2 ^ 45) (lb : (digs B32 y).length + 6 ≤ 2 ^ 45) : (digs B32 z.natAbs).length + 1 ≤ 2 ^ 45 := by
  have := dl_floor (x := x) hy hq
  omega

theorem zCeil_spec {w : World} {a b : Slc} {x : Int} {y : Nat} (ha : RN w a x.natAbs) (hb : RN w b y) (hy : 0 < y) (la : (digs B32 x.natAbs).length + 6 ≤ 2 ^ 45) (lb : (digs B32 y).length + 6 ≤ 2 ^ 45) :
    Calls pr surdref06_Ceil_id #[.agg (c2 (zb x) a), .agg (c2 false b)] w fun e w' => Ahead w w' ∧ QRet (x / y + if x % y ≠ 0 then 1 else 0) e w' := by
  refine surdref06_Ceil_v2 (zb x) a false b w _ fun w1 x1 a1 => Calls.mono (zFloor_spec (ha.ahead a1) (hb.ahead a1) hy la lb) ?_
  rintro e w2 ⟨h2, s1, s2, rfl, r1, r2⟩
  refine ⟨_, _, _, _, rfl, h2, fun w3 x3 a3 => Calls.mono (zSign_zb (r2.ext x3)) ?_⟩
  rintro e w4 ⟨h4, rfl⟩
  refine ⟨_, rfl, h4, br_intro (fun hz => ?_) (fun hz => ?_)⟩
  · have hz' : x % (y : Int) = 0 := sgn_zb.1 (eq_of_beq hz)
    rw [if_neg (show ¬ x % (y : Int) ≠ 0 by omega), Int.add_zero]
    intro w5 x5 a5
    exact ⟨_, _, _, rfl, ((r1.ext x3).ahead h4).ext x5⟩
  · have hz' : x % (y : Int) ≠ 0 := fun h => by rw [sgn_zb.2 h] at hz; simp at hz
    rw [if_pos hz']
    have hf := floor_abs1 (x := x) hy (.inr trivial)
    intro w6 x6 a6
    refine Calls.mono zInt1_spec ?_
    rintro e w7 ⟨h7, s3, rfl, r3⟩
    have r17 := (((r1.ext x3).ahead h4).ext x6).ahead h7
    refine ⟨_, _, rfl, h7, Calls.mono (zPlus1 r17 r3 (dl_floor1 hy (floor_abs hy) la lb)) ?_⟩
    rintro e w8 ⟨h8, s4, rfl, r4⟩
    refine ⟨_, _, rfl, h8, fun w9 x9 a9 => zTail (ha.ahead a9) (hb.ahead a9) hy la lb hf (r4.ext x9) fun b6 s7 w11 h11 w12 x12 a12 => ?_⟩
    exact ⟨_, _, _, rfl, ((r4.ext x9).ahead h11).ext x12⟩

/-- Is the nearest one the next? -/
def nearUp (x : Int) (y : Nat) : Bool := decide (y < 2 * (x % (y : Int)).natAbs ∨ (2 * (x % (y : Int)).natAbs = y ∧ (x / (y : Int)).natAbs % 2 = 1))
theorem zNear_spec {w : World} {a b : Slc} {x : Int} {y : Nat} (ha : RN w a x.natAbs) (hb : RN w b y) (hy : 0 < y) (la : (digs B32 x.natAbs).length + 6 ≤ 2 ^ 45) (lb : (digs B32 y).length + 6 ≤ 2 ^ 45) :
    Calls pr surdref06_Near_id #[.agg (c2 (zb x) a), .agg (c2 false b)] w fun e w' => Ahead w w' ∧ QRet (x / y + if nearUp x y = true then 1 else 0) e w' := by
  have lfl := dl_floor1 hy (floor_abs (x := x) hy) la lb
  refine surdref06_Near_v2 (zb x) a false b w _
    (fun t x0 x1 y0 y1 _ _ _ _ q0 q1 w' => t = nearUp x y ∧ zb x = x0 ∧ a = x1 ∧ false = y0 ∧ b = y1 ∧ zb (x / y) = q0 ∧ RN w' q1 (x / (y : Int)).natAbs)
    (fun x0 x1 y0 y1 _ _ _ _ q0 q1 w' => zb x = x0 ∧ a = x1 ∧ false = y0 ∧ b = y1 ∧ zb (x / y + if nearUp x y = true then 1 else 0) = q0 ∧ RN w' q1 (x / (y : Int) + if nearUp x y = true then 1 else 0).natAbs) ?_ ?_ ?_
  · intro w1 x1 a1
    refine Calls.mono (zFloor_spec (ha.ahead a1) (hb.ahead a1) hy la lb) ?_
    rintro e w2 ⟨h2, s1, s2, rfl, r1, r2⟩
    refine ⟨_, _, _, _, rfl, h2, fun w3 x3 a3 => ?_⟩
    have hr0 := Int.emod_nonneg x (show (y : Int) ≠ 0 by omega)
    have hr1 := Int.emod_lt_of_pos x (show 0 < (y : Int) by omega)
    have lr : (digs B32 (x % (y : Int)).natAbs).length ≤ (digs B32 y).length := dl_le two32 (by omega)
    have lr2 : (digs B32 ((x % (y : Int)).natAbs * 2 ^ 1)).length ≤ (digs B32 y).length + 1 := len_lt_of two32 (by rw [Nat.pow_one, Nat.pow_one, B32v]; omega)
    refine Calls.mono (Shl_spec (r2.ext x3) (by omega) (by omega) (by simp; omega)) ?_
    rintro e w4 ⟨h4, s3, rfl, r3⟩
    replace r3 : RN w4 s3 ((x % (y : Int)).natAbs * 2 ^ 1) := r3
    refine ⟨_, rfl, h4, Calls.mono (Cmp_spec r3 (hb.ahead (a3.trans h4)) (by omega) (by omega)) ?_⟩
    rintro e w5 ⟨h5, rfl⟩
    have r15 := ((r1.ext x3).ahead h4).ahead h5
    have cn := cmpI_neg (m := (x % (y : Int)).natAbs * 2 ^ 1) (n := y)
    have cp := cmpI_pos (m := (x % (y : Int)).natAbs * 2 ^ 1) (n := y)
    have cz := cmpI_zero (m := (x % (y : Int)).natAbs * 2 ^ 1) (n := y)
    refine ⟨_, rfl, h5, br_intro (fun h => ?_) (fun h => br_intro (fun h0 => ?_) (fun h0 => ?_))⟩
    · have h' := cp.1 (of_decide_eq_true h)
      exact ⟨(decide_eq_true (.inl (by omega))).symm, rfl, rfl, rfl, rfl, rfl, r15⟩
    · have h' := cz.1 (eq_of_beq h0)
      have hb0 := Bit_spec (i := 0) r15 (by omega) (by omega)
      rw [Nat.pow_zero, Nat.div_one] at hb0
      refine Calls.mono hb0 ?_
      rintro e w14 ⟨rfl, rfl⟩
      refine ⟨_, rfl, Ahead.refl _, ?_, rfl, rfl, rfl, rfl, rfl, r15⟩
      unfold nearUp
      rw [Bool.eq_iff_iff]
      simp only [decide_eq_true_eq, beq_iff_eq]
      constructor
      · intro h1; exact .inr ⟨by omega, by omega⟩
      · rintro (h1 | h1) <;> omega
    · have hne : cmpI ((x % (y : Int)).natAbs * 2 ^ 1) y ≠ 0 := fun h1 => by rw [h1] at h0; simp at h0
      have h1 := of_decide_eq_false h
      refine ⟨(decide_eq_false ?_).symm, rfl, rfl, rfl, rfl, rfl, r15⟩
      rintro (h2 | h2)
      · exact h1 (cp.2 (by omega))
      · exact hne (cz.2 (by omega))
  · rintro t32 _ _ _ _ _ _ _ _ _ q1 w1 a1 ⟨rfl, rfl, rfl, rfl, rfl, rfl, r1⟩
    refine br_intro (fun hc => ?_) (fun hc => ?_)
    · rw [if_pos hc]
      intro w6 x6 a6
      refine Calls.mono zInt1_spec ?_
      rintro e w7 ⟨h7, s4, rfl, r4⟩
      refine ⟨_, _, rfl, h7, Calls.mono (zPlus1 ((r1.ext x6).ahead h7) r4 lfl) ?_⟩
      rintro e w8 ⟨h8, s5, rfl, r5⟩
      exact ⟨_, _, rfl, h8, fun w13 x13 a13 => ⟨rfl, rfl, rfl, rfl, rfl, r5.ext x13⟩⟩
    · rw [hc]
      simp only [Bool.false_eq_true, if_false, Int.add_zero]
      exact ⟨trivial, trivial, trivial, trivial, trivial, r1⟩
  · rintro _ _ _ _ _ _ _ _ _ q1 w1 a1 ⟨rfl, rfl, rfl, rfl, rfl, r1⟩ w9 x9 a9
    refine zTail (ha.ahead a9) (hb.ahead a9) hy la lb ?_ (r1.ext x9) fun b6 s7 w11 h11 w12 x12 a12 => ⟨_, _, _, rfl, ((r1.ext x9).ahead h11).ext x12⟩
    split
    · exact floor_abs1 hy (.inr trivial)
    · rw [Int.add_zero]; exact floor_abs hy

end Dy
end Go.Proofs.YthhbjhdnaopcnaaDoor
