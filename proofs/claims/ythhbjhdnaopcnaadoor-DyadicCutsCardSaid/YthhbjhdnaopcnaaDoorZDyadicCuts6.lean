/- What the law leans on, part 6. No condition. -/
import Derived.Test.YthhbjhdnaopcnaaDoorZDyadicCuts5
namespace Go.Proofs.YthhbjhdnaopcnaaDoor
open Go Go.RowKit Eng Sp Dg L2
set_option linter.unusedVariables false
set_option linter.unusedSimpArgs false
set_option maxRecDepth 100000
namespace Dy
open _root_.Go.Proofs.YthhbjhdnaopcnaaDoor.Nat (OwnNil Num Num.bl OwnNil.mono OwnNil.ext OwnNil.rd OwnNil.ahead OwnNil.nil digs_len_bl num_of Yes Norm_spec len_num)
open _root_.Go.Proofs.YthhbjhdnaopcnaaDoor.Ref (RN RN.nil RN.ext RN.ahead Len_spec Shl_spec Int_spec Kept_spec Lent Lent.ahead Lent.ext Lent.part Lent.whole len_mono bl_len32 len_lt_of own_step len32 Bk old_new)
open Sb

theorem bl_shl {x n : Nat} (h : x ≠ 0) : bl (x * 2 ^ n) = n + bl x := by
  have := bl_add_pow (t := 0) (k := n) h (Nat.pow_pos (by omega))
  rw [Nat.zero_add, Nat.mul_comm] at this
  exact this
theorem digs_len_bl32 {N m : Nat} (h : bl N ≤ 32 * m) : (digs B32 N).length ≤ m := digs_length_le two32 (by rw [b32_pow]; exact bl_le_iff.1 h)

theorem wnorm_spec {w : World} {neg : Bool} {s : Slc} {x : Nat} (h : Num w s x) : Calls pr whole_norm_id #[.agg (c2 neg s)] w fun e w' => Ahead w w' ∧ ∃ s', e = .returned (.agg (c2 (nD neg x) s')) ∧ OwnNil w.heap.size w' s' (digs B64 x) := by
  obtain ⟨l, r, hl, ol, rfl⟩ := h
  refine whole_norm_v2 neg s w _ fun w1 x1 a1 => Calls.mono (Norm_spec (r.ahead a1) hl ol) ?_
  rintro e w2 ⟨h2, s1, rfl, o1⟩
  have hn : s1.n = (digs B64 (val B64 l)).length := by rw [o1.rd.n, nn_length]
  refine ⟨_, rfl, h2, br_intro (fun hb => ?_) (fun hb => ?_)⟩
  · intro w3 x3 a3
    refine ⟨s1, ?_, (o1.ext x3).mono a1.size⟩
    congr 3
    rw [hb, hn]
    by_cases h0 : val B64 l = 0
    · rw [h0, digs_zero]; rfl
    · have := List.length_pos_iff.2 (digs_ne_nil two64 h0)
      rw [nD_ne h0]
      simp; omega
  · intro w3 x3 a3
    refine ⟨s1, ?_, (o1.ext x3).mono a1.size⟩
    rw [hb]; rfl
/-- A whole number as the program answers it. -/
def WOut (w : World) (code : Int) (neg : Bool) (q : Nat) (e : Ending) (w' : World) : Prop := ∃ s, e = .returned (.tuple #[.agg (c2 (if code = 0 then nD neg q else false) s), .int .i64 code]) ∧ OwnNil w.heap.size w' s (if code = 0 then digs B64 q else [])
def bC (q : Nat) : Int := if 67108864 < bl q then 3 else 0
theorem fits_spec {w : World} {neg : Bool} {s : Slc} {x : Nat} (h : Num w s x) : Calls pr whole_fits_id #[.agg (c2 neg s)] w fun e w' => Ahead w w' ∧ WOut w (bC x) neg x e w' := by
  refine whole_fits_v2 neg s w _ fun w1 x1 a1 => Calls.mono (len_num (h.ahead a1)) ?_
  rintro e w2 ⟨rfl, rfl⟩
  refine ⟨_, rfl, Ahead.refl _, br_intro (fun hb => ?_) (fun hb => ?_)⟩
  · have hb' : 67108864 < bl x := by have := of_decide_eq_true hb; omega
    have hc : bC x = 3 := if_pos hb'
    rw [hc]
    exact fun w3 x3 a3 => ⟨_, rfl, OwnNil.nil⟩
  · have hb' : ¬ 67108864 < bl x := by have := of_decide_eq_false hb; omega
    have hc : bC x = 0 := if_neg hb'
    rw [hc]
    refine Calls.mono (wnorm_spec (h.ahead a1)) ?_
    rintro e w4 ⟨h4, s1, rfl, o1⟩
    exact ⟨_, _, rfl, h4, fun w5 x5 a5 => ⟨s1, rfl, (o1.ext x5).mono a1.size⟩⟩
theorem wMake_spec {w : World} {neg : Bool} {s : Slc} {x : Nat} (h : Num w s x) : Calls pr whole_Make_id #[.bool neg, s.v] w fun e w' => Ahead w w' ∧ WOut w (bC x) neg x e w' := by
  refine whole_Make_v2 neg s w _ fun w1 x1 a1 => Calls.mono (fits_spec (h.ahead a1)) ?_
  rintro e w2 ⟨h2, s1, rfl, o1⟩
  exact ⟨_, _, _, rfl, h2, fun w3 x3 a3 => ⟨s1, rfl, (o1.ext x3).mono a1.size⟩⟩

/-- Where a number is cut to so many bits. -/
def cpos (n : Nat) (e bits : Int) : Int := if (bl n : Int) ≤ bits then e else e + bl n - bits
theorem rX_id {neg : Bool} {n : Nat} {e m : Int} : rX neg n e e m = n := if_pos (.inr (Int.le_refl _))
theorem rE_id {n : Nat} {e : Int} : rE n e e = e := if_pos (.inr (Int.le_refl _))
def ctC (neg : Bool) (x : Nat) (e bits m : Int) : Int := if wi e then if bits < 1 then 1 else if okM m then tC (rX (nD neg x) (od x) (eD x e) (cpos (od x) (eD x e) bits) m) (rE (od x) (eD x e) (cpos (od x) (eD x e) bits)) else 81 else 80
theorem Cut_spec {w : World} {neg : Bool} {s : Slc} {x : Nat} {e bits m : Int} (hT : Tab w) (h : Num w s x) (hl : (digs B64 x).length + 1 ≤ 2 ^ 44) :
    Calls pr dyadic_Cut_id #[.agg (c3 neg s e), .int .i64 bits, .int .i64 m] w (DOut w (ctC neg x e bits m) (nD neg x) (rX (nD neg x) (od x) (eD x e) (cpos (od x) (eD x e) bits) m) (rE (od x) (eD x e) (cpos (od x) (eD x e) bits))) := by
  refine Calls.mono (dyadic_Cut_v2 neg s e bits m w (fun en w' => Ahead w w' → DOut w (ctC neg x e bits m) (nD neg x) (rX (nD neg x) (od x) (eD x e) (cpos (od x) (eD x e) bits) m) (rE (od x) (eD x e) (cpos (od x) (eD x e) bits)) en w') ?_) fun en w' ⟨h1, h2⟩ => h2 h1
  intro w1 x1 a1
  refine Calls.mono (read_spec (hT.ahead a1) (h.ahead a1)) ?_
  rintro en w2 ⟨h2, s2, rfl, o2⟩
  have a2 := a1.trans h2
  have hbl := Num.bl h
  have hbo := bl_mono (od_le x)
  refine ⟨_, _, _, _, rfl, h2, br_intro (fun hw => ?_) (fun hw => br_intro (fun hb => ?_) (fun hb => ?_))⟩
  · have hw' : ¬ wi e := fun h => by rw [if_pos h] at hw; simp at hw
    rw [if_neg hw']
    exact fun w3 x3 a3 _ => DOut.refused a3 (if_neg hw') (by omega)
  · have hw' : wi e := by
      by_cases h : wi e
      · exact h
      · rw [if_neg h] at hw; simp at hw
    have hb' := of_decide_eq_true hb
    exact fun w3 x3 a3 _ => DOut.refused a3 (by rw [ctC, if_pos hw', if_pos hb']) (by omega)
  · have hw' : wi e := by
      by_cases h : wi e
      · exact h
      · rw [if_neg h] at hw; simp at hw
    have hb' := of_decide_eq_false hb
    rw [if_pos hw'] at o2
    rw [if_pos hw', if_pos hw']
    intro w5 x5 a5
    refine Calls.mono direction_spec ?_
    rintro en w6 ⟨rfl, rfl⟩
    refine ⟨_, rfl, Ahead.refl _, br_intro (fun hm => ?_) (fun hm => ?_)⟩
    · have hm' : ¬ okM m := fun hh => by unfold okM at hh; rw [decide_eq_true hh] at hm; simp at hm
      exact fun w3 x3 a3 _ => DOut.refused a3 (by rw [ctC, if_pos hw', if_neg hb', if_neg hm']) (by omega)
    · have hm' : okM m := by
        by_cases hh : okM m
        · exact hh
        · unfold okM at hh; rw [decide_eq_false hh] at hm; simp at hm
      have hc : ctC neg x e bits m = tC (rX (nD neg x) (od x) (eD x e) (cpos (od x) (eD x e) bits) m) (rE (od x) (eD x e) (cpos (od x) (eD x e) bits)) := by rw [ctC, if_pos hw', if_neg hb', if_pos hm']
      rw [hc]
      have o5 := o2.ext x5
      have lo : (digs B64 (od x)).length + 1 ≤ 2 ^ 44 := Nat.le_trans (Nat.add_le_add_right (len_mono two64 (od_le x)) 1) hl
      have n5 : Num w6 s2 (od x) := ⟨_, o5.rd, by omega, ok_digs two64 _, val_digs two64 _⟩
      have hef := eD_far h hw'
      refine Calls.mono (part_length_spec n5) ?_
      rintro en w8 ⟨h8, rfl⟩
      have a8 := a5.trans h8
      refine ⟨_, rfl, h8, br_intro (fun hg => ?_) (fun hg => ?_)⟩
      · have hg' : (bl (od x) : Int) ≤ bits := of_decide_eq_true hg
        rw [cpos, if_pos hg', rX_id, rE_id]
        refine Calls.mono (told_spec (hT.ahead a8) (n5.ahead h8) (by omega)) ?_
        rintro en w9 ⟨h9, s9, rfl, o9⟩
        exact ⟨_, _, _, _, rfl, h9, fun w3 x3 a3 _ => ⟨a3, s9, rfl, (o9.ext x3).mono a8.size⟩⟩
      · have hg' : ¬ (bl (od x) : Int) ≤ bits := fun h => of_decide_eq_false hg h
        rw [cpos, if_neg hg']
        intro w11 x11 a11
        refine Calls.mono (number_top_spec ((n5.ahead h8).ext x11) (by omega)) ?_
        rintro en w12 ⟨h12, rfl⟩
        have e1 : IntKind.i64.wrap (eD x e + bl (od x) - 1 - IntKind.i64.wrap (bits - 1)) = eD x e + bl (od x) - bits := by
          rw [wrap_i64 (x := bits - 1) (by omega) (by omega), wrap_i64 (by omega) (by omega)]; omega
        refine ⟨_, rfl, h12, ?_⟩
        rw [e1]
        refine Calls.mono (rounded_spec (hT.ahead (a11.trans h12)) (((o5.ahead h8).ext x11).ahead h12).rd lo (by omega) (by omega)) ?_
        rintro en w13 ⟨h13, s9, rfl, o9⟩
        exact ⟨_, _, _, _, rfl, h13, fun w3 x3 a3 _ => ⟨a3, s9, rfl, (o9.ext x3).mono (a11.trans h12).size⟩⟩

theorem stq_bl {neg : Bool} {n : Nat} {e m : Int} (hn : n ≠ 0) (h : 67108864 ≤ e + bl n - 1) : 67108864 < bl (stq neg n e 0 m) := by
  unfold stq
  split
  · rename_i hc
    have he : 0 ≤ e := by omega
    rw [bl_shl hn]; omega
  · rename_i hc
    have he : e < 0 := by omega
    have h1 : n / 2 ^ (0 - e).toNat ≤ rq neg n (0 - e).toNat m := Nat.le_add_right _ _
    have h2 : bl n ≤ bl (n / 2 ^ (0 - e).toNat) + (0 - e).toNat := by
      have hd := Nat.mod_add_div n (2 ^ (0 - e).toNat)
      have hp : 0 < 2 ^ (0 - e).toNat := Nat.pow_pos (by omega)
      have hm := Nat.mod_lt n hp
      refine bl_le ?_
      rw [Nat.pow_add]
      have h3 := lt_bl (n / 2 ^ (0 - e).toNat)
      have h4 : (n / 2 ^ (0 - e).toNat + 1) * 2 ^ (0 - e).toNat ≤ 2 ^ bl (n / 2 ^ (0 - e).toNat) * 2 ^ (0 - e).toNat := Nat.mul_le_mul_right _ h3
      rw [Nat.succ_mul, Nat.mul_comm (n / 2 ^ (0 - e).toNat)] at h4
      omega
    have h3 := bl_mono h1
    omega
def whC (neg : Bool) (x : Nat) (e m : Int) : Int := if wi e then if okM m then bC (stq (nD neg x) (od x) (eD x e) 0 m) else 81 else 80
theorem Whole_spec {w : World} {neg : Bool} {s : Slc} {x : Nat} {e m : Int} (hT : Tab w) (h : Num w s x) (hl : (digs B64 x).length + 1 ≤ 2 ^ 44) :
    Calls pr dyadic_Whole_id #[.agg (c3 neg s e), .int .i64 m] w fun en w' => Ahead w w' ∧ WOut w (whC neg x e m) (nD neg x) (stq (nD neg x) (od x) (eD x e) 0 m) en w' := by
  refine dyadic_Whole_v2 neg s e m w _ fun w1 x1 a1 => Calls.mono (read_spec (hT.ahead a1) (h.ahead a1)) ?_
  rintro en w2 ⟨h2, s2, rfl, o2⟩
  have a2 := a1.trans h2
  have hbl := Num.bl h
  have hbo := bl_mono (od_le x)
  have ref : ∀ {c : Int} {w3 : World}, whC neg x e m = c → c ≠ 0 → WOut w (whC neg x e m) (nD neg x) (stq (nD neg x) (od x) (eD x e) 0 m) (.returned (.tuple #[.agg (c2 false ⟨none, 0, 0⟩), .int .i64 c])) w3 := by
    intro c w3 hc h0
    rw [hc]
    exact ⟨_, by rw [if_neg h0], by rw [if_neg h0]; exact OwnNil.nil⟩
  refine ⟨_, _, _, _, rfl, h2, br_intro (fun hw => ?_) (fun hw => ?_)⟩
  · have hw' : ¬ wi e := fun h => by rw [if_pos h] at hw; simp at hw
    rw [if_neg hw']
    exact fun w3 x3 a3 => ref (if_neg hw') (by omega)
  · have hw' : wi e := by
      by_cases h : wi e
      · exact h
      · rw [if_neg h] at hw; simp at hw
    rw [if_pos hw'] at o2
    rw [if_pos hw', if_pos hw']
    intro w5 x5 a5
    refine Calls.mono direction_spec ?_
    rintro en w6 ⟨rfl, rfl⟩
    refine ⟨_, rfl, Ahead.refl _, br_intro (fun hm => ?_) (fun hm => ?_)⟩
    · have hm' : ¬ okM m := fun hh => by unfold okM at hh; rw [decide_eq_true hh] at hm; simp at hm
      exact fun w3 x3 a3 => ref (by rw [whC, if_pos hw', if_neg hm']) (by omega)
    · have hm' : okM m := by
        by_cases hh : okM m
        · exact hh
        · unfold okM at hh; rw [decide_eq_false hh] at hm; simp at hm
      have hc : whC neg x e m = bC (stq (nD neg x) (od x) (eD x e) 0 m) := by rw [whC, if_pos hw', if_pos hm']
      have o5 := o2.ext x5
      have lo : (digs B64 (od x)).length + 1 ≤ 2 ^ 44 := Nat.le_trans (Nat.add_le_add_right (len_mono two64 (od_le x)) 1) hl
      have n5 : Num w6 s2 (od x) := ⟨_, o5.rd, by omega, ok_digs two64 _, val_digs two64 _⟩
      have hef := eD_far h hw'
      -- steps, and Make
      have stp : ∀ (w7 : World), Ahead w6 w7 → (od x ≠ 0 → eD x e + bl (od x) - 1 < 67108864) → Calls pr dyadic_steps_id #[.agg (c3 (nD neg x) s2 (eD x e)), .int .i64 0, .int .i64 m] w7 fun e5 w10 => ∃ b3 : Bool, ∃ s3 : Slc, e5 = .returned (Value.agg #[Value.bool b3, s3.v]) ∧ Ahead w7 w10 ∧
          (∀ w11, Ext w10 w11 → Ahead w w11 → (Calls pr whole_Make_id #[Value.bool b3, s3.v] w11 fun e6 w12 => ∃ b4 : Bool, ∃ s4 : Slc, ∃ x5 : Int, e6 = .returned (Value.tuple #[Value.agg #[Value.bool b4, s4.v], Value.int .i64 x5]) ∧ Ahead w11 w12 ∧
            (∀ w13, Ext w12 w13 → Ahead w w13 → WOut w (whC neg x e m) (nD neg x) (stq (nD neg x) (od x) (eD x e) 0 m) (.returned (Value.tuple #[Value.agg #[Value.bool b4, s4.v], Value.int .i64 x5])) w13))) := by
        intro w7 h7 htop
        have hsz : od x = 0 ∨ 0 ≤ eD x e → (digs B64 (od x)).length + (eD x e - 0).toNat / 64 + 1 ≤ 2 ^ 44 := by
          intro hc
          by_cases h0 : od x = 0
          · have hx0 := od_zero_iff.1 h0
            rw [hx0, od_zero, digs_zero, eD_zero]; simp
          · have ht := htop h0
            have := digs_len_bl (N := od x) (m := 2 ^ 21) (by omega)
            omega
        refine Calls.mono (steps_spec (hT.ahead (a5.trans h7)) (o5.ahead h7).rd lo (by omega) (by omega) hsz) ?_
        rintro en w10 ⟨h10, s3, rfl, o3⟩
        refine ⟨_, _, rfl, h10, fun w11 x11 a11 => ?_⟩
        have o11 := o3.ext x11
        have lq : (digs B64 (stq (nD neg x) (od x) (eD x e) 0 m)).length ≤ 2 ^ 44 := by
          by_cases hq : od x = 0 ∨ 0 ≤ eD x e
          · have := hsz hq
            rw [stq, if_pos hq]
            by_cases h0 : od x = 0
            · rw [h0, Nat.zero_mul, digs_zero]; simp
            · have ht := htop h0
              have hb := bl_shl (x := od x) (n := (eD x e - 0).toNat) h0
              have := digs_len_bl (N := od x * 2 ^ (eD x e - 0).toNat) (m := 2 ^ 21) (by omega)
              omega
          · rw [stq, if_neg hq]
            have h1 : rq (nD neg x) (od x) (0 - eD x e).toNat m ≤ od x / 2 ^ (0 - eD x e).toNat + 1 := by unfold rq; split <;> omega
            have h0 : od x ≠ 0 := fun h => hq (.inl h)
            have h2 : rq (nD neg x) (od x) (0 - eD x e).toNat m ≤ od x := by
              have hp : 2 ≤ 2 ^ (0 - eD x e).toNat := by
                obtain ⟨g, hg⟩ : ∃ g, (0 - eD x e).toNat = g + 1 := ⟨(0 - eD x e).toNat - 1, by omega⟩
                rw [hg, Nat.pow_succ]
                have : 0 < 2 ^ g := Nat.pow_pos (by omega)
                omega
              have := Nat.div_lt_self (show 0 < od x by omega) hp
              omega
            exact Nat.le_trans (len_mono two64 h2) (by omega)
        refine Calls.mono (wMake_spec (neg := nD neg x) (s := s3) (x := stq (nD neg x) (od x) (eD x e) 0 m) ⟨_, o11.rd, lq, ok_digs two64 _, val_digs two64 _⟩) ?_
        rintro en w12 ⟨h12, s4, rfl, o4⟩
        refine ⟨_, _, _, rfl, h12, fun w13 x13 a13 => ?_⟩
        rw [hc]
        exact ⟨s4, rfl, (o4.ext x13).mono a11.size⟩
      refine Calls.mono (part_sign_spec n5) ?_
      rintro en w7 ⟨h7, rfl⟩
      refine ⟨_, rfl, h7, br_intro (fun hs => ?_) (fun hs => ?_)⟩
      · have hx : od x ≠ 0 := fun h0 => by rw [h0] at hs; simp [sgn] at hs
        refine Calls.mono (number_top_spec (n5.ahead h7) (by omega)) ?_
        rintro en w8 ⟨h8, rfl⟩
        refine ⟨_, rfl, h8, br_intro (fun hg => ?_) (fun hg => ?_)⟩
        · have hg' := of_decide_eq_true hg
          refine fun w3 x3 a3 => ref ?_ (by omega)
          rw [hc, bC, if_pos (stq_bl hx (by omega))]
        · have hg' := of_decide_eq_false hg
          exact stp _ (h7.trans h8) fun _ => by omega
      · have hx : od x = 0 := by
          have : sgn (nD neg x) (od x) = 0 := by simpa using hs
          exact sgn_zero_iff.1 this
        exact stp _ h7 fun h => absurd hx h

theorem dCut_spec {w : World} {neg : Bool} {s : Slc} {n : Nat} {e bits m : Int} (r : RN w s n) (hneg : nD neg n = neg) (hod : od n = n) (h0 : n = 0 → e = 0) (hm : okM m) (hb : 1 ≤ bits ∧ bits ≤ 9223372036854775807) (hl : (digs B32 n).length + 8 ≤ 2 ^ 45)
    (he : -1152921504606846976 ≤ e ∧ e ≤ 1152921504606846976) :
    Calls pr surdref08_Cut_id #[.agg (c3 neg s e), .int .i64 bits, .int .i64 m] w fun en w' => Ahead w w' ∧ ∃ s', en = .returned (.agg (c3 (nD neg (rX neg n e (cpos n e bits) m)) s' (eD (rX neg n e (cpos n e bits) m) (rE n e (cpos n e bits))))) ∧ RN w' s' (od (rX neg n e (cpos n e bits) m)) := by
  have hbl := bl_len32 (ok_digs two32 n)
  rw [val_digs two32] at hbl
  refine surdref08_Cut_v2 neg s e bits m w _ fun w1 x1 a1 => Calls.mono (Len_spec (r.ahead a1) (by omega)) ?_
  rintro en w2 ⟨rfl, rfl⟩
  refine ⟨_, rfl, Ahead.refl _, br_intro (fun hg => ?_) (fun hg => ?_)⟩
  · have hg' : (bl n : Int) ≤ bits := of_decide_eq_true hg
    rw [cpos, if_pos hg', rX_id, rE_id, hneg, hod]
    have : eD n e = e := by
      by_cases hn : n = 0
      · rw [h0 hn, hn, eD_zero]
      · have h1 := od_odd hn
        rw [hod] at h1
        rw [eD, if_neg hn, tz_odd h1]; omega
    rw [this]
    exact fun w3 x3 a3 => ⟨s, rfl, r.ahead a3⟩
  · have hg' : ¬ (bl n : Int) ≤ bits := fun h => of_decide_eq_false hg h
    rw [cpos, if_neg hg']
    intro w4 x4 a4
    refine Calls.mono (dTop_spec (r.ahead a4) (by omega) (by omega)) ?_
    rintro en w5 ⟨h5, rfl⟩
    have e1 : IntKind.i64.wrap (IntKind.i64.wrap ((bl n : Int) - 1 + e - bits) + 1) = e + bl n - bits := by
      rw [wrap_i64 (x := (bl n : Int) - 1 + e - bits) (by omega) (by omega), wrap_i64 (by omega) (by omega)]; omega
    refine ⟨_, rfl, h5, ?_⟩
    rw [e1]
    refine Calls.mono (dRound_spec (r.ahead (a4.trans h5)) hneg hod h0 hm hl (by omega) (by omega)) ?_
    rintro en w6 ⟨h6, s1, rfl, r1⟩
    exact ⟨_, _, _, rfl, h6, fun w7 x7 a7 => ⟨s1, rfl, r1.ext x7⟩⟩

theorem zShift_spec {w : World} {s : Slc} {z n : Int} (r : RN w s z.natAbs) (hn : 0 ≤ n) (h1 : n ≤ 9223372036854775807) (hl : (digs B32 z.natAbs).length + n.toNat / 32 + 1 ≤ 2 ^ 45) :
    Calls pr surdref06_Shift_id #[.agg (c2 (zb z) s), .int .i64 n] w fun e w' => Ahead w w' ∧ ZRet (z * 2 ^ n.toNat) e w' := by
  refine surdref06_Shift_v2 (zb z) s n w _ (br_true (decide_eq_true hn) fun w1 x1 a1 => Calls.mono (Shl_spec (r.ahead a1) hn h1 hl) ?_)
  rintro e w2 ⟨h2, s1, rfl, r1⟩
  refine ⟨_, rfl, h2, Calls.mono (make1_spec r1) ?_⟩
  rintro e w3 ⟨h3, rfl, r3⟩
  have es : sg (zb z) (z.natAbs * 2 ^ n.toNat) = z * 2 ^ n.toNat := by
    have h1 := sg_zb z
    conv => rhs; rw [← h1]
    unfold sg
    split
    · rw [Int.neg_mul]; push_cast; rfl
    · push_cast; rfl
  refine ⟨_, _, rfl, h3, fun w4 x4 a4 => ⟨s1, ?_, ?_⟩⟩
  · rw [← es, zb_sg]
  · rw [← es, sg_abs]; exact r3.ext x4

theorem stq_rX {neg : Bool} {n : Nat} {e m : Int} : stq neg n e 0 m = rX neg n e 0 m * 2 ^ (rE n e 0).toNat := by
  unfold stq rX rE
  split
  · simp
  · simp
theorem od_eD {X : Nat} {E : Int} (hE : 0 ≤ E) : od X * 2 ^ (eD X E).toNat = X * 2 ^ E.toNat := by
  by_cases hX : X = 0
  · subst hX; rw [od_zero]; simp
  · rw [eD, if_neg hX, show (E + (tz X : Int)).toNat = tz X + E.toNat by omega, Nat.pow_add, ← Nat.mul_assoc]
    congr 1
    rw [Nat.mul_comm]; exact od_mul X
theorem bl_od_eD {X : Nat} {E : Int} (hE : 0 ≤ E) : (bl (od X) : Int) + eD X E = bl (X * 2 ^ E.toNat) := by
  by_cases hX : X = 0
  · subst hX; rw [od_zero, bl_zero, eD_zero, Nat.zero_mul, bl_zero]; rfl
  · have h1 := bl_shl (x := od X) (n := (eD X E).toNat) (od_ne hX)
    rw [od_eD hE] at h1
    have h2 : 0 ≤ eD X E := by unfold eD; split <;> omega
    omega
theorem dWhole_spec {w : World} {neg : Bool} {s : Slc} {n : Nat} {e m : Int} (r : RN w s n) (hneg : nD neg n = neg) (hod : od n = n) (h0 : n = 0 → e = 0) (hm : okM m) (hl : (digs B32 n).length + 8 ≤ 2 ^ 45)
    (he : -1152921504606846976 ≤ e ∧ e ≤ 1152921504606846976) :
    Calls pr surdref08_Whole_id #[.agg (c3 neg s e), .int .i64 m] w fun en w' => Ahead w w' ∧ ∃ s', en = .returned (.tuple #[.agg (c2 (if bC (stq neg n e 0 m) = 0 then nD neg (stq neg n e 0 m) else false) s'), .bool (decide (bC (stq neg n e 0 m) = 0))]) ∧ (bC (stq neg n e 0 m) = 0 → RN w' s' (stq neg n e 0 m)) := by
  have hbl := bl_len32 (ok_digs two32 n)
  rw [val_digs two32] at hbl
  have hle : rX neg n e 0 m ≤ n + 1 := by
    have := Nat.div_le_self n (2 ^ (0 - e).toNat)
    unfold rX rq; split <;> (try split) <;> omega
  have hE : 0 ≤ rE n e 0 := by
    unfold rE
    split
    · rename_i hc
      rcases hc with hc | hc
      · rw [h0 hc]; omega
      · exact hc
    · omega
  have hE1 : rE n e 0 ≤ 1152921504606846976 := by unfold rE; split <;> omega
  refine surdref08_Whole_v2 neg s e m w _ fun w1 x1 a1 => Calls.mono (dRound_spec (r.ahead a1) hneg hod h0 hm hl (by omega) (by omega)) ?_
  rw [stq_rX]
  generalize rX neg n e 0 m = X at *
  generalize rE n e 0 = E at *
  rintro en w2 ⟨h2, s1, rfl, r1⟩
  have lX : (digs B32 (od X)).length ≤ 2 ^ 45 := by
    refine Nat.le_trans (dl_le two32 (Nat.le_trans (od_le X) hle)) ?_
    have := dl_add (x := n) (y := 1) (k := 2 ^ 45 - 1) (by omega) (by
      have : (digs B32 1).length ≤ 1 := digs_length_le two32 (by rw [Nat.pow_one, B32v]; omega)
      omega)
    omega
  have hbX := bl_len32 (ok_digs two32 (od X))
  rw [val_digs two32] at hbX
  have htz : tz X ≤ bl X := tz_le X
  have hblX : bl X ≤ 2 ^ 51 := by
    have h3 := bl_mono hle
    have h4 : bl (n + 1) ≤ bl n + 1 := bl_le (by have := lt_bl n; rw [Nat.pow_succ]; omega)
    omega
  have hsum := bl_od_eD (X := X) hE
  have heD : 0 ≤ eD X E ∧ eD X E ≤ 1200000000000000000 := by unfold eD; split <;> omega
  have htel := od_eD (X := X) hE
  refine ⟨_, _, _, rfl, h2, fun w3 x3 a3 => Calls.mono (Len_spec (r1.ext x3) (by omega)) ?_⟩
  rintro en w4 ⟨rfl, rfl⟩
  refine ⟨_, rfl, Ahead.refl _, ?_⟩
  rw [wrap_i64 (by omega) (by omega), hsum]
  refine br_intro (fun hg => ?_) (fun hg => ?_)
  · have hg' := of_decide_eq_true hg
    have hc : bC (X * 2 ^ E.toNat) = 3 := if_pos (by omega)
    rw [hc]
    exact fun w5 x5 a5 => ⟨_, rfl, fun h => by omega⟩
  · have hg' := of_decide_eq_false hg
    have hc : bC (X * 2 ^ E.toNat) = 0 := if_neg (by omega)
    rw [hc, if_pos rfl]
    have hd := digs_len_bl32 (N := od X) (m := 2 ^ 22) (by omega)
    have hz := zShift_spec (z := sg (nD neg X) (od X)) (n := eD X E) (w := w4) (s := s1) (by rw [sg_abs]; exact r1.ext x3) heD.1 (by omega) (by rw [sg_abs]; omega)
    have ez : sg (nD neg X) (od X) * 2 ^ (eD X E).toNat = sg neg (X * 2 ^ E.toNat) := by
      rw [← htel]
      by_cases hX : X = 0
      · subst hX; rw [od_zero]; simp [sg]
      · rw [nD_ne hX]
        unfold sg
        split
        · rw [Int.neg_mul]; push_cast; rfl
        · push_cast; rfl
    rw [ez, zb_sg, nD_od] at hz
    refine Calls.mono hz ?_
    rintro en w6 ⟨h6, s2, rfl, r2⟩
    rw [sg_abs] at r2
    rw [zb_sg]
    exact ⟨_, _, rfl, h6, fun w7 x7 a7 => ⟨s2, rfl, fun _ => r2.ext x7⟩⟩

end Dy
end Go.Proofs.YthhbjhdnaopcnaaDoor
namespace Go.Proofs.YthhbjhdnaopcnaaDoor
open Go Go.RowKit Eng Sp Dg L2
set_option linter.unusedVariables false
set_option linter.unusedSimpArgs false
set_option maxRecDepth 100000
namespace Dy
open _root_.Go.Proofs.YthhbjhdnaopcnaaDoor.Nat (OwnNil Num Num.bl OwnNil.mono OwnNil.ext OwnNil.rd OwnNil.ahead OwnNil.nil digs_len_bl num_of Yes)
open _root_.Go.Proofs.YthhbjhdnaopcnaaDoor.Ref (RN RN.nil RN.ext RN.ahead Kept_spec Lent Lent.ahead Lent.ext Lent.part Lent.whole len_mono own_step len32 Bk old_new)
open Sb

/-- A whole number of the program (code g, sign b5, limbs s5) beside the document's (f, z). -/
structure BesideW (bs : Nat) (w' : World) (g f : Int) (b5 : Bool) (s5 : Slc) (bz : Bool) (sz : Slc) (q : Nat) (neg : Bool) : Prop where
  o : OwnNil bs w' s5 (if g = 0 then digs B64 q else [])
  bad : f ≠ 0 → g = f ∧ b5 = false
  good : f = 0 → g = 0 ∧ b5 = neg ∧ bz = neg ∧ RN w' sz q ∧ bl q ≤ 67108864
theorem BesideW.ext {bs : Nat} {w w' : World} {g f : Int} {b5 : Bool} {s5 : Slc} {bz : Bool} {sz : Slc} {q : Nat} {neg : Bool} (h : BesideW bs w g f b5 s5 bz sz q neg) (x : Ext w w') : BesideW bs w' g f b5 s5 bz sz q neg :=
  ⟨h.o.ext x, h.bad, fun hf => by obtain ⟨h1, h2, h3, h4, h5⟩ := h.good hf; exact ⟨h1, h2, h3, h4.ext x, h5⟩⟩
theorem BesideW.len {bs : Nat} {w : World} {g f : Int} {b5 : Bool} {s5 : Slc} {bz : Bool} {sz : Slc} {q : Nat} {neg : Bool} (h : BesideW bs w g f b5 s5 bz sz q neg) : ((if g = 0 then digs B64 q else []).length + 5) * 8 ≤ 2 ^ 47 := by
  by_cases hf : f = 0
  · obtain ⟨h1, _, _, _, h5⟩ := h.good hf
    rw [if_pos h1]
    have := digs_len_bl (N := q) (m := 2 ^ 20) (by omega)
    omega
  · obtain ⟨h1, _⟩ := h.bad hf
    rw [if_neg (by omega)]; simp
theorem Beside.base {bs b2 : Nat} {w : World} {c f : Int} {b4 : Bool} {s4 : Slc} {x3 : Int} {b : Bool} {s5 : Slc} {x5 : Int} {N : Nat} {E : Int} {neg : Bool} (h : Beside bs w c f b4 s4 x3 b s5 x5 N E neg) (hb : b2 ≤ bs) : Beside b2 w c f b4 s4 x3 b s5 x5 N E neg :=
  ⟨h.r, h.len, h.code, h.wn, h.we, h.pn, h.pe, h.o.mono hb, h.len64⟩
theorem sgn_le {n : Nat} : (digs B32 (n + 1)).length ≤ (digs B32 n).length + 1 := by
  by_cases h : n = 0
  · subst h
    exact Nat.le_trans (digs_length_le two32 (m := 1) (by rw [B32v]; omega)) (by omega)
  · refine dl_add (Nat.le_refl _) ?_
    have h1 : (digs B32 1).length ≤ 1 := digs_length_le two32 (by rw [Nat.pow_one, B32v]; omega)
    have := List.length_pos_iff.2 (digs_ne_nil two32 h)
    omega
theorem rX_le {neg : Bool} {n : Nat} {e pos m : Int} : rX neg n e pos m ≤ n + 1 := by
  have := Nat.div_le_self n (2 ^ (pos - e).toNat)
  unfold rX rq; split <;> (try split) <;> omega

/-- What both answers' makers leave. -/
def CutCx (w : World) (s0 : Slc) (l0 : List Nat) (t7 : Slc) (c f g h : Int) (s' : Slc) (b4 : Bool) (s4 : Slc) (x3 : Int) (b5 : Bool) (s5 : Slc) (b : Bool) (s : Slc) (x : Int) (bz : Bool) (sz : Slc) (w' : World) : Prop :=
  s0 = s' ∧ ∃ (bs : Nat) (t : Slc) (N : Nat) (E : Int) (neg : Bool) (q : Nat) (ng : Bool), bs ≤ w'.heap.size ∧ w.heap.size ≤ bs ∧ (∀ k, Bk t7 k → k < bs) ∧ Lent w.heap.size w' t7 t l0 ∧
    Beside bs w' c f b4 s4 x3 b s x N E neg ∧ BesideW bs w' g h b5 s5 bz sz q ng ∧ ∀ k, Bk s4 k → ¬ Bk s5 k
theorem CutCx.ext {w : World} {s0 : Slc} {l0 : List Nat} {t7 : Slc} {c f g h : Int} {s' : Slc} {b4 : Bool} {s4 : Slc} {x3 : Int} {b5 : Bool} {s5 : Slc} {b : Bool} {s : Slc} {x : Int} {bz : Bool} {sz : Slc} {w1 w2 : World}
    (hc : CutCx w s0 l0 t7 c f g h s' b4 s4 x3 b5 s5 b s x bz sz w1) (hx : Ext w1 w2) : CutCx w s0 l0 t7 c f g h s' b4 s4 x3 b5 s5 b s x bz sz w2 := by
  obtain ⟨h1, bs, t, N, E, neg, q, ng, h2, h3, h4, h5, h6, h7, h8⟩ := hc
  exact ⟨h1, bs, t, N, E, neg, q, ng, Nat.le_trans h2 hx.size, h3, h4, h5.ext hx, h6.ext hx, h7.ext hx, h8⟩

theorem DyadicCuts_ok {w : World} (hT : Tab w) {n0 : Bool} {s0 : Slc} {e0 : Int} {l0 : List Nat} (r0 : Rd .u64 w s0 (nn l0)) (o0 : ok B64 l0) (z0 : l0.length * 8 ≤ 140737488351232) (he0 : -9223372036854775808 ≤ e0 ∧ e0 ≤ 9223372036854775807)
    {x1 x2 : Int} (hx1 : -9223372036854775808 ≤ x1 ∧ x1 ≤ 9223372036854775807) (hx2 : -9223372036854775808 ≤ x2 ∧ x2 ≤ 9223372036854775807) :
    Calls pr surdlaw08_DyadicCuts_id #[.agg (c3 n0 s0 e0), .int .i64 x1, .int .i64 x2] w (Yes w) := by
  have hdl := Nat.len_le o0
  have h32 := len32 o0
  refine Calls.mono (surdlaw08_DyadicCuts_v2 n0 s0 e0 x1 x2 w (fun e _ => e = .returned (.bool true))
    (fun t1 t7 t10 c g f h _ s' _ b4 s4 x3 b5 s5 b s x bz sz w' => CutCx w s0 l0 t7 c (if t10 = true ∧ t1 < 1 then 1 else f) g h s' b4 s4 x3 b5 s5 b s x bz sz w')
    (fun t7 c g f h _ s' _ b4 s4 x3 b5 s5 b s x bz sz w' => CutCx w s0 l0 t7 c f g h s' b4 s4 x3 b5 s5 b s x bz sz w')
    (fun t7 c f _ s' _ b4 s4 x3 b5 s5 b s x w' => ∃ g h bz sz, CutCx w s0 l0 t7 c f g h s' b4 s4 x3 b5 s5 b s x bz sz w') ?_ ?_ ?_ ?_) fun e w' ⟨h1, h2⟩ => ⟨h2, h1⟩
  · intro w1 X1 a1
    refine Calls.mono (lent_spec (r0.ahead a1) z0 o0) ?_
    rintro en w2 ⟨h2, wa, pa, rfl, L2⟩
    have hbk : ∀ k, Bk wa k → k < w2.heap.size := fun k hk => by
      obtain ⟨b, q1, q2, q3, q4⟩ := L2
      have : b = k := congrArg Addr.block (Option.some.inj (q3.A.symm.trans hk))
      have := q3.lt
      omega
    have L2' : Lent w.heap.size w2 wa pa l0 := by
      obtain ⟨b, q1, q2⟩ := L2
      exact ⟨b, Nat.le_trans a1.size q1, q2⟩
    have a2 := a1.trans h2
    refine ⟨_, _, _, _, rfl, h2, fun w3 X3 a3 => Calls.mono (of_spec (r0.ahead a3) z0 o0) ?_⟩
    rintro en w4 ⟨h4, sv, rfl, rv⟩
    have a4 := a3.trans h4
    refine ⟨_, _, _, _, rfl, h4, fun w5 X5 a5 => ?_⟩
    have L5 := ((L2'.ext X3).ahead h4).ext X5
    have np : Num w5 pa (val B64 l0) := num_of L5.part o0 z0
    have hb5 : ∀ k, Bk wa k → k < w5.heap.size := fun k hk => by
      have := hbk k hk
      have := X3.size; have := h4.size; have := X5.size
      omega
    have rv5 := rv.ext X5
    generalize val B64 l0 = X at *
    refine Calls.mono (Cut_spec (hT.ahead a5) np (by omega)) ?_
    rintro en w6 ⟨h6, sp, rfl, op⟩
    refine ⟨_, _, _, _, rfl, h6, fun w7 X7 a7 => ?_⟩
    have X57 := h6.ext.trans X7
    refine Calls.mono (Whole_spec (hT.ahead a7) (np.ext X57) (by omega)) ?_
    rintro en w8 ⟨h8, sq, rfl, oq⟩
    have X58 := X57.trans h8.ext
    have L8 := L5.ext X58
    have op8 : OwnNil w5.heap.size w8 sp _ := (op.ext X7).ahead h8
    have hdis : ∀ k, Bk sp k → ¬ Bk sq k := fun k hk => old_new op (by have := X7.size; omega) oq k hk
    have oq' := oq.mono (show w5.heap.size ≤ w7.heap.size from X57.size)
    have hlo := len_mono two32 (od_le X)
    have hod0 : od X = 0 → eD X e0 = 0 := fun h => by rw [od_zero_iff] at h; rw [h, eD_zero]
    -- refusals of both
    have ref : ∀ (f : Int) (w9 : World), ctC n0 X e0 x1 x2 = f → f ≠ 0 → whC n0 X e0 x2 ≠ 0 → Ext w8 w9 → CutCx w s0 l0 wa (ctC n0 X e0 x1 x2) f (whC n0 X e0 x2) (whC n0 X e0 x2) s0 (if ctC n0 X e0 x1 x2 = 0 then nD (nD n0 X) (rX (nD n0 X) (od X) (eD X e0) (cpos (od X) (eD X e0) x1) x2) else false) sp
        (if ctC n0 X e0 x1 x2 = 0 then eD (rX (nD n0 X) (od X) (eD X e0) (cpos (od X) (eD X e0) x1) x2) (rE (od X) (eD X e0) (cpos (od X) (eD X e0) x1)) else 0) (if whC n0 X e0 x2 = 0 then nD (nD n0 X) (stq (nD n0 X) (od X) (eD X e0) 0 x2) else false) sq false ⟨none, 0, 0⟩ 0 false ⟨none, 0, 0⟩ w9 := by
      intro f w9 hc h0 hw X9
      refine ⟨rfl, w5.heap.size, pa, 0, 0, false, stq (nD n0 X) (od X) (eD X e0) 0 x2, false, ?_, a5.size, hb5, L8.ext X9, ?_, ⟨oq'.ext X9, fun _ => ⟨rfl, if_neg hw⟩, fun h => absurd h hw⟩, hdis⟩
      · have := X58.size; have := X9.size; omega
      · rw [hc] at op8 ⊢
        rw [if_neg h0] at op8
        exact refused_beside (t := sp) h0 (op8.ext X9) (if_neg h0) (if_neg h0)
    refine ⟨_, _, _, rfl, h8, br_intro (fun hw => fun w9 X9 a9 => ?_) (fun hw => fun w9 X9 a9 => ?_)⟩
    · have hw' : ¬ wi e0 := by simpa using hw
      have hwc : whC n0 X e0 x2 = 80 := if_neg hw'
      have := ref 80 w9 (if_neg hw') (by omega) (by omega) X9
      rw [hwc] at this ⊢
      rw [decide_eq_false hw']
      simpa using this
    · have hw' : wi e0 := by simpa using hw
      refine Calls.mono mode_spec ?_
      rintro en w19 ⟨rfl, rfl⟩
      refine ⟨_, rfl, Ahead.refl _, br_intro (fun hm => ?_) (fun hm => ?_)⟩
      · have hm' : ¬ okM x2 := by simpa using hm
        have hwc : whC n0 X e0 x2 = 81 := by rw [whC, if_pos hw', if_neg hm']
        have hcc : ctC n0 X e0 x1 x2 = if decide (wi e0) = true ∧ x1 < 1 then 1 else 81 := by
          rw [ctC, if_pos hw', if_neg hm']
          by_cases hb : x1 < 1
          · rw [if_pos hb, if_pos ⟨decide_eq_true hw', hb⟩]
          · rw [if_neg hb, if_neg (fun h => hb h.2)]
        have := ref _ _ hcc (by split <;> omega) (by omega) X9
        rw [hwc] at this ⊢
        exact this
      · have hm' : okM x2 := by simpa using hm
        have hwc : whC n0 X e0 x2 = bC (stq (nD n0 X) (od X) (eD X e0) 0 x2) := by rw [whC, if_pos hw', if_pos hm']
        rw [if_pos hw'] at rv5
        rw [if_pos hw', if_pos hw']
        have rv9 : RN _ sv (od X) := rv5.ext (X58.trans X9)
        have hef := eD_far np hw'
        -- the whole number beside
        have whole : ∀ (w23 : World) (sz : Slc) (bz : Bool), Ext w8 w23 → bz = (if bC (stq (nD n0 X) (od X) (eD X e0) 0 x2) = 0 then nD (nD n0 X) (stq (nD n0 X) (od X) (eD X e0) 0 x2) else false) → (bC (stq (nD n0 X) (od X) (eD X e0) 0 x2) = 0 → RN w23 sz (stq (nD n0 X) (od X) (eD X e0) 0 x2)) → ∀ h, h = bC (stq (nD n0 X) (od X) (eD X e0) 0 x2) →
            BesideW w5.heap.size w23 (whC n0 X e0 x2) h (if whC n0 X e0 x2 = 0 then nD (nD n0 X) (stq (nD n0 X) (od X) (eD X e0) 0 x2) else false) sq bz sz (stq (nD n0 X) (od X) (eD X e0) 0 x2) (nD (nD n0 X) (stq (nD n0 X) (od X) (eD X e0) 0 x2)) := by
          intro w23 sz bz X23 hbz hr h hh
          refine ⟨oq'.ext X23, fun hf => ⟨by rw [hwc, hh], by rw [hwc, ← hh, if_neg hf]⟩, fun hf => ?_⟩
          have hb0 : bC (stq (nD n0 X) (od X) (eD X e0) 0 x2) = 0 := by rw [← hh]; exact hf
          refine ⟨by rw [hwc, hb0], by rw [hwc, hb0, if_pos rfl], by rw [hbz, if_pos hb0], hr hb0, ?_⟩
          unfold bC at hb0
          split at hb0 <;> omega
        have bcz : ∀ {q : Nat}, (!decide (bC q = 0)) = true → bC q = 3 := fun {q} h => by
          have h1 : ¬ bC q = 0 := by simpa using h
          unfold bC at h1 ⊢
          split
          · rfl
          · rename_i h2; rw [if_neg h2] at h1; exact absurd rfl h1
        have bcz' : ∀ {q : Nat}, (!decide (bC q = 0)) = false → bC q = 0 := fun {q} h => by simpa using h
        refine br_intro (fun hb => fun w20 X20 a20 => ?_) (fun hb => fun w20 X20 a20 => ?_)
        · have hb' := of_decide_eq_true hb
          refine Calls.mono (dCut_spec (rv9.ext X20) (nD_od n0 X) (od_od X) hod0 hm' ⟨hb', hx1.2⟩ (by omega) (by omega)) ?_
          rintro en w21 ⟨h21, s6, rfl, r6⟩
          refine ⟨_, _, _, rfl, h21, fun w22 X22 a22 => ?_⟩
          have X922 := (X20.trans h21.ext).trans X22
          refine Calls.mono (dWhole_spec (rv9.ext X922) (nD_od n0 X) (od_od X) hod0 hm' (by omega) (by omega)) ?_
          rintro en w23 ⟨h23, s7, rfl, r7⟩
          have hcc : ctC n0 X e0 x1 x2 = if (0 : Int) = 0 then tC (rX (nD n0 X) (od X) (eD X e0) (cpos (od X) (eD X e0) x1) x2) (rE (od X) (eD X e0) (cpos (od X) (eD X e0) x1)) else 0 := by
            rw [ctC, if_pos hw', if_neg (by omega), if_pos hm', if_pos rfl]
          have lx := Nat.le_trans (dl_le two32 (rX_le (neg := nD n0 X) (n := od X) (e := eD X e0) (pos := cpos (od X) (eD X e0) x1) (m := x2))) sgn_le
          have fin : ∀ h w24, h = bC (stq (nD n0 X) (od X) (eD X e0) 0 x2) → Ext w23 w24 → CutCx w s0 l0 wa (ctC n0 X e0 x1 x2) (if decide (wi e0) = true ∧ x1 < 1 then 1 else 0) (whC n0 X e0 x2) h s0 (if ctC n0 X e0 x1 x2 = 0 then nD (nD n0 X) (rX (nD n0 X) (od X) (eD X e0) (cpos (od X) (eD X e0) x1) x2) else false) sp (if ctC n0 X e0 x1 x2 = 0 then eD (rX (nD n0 X) (od X) (eD X e0) (cpos (od X) (eD X e0) x1) x2) (rE (od X) (eD X e0) (cpos (od X) (eD X e0) x1)) else 0) (if whC n0 X e0 x2 = 0 then nD (nD n0 X) (stq (nD n0 X) (od X) (eD X e0) 0 x2) else false) sq (nD (nD n0 X) (rX (nD n0 X) (od X) (eD X e0) (cpos (od X) (eD X e0) x1) x2)) s6 (eD (rX (nD n0 X) (od X) (eD X e0) (cpos (od X) (eD X e0) x1) x2) (rE (od X) (eD X e0) (cpos (od X) (eD X e0) x1))) (if bC (stq (nD n0 X) (od X) (eD X e0) 0 x2) = 0 then nD (nD n0 X) (stq (nD n0 X) (od X) (eD X e0) 0 x2) else false) s7 w24 := by
            intro h w24 hh X24
            have hf0 : (if decide (wi e0) = true ∧ x1 < 1 then (1 : Int) else 0) = 0 := if_neg (fun h => by omega)
            rw [hf0]
            have X824 : Ext w8 w24 := ((X9.trans X922).trans h23.ext).trans X24
            refine ⟨rfl, w5.heap.size, pa, od (rX (nD n0 X) (od X) (eD X e0) (cpos (od X) (eD X e0) x1) x2), eD (rX (nD n0 X) (od X) (eD X e0) (cpos (od X) (eD X e0) x1) x2) (rE (od X) (eD X e0) (cpos (od X) (eD X e0) x1)), nD (nD n0 X) (rX (nD n0 X) (od X) (eD X e0) (cpos (od X) (eD X e0) x1) x2), stq (nD n0 X) (od X) (eD X e0) 0 x2, nD (nD n0 X) (stq (nD n0 X) (od X) (eD X e0) 0 x2), ?_, a5.size, hb5, L8.ext X824, ?_, whole w24 s7 _ X824 rfl (fun h => (r7 h).ext X24) h hh, hdis⟩
            · have := X58.size; have := X824.size; omega
            · exact DOut.beside (w := w) (w1 := w) (op8.ext X824) ((r6.ext X22).ext (h23.ext.trans X24)) (by omega) hcc (fun _ => rfl) (fun _ => rfl)
          refine ⟨_, _, _, rfl, h23, br_intro (fun hz => fun w24 X24 a24 => ?_) (fun hz => fun w24 X24 a24 => ?_)⟩
          · exact fin 3 w24 (bcz hz).symm X24
          · exact fin 0 w24 (bcz' hz).symm X24
        · have hb' := of_decide_eq_false hb
          refine Calls.mono (dWhole_spec (rv9.ext X20) (nD_od n0 X) (od_od X) hod0 hm' (by omega) (by omega)) ?_
          rintro en w27 ⟨h27, s8, rfl, r8⟩
          have hcc : ctC n0 X e0 x1 x2 = 1 := by rw [ctC, if_pos hw', if_pos (by omega)]
          have hf1 : (if decide (wi e0) = true ∧ x1 < 1 then (1 : Int) else 0) = 1 := if_pos ⟨decide_eq_true hw', by omega⟩
          have fin : ∀ h w28, h = bC (stq (nD n0 X) (od X) (eD X e0) 0 x2) → Ext w27 w28 → CutCx w s0 l0 wa (ctC n0 X e0 x1 x2) (if decide (wi e0) = true ∧ x1 < 1 then 1 else 0) (whC n0 X e0 x2) h s0 (if ctC n0 X e0 x1 x2 = 0 then nD (nD n0 X) (rX (nD n0 X) (od X) (eD X e0) (cpos (od X) (eD X e0) x1) x2) else false) sp
              (if ctC n0 X e0 x1 x2 = 0 then eD (rX (nD n0 X) (od X) (eD X e0) (cpos (od X) (eD X e0) x1) x2) (rE (od X) (eD X e0) (cpos (od X) (eD X e0) x1)) else 0) (if whC n0 X e0 x2 = 0 then nD (nD n0 X) (stq (nD n0 X) (od X) (eD X e0) 0 x2) else false) sq (nD n0 X) sv (eD X e0) (if bC (stq (nD n0 X) (od X) (eD X e0) 0 x2) = 0 then nD (nD n0 X) (stq (nD n0 X) (od X) (eD X e0) 0 x2) else false) s8 w28 := by
            intro h w28 hh X28
            rw [hf1]
            have X828 : Ext w8 w28 := ((X9.trans X20).trans h27.ext).trans X28
            refine ⟨rfl, w5.heap.size, pa, od X, eD X e0, false, stq (nD n0 X) (od X) (eD X e0) 0 x2, nD (nD n0 X) (stq (nD n0 X) (od X) (eD X e0) 0 x2), ?_, a5.size, hb5, L8.ext X828, ?_, whole w28 s8 _ X828 rfl (fun h => (r8 h).ext X28) h hh, hdis⟩
            · have := X58.size; have := X828.size; omega
            · rw [hcc] at op8 ⊢
              rw [if_neg (by omega)] at op8
              have rvv : RN w28 sv (od X) := rv9.ext (X20.trans (h27.ext.trans X28))
              exact ⟨rvv, by omega, by rw [if_neg (by omega)], fun h => by omega, fun h => by omega, if_neg (by omega), if_neg (by omega), by rw [if_neg (by omega)]; exact op8.ext X828, len64_of⟩
          refine ⟨_, _, _, rfl, h27, br_intro (fun hz => fun w24 X24 a24 => ?_) (fun hz => fun w24 X24 a24 => ?_)⟩
          · exact fin 3 w24 (bcz hz).symm X24
          · exact fin 0 w24 (bcz' hz).symm X24
  · intro t1 t7 t10 c g f h _ s' _ b4 s4 x3 b5 s5 b s x bz sz w1 a1 hc
    refine br_intro (fun ht => br_intro (fun hb => ?_) (fun hb => ?_)) (fun ht => ?_)
    · rw [if_pos ⟨ht, of_decide_eq_true hb⟩] at hc; exact hc
    · rw [if_neg (fun h => of_decide_eq_false hb h.2)] at hc; exact hc
    · rw [if_neg (fun h => by rw [ht] at h; exact absurd h.1 (by simp))] at hc; exact hc
  · intro t7 c g f h _ s' _ b4 s4 x3 b5 s5 b s x bz sz w1 a1 hc
    have hc0 := hc
    obtain ⟨h1, bs, t, N, E, neg, q, ng, h2, h3, h4, h5, h6, h7, h8⟩ := hc
    refine br_intro (fun hh => ?_) (fun hh => ?_)
    · have hh' : h ≠ 0 := by simpa using hh
      obtain ⟨hg, hb⟩ := h7.bad hh'
      refine Calls.mono num_spec ?_
      rintro en w9 ⟨rfl, rfl⟩
      have ho := h7.o
      rw [hg, if_neg hh'] at ho
      have hn : s5.n = 0 := by rw [ho.rd.n]; rfl
      exact ⟨_, rfl, Ahead.refl _, br_false (by rw [hg]; simp) (br_false hb (br_false (by rw [hn]; rfl) ⟨_, _, _, _, hc0⟩))⟩
    · have hh' : h = 0 := by simpa using hh
      obtain ⟨hg, hb, hz, hr, hq⟩ := h7.good hh'
      refine Calls.mono num_spec ?_
      rintro en w15 ⟨rfl, rfl⟩
      have ho := h7.o
      rw [hg, if_pos rfl] at ho
      refine ⟨_, rfl, Ahead.refl _, br_false (by rw [hg]; rfl) ?_⟩
      have hzi := zIs_spec (neg := ng) hr ho.rd (len64_of hq)
      rw [hz, hb]
      refine Calls.mono hzi ?_
      rintro en w16 ⟨h16, rfl⟩
      rw [← hb]
      exact ⟨_, rfl, h16, br_false rfl ⟨_, _, _, _, hc0.ext h16.ext⟩⟩
  · rintro t7 c f _ _ _ b4 s4 x3 b5 s5 b s x w1 a1 ⟨g, h, bz, sz, rfl, bs, t, N, E, neg, q, ng, hbs, hws, hbk, L1, hB, hW, hdis⟩
    refine Calls.mono hB.alike ?_
    rintro en w10 ⟨h10, rfl⟩
    have a10 := a1.trans h10
    refine ⟨_, rfl, h10, br_true rfl ?_⟩
    refine Calls.mono (own_step (w0 := w) (base := bs) hws [(s4, if c = 0 then digs B64 N else []), (s5, if g = 0 then digs B64 q else [])] (by have := h10.size; omega) ?_ ?_ (by simp) rfl rfl) ?_
    · intro p hp
      simp only [List.mem_cons, List.not_mem_nil, or_false] at hp
      rcases hp with rfl | rfl
      · exact ⟨hB.o.ahead h10, tK_own hB.code id⟩
      · exact ⟨hW.o.ahead h10, hW.len⟩
    · simp only [List.pairwise_cons, List.mem_cons, List.not_mem_nil, or_false, forall_eq, List.Pairwise.nil, and_true, false_implies, implies_true]
      exact hdis
    rintro e w9 ⟨rfl, hst, hlow⟩
    have a9 : Ahead w w9 := Below.trans a10 (Below.mono hlow hws)
    have L9 : Rd .u64 w9 t7 (nn (Ref.lent l0)) := by
      obtain ⟨b, q1, q2, q3, q4⟩ := L1.ahead h10
      obtain ⟨sp, q5, q6⟩ := q3.mem
      have hb := hbk b q3.A
      exact Own.rd (b := b) (t := tU64) ⟨q3.hd, sp, q5, by rw [Below.block hlow b hb]; exact q6⟩
    refine ⟨_, rfl, hst, br_true rfl (Calls.mono (Kept_spec L9 (r0.ahead a9) z0) ?_)⟩
    rintro e w10 ⟨rfl, rfl⟩
    refine ⟨_, rfl, Ahead.refl _, br_true rfl (Calls.mono (awake_spec (hT.ahead a9)) ?_)⟩
    rintro e w11 ⟨rfl, h11⟩
    exact ⟨_, rfl, h11, rfl⟩

end Dy
end Go.Proofs.YthhbjhdnaopcnaaDoor
