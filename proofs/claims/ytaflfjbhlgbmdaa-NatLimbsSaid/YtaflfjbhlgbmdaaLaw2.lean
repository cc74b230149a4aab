/- The law NatBack: Sub undoes Add, Right undoes Left, and Left of Right with Low is the number. No condition. -/
import Derived.Test.YtaflfjbhlgbmdaaNatC
import Derived.Test.YtaflfjbhlgbmdaaLaw1
namespace Go.Proofs.Ytaflfjbhlgbmdaa
open Go Go.RowKit Eng Sp Dg
set_option linter.unusedVariables false
set_option linter.unusedSimpArgs false
set_option maxRecDepth 100000
namespace Nat

theorem bl_add_le {x y k : Nat} (hx : bl x ≤ k) (hy : bl y ≤ k) : bl (x + y) ≤ k + 1 := by
  have h1 := bl_le_iff.1 hx
  have h2 := bl_le_iff.1 hy
  exact bl_le (by rw [Nat.pow_succ]; omega)
theorem bl_shl_le (z n : Nat) : bl (z * 2 ^ n) ≤ bl z + n := by
  refine bl_le ?_
  rw [Nat.pow_add]
  exact Nat.mul_lt_mul_of_pos_right (lt_bl z) (Nat.pow_pos (by omega))

theorem NatBack_ok {w : World} {s0 s1 : Slc} {l0 l1 : List Nat} {x2 : Int} (r0 : Rd .u64 w s0 (nn l0)) (o0 : ok B64 l0) (n0 : l0.length * 8 ≤ 140737488351232)
    (r1 : Rd .u64 w s1 (nn l1)) (o1 : ok B64 l1) (n1 : l1.length * 8 ≤ 140737488351232) (h0 : -9223372036854775808 ≤ x2 ∧ x2 ≤ 9223372036854775807) :
    Calls pr surdlaw01_NatBack_id #[s0.v, s1.v, .int .i64 x2] w (Yes w) := by
  have hp := num_of r0 o0 n0
  have hq := num_of r1 o1 n1
  generalize val B64 l0 = x at *
  generalize val B64 l1 = y at *
  refine surdlaw01_NatBack_vc s0 s1 x2 w _ ?_
  refine br_intro (fun hn => ?_) (fun hn => br_intro (fun hn' => ?_) (fun hn' => ?_))
  rotate_left 2
  have hx0 : 0 ≤ x2 := by simpa using hn
  have hx1 : x2 ≤ 1048576 := by simpa using hn'
  generalize hnn : x2 = n at hx0 hx1 ⊢
  clear hn hn' h0 hnn
  rotate_left 1
  have hx0 : (0 : Int) ≤ 17 := by omega
  have hx1 : (17 : Int) ≤ 1048576 := by omega
  generalize hnn : (17 : Int) = n at hx0 hx1 ⊢
  clear hn h0 hnn
  rotate_left 1
  have hx0 : (0 : Int) ≤ 17 := by omega
  have hx1 : (17 : Int) ≤ 1048576 := by omega
  generalize hnn : (17 : Int) = n at hx0 hx1 ⊢
  clear hn hn' h0 hnn
  all_goals
    refine Calls.mono (len_num hp) ?_
    rintro e w1 ⟨rfl, rfl⟩
    refine ⟨_, rfl, br_intro (fun _ => end_lives (Ahead.refl _)) fun hb => ?_⟩
    have hbx : bl x ≤ 33554432 := by simp at hb; omega
    refine Calls.mono (len_num hq) ?_
    rintro e w2 ⟨rfl, rfl⟩
    refine ⟨_, rfl, br_intro (fun _ => end_lives (Ahead.refl _)) fun hb' => ?_⟩
    have hby : bl y ≤ 33554432 := by simp at hb'; omega
    clear hb hb'
    have hsum : bl (x + y) ≤ 67108864 := Nat.le_trans (bl_add_le hbx hby) (by omega)
    refine Calls.mono (add_num hp hq) ?_
    intro e w5 hr
    obtain ⟨ha5, s, rfl, _, hs⟩ := hr.num (bigC_ok hsum) hsum
    refine ⟨_, _, rfl, Calls.mono (add_num (hq.ahead ha5) (hp.ahead ha5)) ?_⟩
    intro e w6 hr
    rw [Nat.add_comm y x] at hr
    obtain ⟨ha6, t, rfl, _, ht⟩ := hr.num (bigC_ok hsum) hsum
    have h06 := ha5.trans ha6
    have hdif : bl (x + y - y) ≤ 67108864 := by rw [Nat.add_sub_cancel]; omega
    refine ⟨_, _, rfl, Calls.mono (sub_num (hs.ahead ha6) (hq.ahead h06)) ?_⟩
    intro e w7 hr
    obtain ⟨ha7, d, rfl, _, hd⟩ := hr.num (by rw [subC, if_neg (by omega), bigC_ok hdif]) hdif
    have h07 := h06.trans ha7
    refine ⟨_, _, rfl, br_false rfl (br_false rfl (br_false rfl ?_))⟩
    refine Calls.mono (cmp_num (hs.ahead (ha6.trans ha7)) (ht.ahead ha7)) ?_
    rintro e w8 ⟨ha8, rfl⟩
    have h08 := h07.trans ha8
    refine ⟨_, rfl, br_false (by rw [cmpI_zero.2 rfl]; rfl) ?_⟩
    refine Calls.mono (cmp_num (hd.ahead ha8) (hp.ahead h08)) ?_
    rintro e w9 ⟨ha9, rfl⟩
    have h09 := h08.trans ha9
    refine ⟨_, rfl, br_false (by rw [cmpI_zero.2 (Nat.add_sub_cancel _ _)]; rfl) ?_⟩
    -- Left, then Right
    have hle : ∀ z, z ≤ x → bl (z * 2 ^ n.toNat) ≤ 67108864 := fun z hz => by
      have h1 := bl_shl_le z n.toNat
      have h2 := bl_mono hz
      omega
    have hlc : ∀ z, z ≤ x → leftC z n = 0 := fun z hz => by
      have := bl_mono hz
      rw [leftC, if_neg (by omega), if_neg (by omega)]
    have hrc : ∀ z, bl (z / 2 ^ n.toNat) ≤ 67108864 → rightC z n = 0 := fun z hz => by
      rw [rightC, if_neg (by omega), bigC_ok hz]
    refine Calls.mono (left_num (hp.ahead h09) (by omega) (by omega)) ?_
    intro e w10 hr
    obtain ⟨ha10, l, rfl, _, hl⟩ := hr.num (hlc x (Nat.le_refl _)) (hle x (Nat.le_refl _))
    have h010 := h09.trans ha10
    have hcan : x * 2 ^ n.toNat / 2 ^ n.toNat = x := Nat.mul_div_cancel _ (Nat.pow_pos (by omega))
    have hbx' : bl (x * 2 ^ n.toNat / 2 ^ n.toNat) ≤ 67108864 := by rw [hcan]; omega
    refine ⟨_, _, rfl, Calls.mono (right_num hl) ?_⟩
    intro e w11 hr
    obtain ⟨ha11, r, rfl, _, hr'⟩ := hr.num (hrc _ hbx') hbx'
    have h011 := h010.trans ha11
    refine ⟨_, _, rfl, br_false rfl (br_false rfl ?_)⟩
    refine Calls.mono (cmp_num hr' (hp.ahead h011)) ?_
    rintro e w12 ⟨ha12, rfl⟩
    have h012 := h011.trans ha12
    refine ⟨_, rfl, br_false (by rw [cmpI_zero.2 hcan]; rfl) ?_⟩
    -- Right, Low, Left, Add
    have hdv : x / 2 ^ n.toNat ≤ x := Nat.div_le_self _ _
    have hbd : bl (x / 2 ^ n.toNat) ≤ 67108864 := Nat.le_trans (bl_mono hdv) (by omega)
    refine Calls.mono (right_num (hp.ahead h012)) ?_
    intro e w13 hr
    obtain ⟨ha13, h, rfl, _, hh⟩ := hr.num (hrc _ hbd) hbd
    have h013 := h012.trans ha13
    have hbm : bl (x % 2 ^ n.toNat) ≤ 67108864 := Nat.le_trans (bl_mono (Nat.mod_le _ _)) (by omega)
    refine ⟨_, _, rfl, Calls.mono (low_num (hp.ahead h013)) ?_⟩
    intro e w14 hr
    obtain ⟨ha14, m, rfl, _, hm⟩ := hr.num (by rw [lowC, if_neg (by omega), bigC_ok hbm]) hbm
    have h014 := h013.trans ha14
    refine ⟨_, _, rfl, Calls.mono (left_num (hh.ahead ha14) (by omega) (by omega)) ?_⟩
    intro e w15 hr
    obtain ⟨ha15, u, rfl, _, hu⟩ := hr.num (hlc _ hdv) (hle _ hdv)
    have h015 := h014.trans ha15
    have hback : x / 2 ^ n.toNat * 2 ^ n.toNat + x % 2 ^ n.toNat = x := by rw [Nat.mul_comm]; exact Nat.div_add_mod _ _
    have hbk : bl (x / 2 ^ n.toNat * 2 ^ n.toNat + x % 2 ^ n.toNat) ≤ 67108864 := by rw [hback]; omega
    refine ⟨_, _, rfl, Calls.mono (add_num hu (hm.ahead ha15)) ?_⟩
    intro e w16 hr
    obtain ⟨ha16, v, rfl, _, hv⟩ := hr.num (bigC_ok hbk) hbk
    have h016 := h015.trans ha16
    refine ⟨_, _, rfl, br_true rfl (br_true rfl (br_true rfl (br_true rfl ?_)))⟩
    refine Calls.mono (cmp_num hv (hp.ahead h016)) ?_
    rintro e w17 ⟨ha17, rfl⟩
    have h017 := h016.trans ha17
    refine ⟨_, rfl, br_true (by rw [cmpI_zero.2 hback]; rfl) ?_⟩
    refine Calls.mono (len_num (hm.ahead ((ha15.trans ha16).trans ha17))) ?_
    rintro e w18 ⟨rfl, rfl⟩
    have hbn : bl (x % 2 ^ n.toNat) ≤ n.toNat := bl_le (Nat.mod_lt _ (Nat.pow_pos (by omega)))
    refine ⟨_, rfl, br_true (by simp; omega) (end_lives h017)⟩

end Nat
end Go.Proofs.Ytaflfjbhlgbmdaa
