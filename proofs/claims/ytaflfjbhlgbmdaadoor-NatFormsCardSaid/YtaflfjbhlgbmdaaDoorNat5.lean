/- nat's Small and Bit, the document's Count, the law NatForms. No condition: the library's table is a premise. -/
import Derived.Test.YtaflfjbhlgbmdaaDoorNat4
import Derived.Test.YtaflfjbhlgbmdaaDoorDy2
import Derived.Test.YtaflfjbhlgbmdaaDoorVcForms
namespace Go.Proofs.YtaflfjbhlgbmdaaDoor
open Go Go.RowKit Eng Sp Dg
set_option linter.unusedVariables false
set_option linter.unusedSimpArgs false
set_option maxRecDepth 100000
namespace Dg
theorem bit_digit64 (U s : Nat) (hs : s < 64) : U % 2 ^ 64 / 2 ^ s % 2 = U / 2 ^ s % 2 := by
  have h : (2 : Nat) ^ 64 = 2 ^ s * (2 * 2 ^ (63 - s)) := by rw [← Nat.pow_succ', ← Nat.pow_add]; congr 1; omega
  rw [h, Nat.mod_mul_right_div_self, Nat.mod_mul_right_mod]
theorem pcF_low (j x : Nat) : pcF j (x % 2 ^ j) = pcF j x := by
  have := pcF_split j 0 x
  simpa [pcF] using this.symm
theorem pcF_succ (j x : Nat) : pcF (j + 1) x = pcF j x + x / 2 ^ j % 2 := by
  rw [pcF_split j 1 x, pcF_low]; simp [pcF]
theorem pcF_bl (x k : Nat) : pcF (bl x + k) x = pcF (bl x) x := pcF_ext k (lt_bl x)
end Dg
namespace Nat
open _root_.Go.Proofs.YtaflfjbhlgbmdaaDoor.Ref (RN Of_spec Is_spec Len_spec Cmp_spec own_list old_new low_ahead Bk Lend_spec Kept_spec Lent.ahead Lent.part Lent.whole len32 len_mono)
open _root_.Go.Proofs.YtaflfjbhlgbmdaaDoor.Dy (tdivN tmodN Tail_spec rTail_spec Tab Tab.ahead)

theorem nBit_spec {w : World} {s : Slc} {l : List Nat} {i : Nat} (h : Rd .u64 w s (nn l)) (hl : l.length ≤ 2 ^ 46) (ol : ok B64 l) (hi : i ≤ 9223372036854775807) :
    Calls pr nat_Bit_id #[s.v, .int .i64 (i : Int)] w fun e w' => w' = w ∧ e = .returned (.int .i64 ((val B64 l / 2 ^ i % 2 : Nat) : Int)) := by
  have hn : s.n = l.length := by rw [h.n, nn_length]
  have hB := B64v
  have hp2 : B64 ^ (i / 64) * 2 ^ (i % 64) = 2 ^ i := (pow_split i 64).symm
  have hx : val B64 l / 2 ^ i % 2 = l.getD (i / 64) 0 / 2 ^ (i % 64) % 2 := by
    rw [digit (by omega : 0 < B64) _ ol (i / 64), ← hp2, ← Nat.div_div_eq_div_mul, show B64 = 2 ^ 64 from rfl, bit_digit64 _ _ (Nat.mod_lt _ (by omega))]
  refine nat_Bit_vc s i w _ (br_false (by simp) ?_)
  rw [tdivN (by omega), tmodN]
  refine br_intro (fun hb => ?_) (fun hb => ?_)
  · refine ⟨rfl, ?_⟩
    have hb' : l.length ≤ i / 64 := by simp at hb; omega
    rw [hx, getD_ge _ 0 hb']
    simp
  · have hb' : i / 64 < l.length := by simp at hb; omega
    refine ldN h (by omega) (by omega) ?_
    refine semShr (by omega) ?_
    rw [Int.toNat_natCast]
    have hlt := ok_getD ol (by omega : 0 < B64) (i / 64)
    generalize l.getD (i / 64) 0 = d at *
    have hd : d / 2 ^ (i % 64) < B64 := Nat.lt_of_le_of_lt (Nat.div_le_self _ _) hlt
    rw [show (1 : Int) = ((1 : Nat) : Int) from rfl, andI_nat hd (by omega), Nat.and_one_is_mod, hx, wrap_i64 (by omega) (by omega)]
    exact ⟨rfl, rfl⟩

theorem rCount_spec {w : World} {s : Slc} {x : Nat} (h : RN w s x) (hl : (digs B32 x).length ≤ 2 ^ 46) :
    Calls pr surdref01_Num_Count_id #[s.v] w fun e w' => w' = w ∧ e = .returned (.int .i64 (pcF (bl x) x)) := by
  have hbl : bl x ≤ 2 ^ 51 := by
    have := Ref.bl_len32 (ok_digs two32 x)
    rw [val_digs two32] at this
    omega
  refine surdref01_Num_Count_vc s w _ (fun t n i w' => t = s ∧ w' = w ∧ ∃ j : Nat, i = (j : Int) ∧ j ≤ bl x ∧ n = (pcF j x : Int)) (fun _ _ i _ => (bl x - i).toNat) ⟨rfl, rfl, 0, rfl, Nat.zero_le _, rfl⟩ ?_
  rintro t n i w1 ⟨rfl, rfl, j, rfl, hj, rfl⟩
  refine Calls.mono (Len_spec h hl) ?_
  rintro e w2 ⟨rfl, rfl⟩
  refine ⟨_, rfl, br_intro (fun hlt => ?_) (fun hge => ?_)⟩
  · have hj' : j < bl x := by simp at hlt; omega
    have e8 : IntKind.i64.wrap ((j : Int) + 1) = ((j + 1 : Nat) : Int) := by rw [wrap_i64 (by omega) (by omega)]; omega
    refine Calls.mono (rBit_spec h hl (by omega)) ?_
    rintro e w3 ⟨rfl, rfl⟩
    have h1 := pcF_le j x
    have h2 := pcF_succ j x
    have h3 := Nat.mod_lt (x / 2 ^ j) (show 2 > 0 by omega)
    refine ⟨_, rfl, ⟨rfl, rfl, j + 1, e8, hj', ?_⟩, by rw [e8]; omega⟩
    rw [h2, wrap_i64 (by omega) (by omega)]; omega
  · have hj' : j = bl x := by simp at hge; omega
    subst hj'
    exact ⟨rfl, rfl⟩

theorem len64_le {x : Nat} : bl x ≤ 64 ↔ (digs B64 x).length ≤ 1 := by
  have hB := B64v
  rw [bl_le_iff, ← show B64 = 2 ^ 64 from rfl]
  constructor
  · intro h; exact digs_length_le two64 (by rwa [Nat.pow_one])
  · intro h
    have h1 := val_lt (ok_digs two64 x)
    rw [val_digs two64] at h1
    exact Nat.lt_of_lt_of_le h1 (by rw [show B64 = B64 ^ 1 from (Nat.pow_one _).symm, ← Nat.pow_mul, Nat.one_mul]; exact Nat.pow_le_pow_right (by omega) h)

theorem Small_spec {w : World} {s : Slc} {l : List Nat} (h : Rd .u64 w s (nn l)) (hl : l.length ≤ 2 ^ 46) (ol : ok B64 l) :
    Calls pr nat_Small_id #[s.v] w fun e w' => w' = w ∧ e = .returned (.tuple #[.int .u64 ((if bl (val B64 l) ≤ 64 then val B64 l else 0 : Nat) : Int), .bool (decide (bl (val B64 l) ≤ 64))]) := by
  refine nat_Small_vc s w _ (Calls.mono (trim_spec h hl ol) ?_)
  rintro e w' ⟨rfl, m, hm, hd, rfl⟩
  have hn : s.n = l.length := by rw [h.n, nn_length]
  have hc := h.c
  have hr : Rd .u64 w' ⟨s.A, m, s.c⟩ (nn (l.take m)) := by rw [← nn_take]; exact h.take (by simp; omega) (by omega)
  have hlen : (digs B64 (val B64 l)).length = m := by rw [hd, List.length_take]; omega
  have hv := val_digs two64 (val B64 l)
  have hio := len64_le (x := val B64 l)
  rw [hlen] at hio
  rw [← hd] at hr
  refine ⟨_, rfl, br_intro (fun h0 => ?_) (fun h0 => ?_)⟩
  · have hm0 : m = 0 := by simpa using h0
    have h1 : val B64 l = 0 := by rw [← hv, List.length_eq_zero_iff.1 (hlen.trans hm0)]; rfl
    refine ⟨rfl, ?_⟩
    rw [if_pos (hio.2 (by omega)), decide_eq_true (hio.2 (by omega)), h1]; rfl
  · have hm0 : m ≠ 0 := by simpa using h0
    refine br_intro (fun h1 => ?_) (fun h1 => ?_)
    · have hm1 : m = 1 := by simp at h1; omega
      refine ldN hr (by omega) (by omega) ?_
      have e0 : (digs B64 (val B64 l)).getD ((0 : Int)).toNat 0 = val B64 l := by
        obtain ⟨x, hx⟩ := List.length_eq_one_iff.1 (hlen.trans hm1)
        rw [hx] at hv ⊢
        rw [← hv]; simp [val]
      refine ⟨rfl, ?_⟩
      rw [if_pos (hio.2 (by omega)), decide_eq_true (hio.2 (by omega)), e0]
    · have hm1 : m ≠ 1 := by simp at h1; omega
      refine ⟨rfl, ?_⟩
      have : ¬ bl (val B64 l) ≤ 64 := fun hh => by have := hio.1 hh; omega
      rw [if_neg this, decide_eq_false this]; rfl

theorem NatForms_ok {w : World} (hT : Tab w) {s0 s1 : Slc} {l0 l1 : List Nat} (r0 : Rd .u64 w s0 (nn l0)) (o0 : ok B64 l0) (n0 : l0.length * 8 ≤ 140737488351232)
    (r1 : Rd .u64 w s1 (nn l1)) (o1 : ok B64 l1) (n1 : l1.length * 8 ≤ 140737488351232) {x2 : Int} (b2 : -9223372036854775808 ≤ x2 ∧ x2 ≤ 9223372036854775807) :
    Calls pr surdlaw01_NatForms_id #[s0.v, s1.v, .int .i64 x2] w (Yes w) := by
  have hx := len32 o0
  have hy := len32 o1
  have hdx := len_le o0
  have bx := bl_len o0
  have pc0 := (pcL_val l0 o0).symm
  have pcb : pcL l0 = pcF (bl (val B64 l0)) (val B64 l0) := by
    rw [pc0, show 64 * l0.length = bl (val B64 l0) + (64 * l0.length - bl (val B64 l0)) by omega, pcF_bl]
  obtain ⟨v, hv, hvlt⟩ : ∃ v : Nat, IntKind.u64.wrap x2 = (v : Int) ∧ v < B64 := by
    have hB := B64v
    refine ⟨(x2 % 18446744073709551616).toNat, ?_, by omega⟩
    rw [wrap_u64]; omega
  refine surdlaw01_NatForms_vc s0 s1 x2 w _ (Calls.mono (Lend_spec r0 n0 o0) ?_)
  rintro e w1 ⟨h1, s, t, rfl, hl1⟩
  refine ⟨_, _, rfl, Calls.mono (Of_spec (r0.ahead h1) n0 o0) ?_⟩
  rintro e w2 ⟨h2, x, rfl, rx⟩
  refine ⟨_, rfl, Calls.mono (Of_spec ((r1.ahead h1).ahead h2) n1 o1) ?_⟩
  rintro e w3 ⟨h3, y, rfl, ry⟩
  have h13 := h2.trans h3
  have h03 := h1.trans h13
  have lp := hl1.ahead h13
  have tp := lp.part
  refine ⟨_, rfl, Calls.mono (Norm_spec tp (by omega) o0) ?_⟩
  rintro e w4 ⟨h4, n, rfl, on⟩
  refine ⟨_, rfl, Calls.mono (Norm_spec (tp.ahead h4) (by omega) o0) ?_⟩
  rintro e w5 ⟨h5, m, rfl, om⟩
  have h35 := h4.trans h5
  refine ⟨_, rfl, Calls.mono (Is_spec ((rx.ahead h3).ahead h35) (on.ahead h5).rd (by omega)) ?_⟩
  rintro e w6 ⟨h6, rfl⟩
  have h36 := h35.trans h6
  refine ⟨_, rfl, br_false rfl ?_⟩
  refine Calls.mono (own_list (base := w3.heap.size) [(n, digs B64 (val B64 l0)), (m, digs B64 (val B64 l0))] h36.size ?_ ?_ (by simp) rfl rfl) ?_
  · intro z hz
    simp only [List.mem_cons, List.not_mem_nil, or_false] at hz
    rcases hz with rfl | rfl
    · exact ⟨(on.ahead h5).ahead h6, by simp only; omega⟩
    · exact ⟨(om.ahead h6).mono h4.size, by simp only; omega⟩
  · simp only [List.pairwise_cons, List.mem_cons, List.not_mem_nil, or_false, forall_eq_or_imp, forall_eq, List.Pairwise.nil, and_true, false_implies, implies_true]
    exact fun k => old_new on (Nat.le_refl _) om k
  rintro e w8 ⟨rfl, hb8⟩
  have h38 : Ahead w3 w8 := low_ahead h36 (Nat.le_refl _) hb8
  refine ⟨_, rfl, br_false rfl ?_⟩
  have h08 := h03.trans h38
  have rx8 := (rx.ahead h3).ahead h38
  have ry8 := ry.ahead h38
  have lp8 := lp.ahead h38
  refine Calls.mono (Kept_spec lp8.whole (r0.ahead h08) n0) ?_
  rintro e w9 ⟨rfl, rfl⟩
  refine ⟨_, rfl, br_false rfl (Calls.mono (Compare_spec lp8.part (r1.ahead h08) (by omega) (by omega) o0 o1) ?_)⟩
  rintro e w10 ⟨h10, rfl⟩
  refine ⟨_, rfl, Calls.mono (Cmp_spec (rx8.ahead h10) (ry8.ahead h10) (by omega) (by omega)) ?_⟩
  rintro e w11 ⟨h11, rfl⟩
  have h811 := h10.trans h11
  have h011 := h08.trans h811
  have rx11 := rx8.ahead h811
  have lp11 := lp8.ahead h811
  have tp11 := lp11.part
  refine ⟨_, rfl, br_false (by simp) (Calls.mono (Length_spec tp11 (by omega) o0) ?_)⟩
  rintro e w12 ⟨rfl, rfl⟩
  refine ⟨_, rfl, Calls.mono (Len_spec rx11 (by omega)) ?_⟩
  rintro e w13 ⟨rfl, rfl⟩
  have bits : ∃ z : Int, Calls pr nat_Bit_id #[t.v, .int .i64 x2] w13 (fun e w' => w' = w13 ∧ e = .returned (.int .i64 z)) ∧ Calls pr surdref01_Num_Bit_id #[x.v, .int .i64 x2] w13 (fun e w' => w' = w13 ∧ e = .returned (.int .i64 z)) := by
    rcases Int.lt_or_le x2 0 with hneg | hpos
    · exact ⟨0, nat_Bit_vc _ _ _ _ (br_true (by simpa using hneg) ⟨rfl, rfl⟩), surdref01_Num_Bit_vc _ _ _ _ (br_true (by simpa using hneg) ⟨rfl, rfl⟩)⟩
    · obtain ⟨i, rfl⟩ := Int.eq_ofNat_of_zero_le hpos
      exact ⟨_, nBit_spec tp11 (by omega) o0 (by omega), rBit_spec rx11 (by omega) (by omega)⟩
  obtain ⟨z, hz1, hz2⟩ := bits
  refine ⟨_, rfl, br_false (by simp) (Calls.mono hz1 ?_)⟩
  rintro e w14 ⟨rfl, rfl⟩
  refine ⟨_, rfl, Calls.mono hz2 ?_⟩
  rintro e w15 ⟨rfl, rfl⟩
  refine ⟨_, rfl, br_false (by simp) (Calls.mono (Tail_spec (hT.ahead h011) tp11 (by omega) o0) ?_)⟩
  rintro e w16 ⟨rfl, rfl⟩
  refine ⟨_, rfl, Calls.mono (rTail_spec rx11 (by omega)) ?_⟩
  rintro e w17 ⟨rfl, rfl⟩
  refine ⟨_, rfl, br_false (by simp) (Calls.mono (Count_spec tp11 (by omega) o0) ?_)⟩
  rintro e w18 ⟨rfl, rfl⟩
  refine ⟨_, rfl, Calls.mono (rCount_spec rx11 (by omega)) ?_⟩
  rintro e w19 ⟨rfl, rfl⟩
  refine ⟨_, rfl, br_false (by rw [pcb]; simp) (Calls.mono (Small_spec tp11 (by omega) o0) ?_)⟩
  rintro e w20 ⟨rfl, rfl⟩
  refine ⟨_, _, rfl, Calls.mono (Len_spec rx11 (by omega)) ?_⟩
  rintro e w21 ⟨rfl, rfl⟩
  have fin : ∀ {wc : World}, Ahead w21 wc → newC wc #[.int .u64 (IntKind.u64.wrap x2)] tU64 fun ad4 w32 =>
      Calls pr surdref01_Of_id #[(⟨some ad4, 1, 1⟩ : Slc).v] w32 fun e29 w33 => ∃ s11 : Slc, e29 = .returned s11.v ∧
      (Calls pr nat_From_id #[.int .u64 (IntKind.u64.wrap x2)] w33 fun e30 w34 => ∃ s12 : Slc, e30 = .returned s12.v ∧
        (Calls pr surdref01_Num_Is_id #[s11.v, s12.v] w34 fun e31 w35 => ∃ b9 : Bool, e31 = .returned (Value.bool b9) ∧
          (br b9
            (Calls pr surdref01_Kept_id #[s.v, s0.v] w35 fun e32 w36 => ∃ b10 : Bool, e32 = .returned (Value.bool b10) ∧
              (br b10
                (Calls pr surdlaw01_lives_id #[] w36 fun e33 w37 => ∃ b11 : Bool, e33 = .returned (Value.bool b11) ∧ (Yes w (.returned (Value.bool b11)) w37))
                (Yes w (.returned (Value.bool false)) w36)))
            (Yes w (.returned (Value.bool false)) w35)))) := by
    intro wc hc
    rw [hv]
    have hal := Ahead.alloc wc (.cells #[Value.int .u64 (v : Int)] tU64 (0, 0))
    refine Calls.mono (Of_spec (one_rd wc v) (by simp) (ok_one hvlt)) ?_
    rintro e w33 ⟨h33, p, rfl, rp⟩
    rw [val_one] at rp
    refine ⟨_, rfl, Calls.mono (From_spec hvlt) ?_⟩
    rintro e w34 ⟨h34, q, rfl, oq⟩
    have hl1 : (digs B64 v).length ≤ 1 := digs_length_le two64 (by rwa [Nat.pow_one])
    refine ⟨_, rfl, Calls.mono (Is_spec (rp.ahead h34) oq.rd (by omega)) ?_⟩
    rintro e w35 ⟨h35, rfl⟩
    have hh := hc.trans (((hal.trans h33).trans h34).trans h35)
    refine ⟨_, rfl, br_true rfl (Calls.mono (Kept_spec (lp11.ahead hh).whole (r0.ahead (h011.trans hh)) n0) ?_)⟩
    rintro e w36 ⟨rfl, rfl⟩
    exact ⟨_, rfl, br_true rfl (end_lives (h011.trans hh))⟩
  refine ⟨_, rfl, ?_⟩
  by_cases h64 : bl (val B64 l0) ≤ 64
  · rw [if_pos h64, decide_eq_true h64]
    have h64' : decide ((bl (val B64 l0) : Int) ≤ 64) = true := by simp; omega
    have hB := B64v
    have hvx : val B64 l0 < B64 := by rw [show B64 = 2 ^ 64 from rfl]; exact bl_le_iff.1 h64
    refine br_false (by rw [h64']; rfl) (br_true rfl ?_)
    have hal := Ahead.alloc w21 (.cells #[Value.int .u64 ((val B64 l0 : Nat) : Int)] tU64 (0, 0))
    refine Calls.mono (Of_spec (one_rd w21 (val B64 l0)) (by simp) (ok_one hvx)) ?_
    rintro e w23 ⟨h23, p, rfl, rp⟩
    rw [val_one] at rp
    have hh := hal.trans h23
    refine ⟨_, rfl, Calls.mono (Norm_spec (r0.ahead (h011.trans hh)) (by omega) o0) ?_⟩
    rintro e w24 ⟨h24, q, rfl, oq⟩
    refine ⟨_, rfl, Calls.mono (Is_spec (rp.ahead h24) oq.rd (by omega)) ?_⟩
    rintro e w25 ⟨h25, rfl⟩
    exact ⟨_, rfl, br_false rfl (br_false rfl (fin ((hh.trans h24).trans h25)))⟩
  · rw [if_neg h64, decide_eq_false h64]
    have h64' : decide ((bl (val B64 l0) : Int) ≤ 64) = false := by simp; omega
    exact br_false (by rw [h64']; rfl) (br_false rfl (br_true rfl (br_false rfl (fin (Ahead.refl _)))))
end Nat
end Go.Proofs.YtaflfjbhlgbmdaaDoor
