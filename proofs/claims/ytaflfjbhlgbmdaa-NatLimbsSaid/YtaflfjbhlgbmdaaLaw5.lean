/- The law NatLimbs. No condition. -/
import Derived.Test.YtaflfjbhlgbmdaaNat6
import Derived.Test.YtaflfjbhlgbmdaaRef5
import Derived.Test.YtaflfjbhlgbmdaaRef6
import Derived.Test.YtaflfjbhlgbmdaaLaw4
namespace Go.Proofs.Ytaflfjbhlgbmdaa
open Go Go.RowKit Eng Sp Dg
set_option linter.unusedVariables false
set_option linter.unusedSimpArgs false
set_option maxRecDepth 100000
namespace Ref
open _root_.Go.Proofs.Ytaflfjbhlgbmdaa.Nat (ldN Num OwnNil Yes end_lives num_of bigC bigC_ok thC one_rd From_spec)

theorem NatLimbs_ok {w : World} {s0 : Slc} {l0 : List Nat} {x1 : Int} (r0 : Rd .u64 w s0 (nn l0)) (o0 : ok B64 l0) (n0 : l0.length * 8 ≤ 140737488351232)
    (hv1 : 0 ≤ x1 ∧ x1 < 18446744073709551616) :
    Calls pr surdlaw01_NatLimbs_id #[s0.v, .int .u64 x1] w (Yes w) := by
  have hB := B64v
  have hB32 := B32v
  have hx := len32 o0
  obtain ⟨v, rfl⟩ := Int.eq_ofNat_of_zero_le hv1.1
  have hvB : v < B64 := by omega
  have lv : (digs B32 v).length ≤ 2 := digs_length_le two32 (by rw [hB32]; omega)
  refine surdlaw01_NatLimbs_vc s0 v w _ ?_
  refine Calls.mono (Lend_spec r0 n0 o0) ?_
  rintro e w1 ⟨h1, wa, pa, rfl, la⟩
  refine ⟨_, _, rfl, Calls.mono (Of_spec (r0.ahead h1) n0 o0) ?_⟩
  rintro e w2 ⟨h2, x, rfl, rx⟩
  have h02 := h1.trans h2
  refine ⟨_, rfl, Calls.mono (Of_spec (one_rd w2 v) (by simp) (by intro z hz; rw [List.mem_singleton.1 hz]; exact hvB)) ?_⟩
  rw [show val B64 [v] = v by simp [val]]
  have h23 := Ahead.alloc w2 (.cells #[.int .u64 (v : Int)] tU64 (0, 0))
  rintro e w4 ⟨h4, d, rfl, rd⟩
  have h24 := h23.trans h4
  have h04 := h02.trans h24
  have la4 := la.ahead (h2.trans h24)
  have rx4 := rx.ahead h24
  have pna : Num w4 pa (val B64 l0) := num_of la4.part o0 n0
  generalize val B64 l0 = X at *
  refine ⟨_, rfl, Calls.mono (Nat.times_num pna hvB) ?_⟩
  rintro e w5 ⟨h5, t, rfl, ot⟩
  refine ⟨_, _, rfl, Calls.mono (Nat.through_num (pna.ahead h5) hvB) ?_⟩
  rintro e w6 ⟨h6, q, rfl, oq⟩
  have h46 := h5.trans h6
  refine ⟨_, _, _, rfl, Calls.mono (rMul_spec (rx4.ahead h46) (rd.ahead h46) (by omega)) ?_⟩
  rintro e w7 ⟨h7, z, rfl, rz⟩
  have ot7 := (ot.ahead h6).ahead h7
  have lz : (digs B32 (X * v)).length ≤ 2 ^ 46 := by
    refine Nat.le_trans (digs_length_le two32 (m := (digs B32 X).length + (digs B32 v).length) ?_) (by omega)
    have h := fun y => val_lt (ok_digs two32 y)
    have h1 := h X
    have h2 := h v
    rw [val_digs two32] at h1 h2
    rw [Nat.pow_add]
    exact Nat.mul_lt_mul'' h1 h2
  refine ⟨_, rfl, Calls.mono (same_spec rz lz ot7.rd (by rw [if_pos rfl])) ?_⟩
  rintro e w8 ⟨h8, rfl⟩
  have h68 := h7.trans h8
  have h48 := h46.trans h68
  refine ⟨_, rfl, br_false rfl (br_intro (fun hz => ?_) (fun hz => ?_))⟩
  · have hv0 : v = 0 := by simpa using hz
    have hc : thC X v = 1 := if_pos hv0
    rw [hc] at oq ⊢
    refine Calls.mono (same_spec (n := 0) RN.nil (by rw [digs_zero]; simp) (code := 1) (k := 1) ?_ (by rw [if_neg (by omega)])) ?_
    · rw [if_neg (by omega)]
      rw [if_neg (by omega)] at oq
      exact (oq.ahead h68).rd
    rintro e w9 ⟨h9, rfl⟩
    exact ⟨_, rfl, br_true rfl (br_true rfl (end_lives ((h04.trans h48).trans h9)))⟩
  · have hv0 : 0 < v := by simp at hz; omega
    have hc : thC X v = bigC (X / v) := if_neg (by omega)
    rw [hc] at oq ⊢
    refine Calls.mono (rDiv_spec (rx4.ahead h48) (rd.ahead h48) hv0 (by omega) (by omega)) ?_
    rintro e w11 ⟨h11, y, rest, rfl, ry, rr⟩
    have oq11 := (oq.ahead h68).ahead h11
    have ly := len_mono two32 (Nat.div_le_self X v)
    refine ⟨_, _, rfl, Calls.mono (same_spec ry (by omega) oq11.rd (by rw [if_pos rfl])) ?_⟩
    rintro e w12 ⟨h12, rfl⟩
    have h412 := (h48.trans h11).trans h12
    have ot12 := ((ot7.ahead h8).ahead h11).ahead h12
    have oq12 := oq11.ahead h12
    have hlen := digs_own_len (n := X * v) rfl
    have hlen2 := digs_own_len (n := X / v) rfl
    have fin : ∀ w14, Ahead w12 w14 → newC w14 #[t.v, q.v] tU64s fun ad w15 => Calls pr surdref01_Own_id #[(⟨some ad, 2, 2⟩ : Slc).v] w15 fun e14 w16 => ∃ b6 : Bool, e14 = .returned (Value.bool b6) ∧
        (br b6 (Calls pr surdref01_Kept_id #[wa.v, s0.v] w16 fun e15 w17 => ∃ b7 : Bool, e15 = .returned (Value.bool b7) ∧
          (br b7 (Calls pr surdlaw01_lives_id #[] w17 fun e16 w18 => ∃ b8 : Bool, e16 = .returned (Value.bool b8) ∧ (Yes w (.returned (Value.bool b8)) w18)) (Yes w (.returned (Value.bool false)) w17)))
          (Yes w (.returned (Value.bool false)) w16)) := by
      intro w14 h14
      have h414 := h412.trans h14
      refine Calls.mono (own_list (base := w4.heap.size) [(t, if bigC (X * v) = 0 then digs B64 (X * v) else []), (q, if bigC (X / v) = 0 then digs B64 (X / v) else [])] h414.size ?_ ?_ (by simp) rfl rfl) ?_
      · intro p hp
        simp only [List.mem_cons, List.not_mem_nil, or_false] at hp
        rcases hp with rfl | rfl
        · exact ⟨ot12.ahead h14, hlen⟩
        · exact ⟨(oq12.ahead h14).mono h5.size, hlen2⟩
      · simp only [List.pairwise_cons, List.mem_cons, List.not_mem_nil, or_false, forall_eq, List.Pairwise.nil, and_true, false_implies, implies_true]
        exact fun k => old_new ot (Nat.le_refl _) oq k
      rintro e w16 ⟨rfl, hb16⟩
      have h416 : Ahead w4 w16 := low_ahead h414 (Nat.le_refl _) hb16
      have h016 := h04.trans h416
      refine ⟨_, rfl, br_true rfl (Calls.mono (Kept_spec (la4.ahead h416).whole (r0.ahead h016) n0) ?_)⟩
      rintro e w17 ⟨rfl, rfl⟩
      exact ⟨_, rfl, br_true rfl (end_lives h016)⟩
    refine ⟨_, rfl, br_false rfl (br_intro (fun hk => ?_) (fun hk => fin _ (Ahead.refl _)))⟩
    have hk0 : bigC (X / v) = 0 := by simpa using hk
    rw [if_pos hk0]
    have hm := Nat.mod_lt X hv0
    refine Calls.mono (From_spec (v := X % v) (by omega)) ?_
    rintro e w13 ⟨h13, u, rfl, ou⟩
    have lm : (digs B64 (X % v)).length ≤ 1 := digs_length_le two64 (by rw [Nat.pow_one]; omega)
    refine ⟨_, rfl, Calls.mono (Is_spec (rr.ahead (h12.trans h13)) ou.rd (by omega)) ?_⟩
    rintro e w14 ⟨h14, rfl⟩
    exact ⟨_, rfl, br_false rfl (fin _ (h13.trans h14))⟩

end Ref
end Go.Proofs.Ytaflfjbhlgbmdaa
