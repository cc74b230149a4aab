/- The law MulRing. No condition. -/
import Derived.Test.YtindbeolpjkijaaMul6
import Derived.Test.YtindbeolpjkijaaVcMul2
namespace Go.Proofs.Ytindbeolpjkijaa
open Go Go.RowKit Eng Sp Dg
set_option linter.unusedVariables false
set_option linter.unusedSimpArgs false
set_option maxRecDepth 100000
namespace Mul
open _root_.Go.Proofs.Ytindbeolpjkijaa.Nat (Num OwnNil Ret bigC bigC_ok digs_len_bl Yes num_of)
open _root_.Go.Proofs.Ytindbeolpjkijaa.Ref (RN Lend_spec Of_spec Kept_spec rMul_spec Len_spec zero_spec Is_spec bl_len32)

theorem lit_rd (k : IntKind) (t : TypeId) (w : World) (l : List Int) : Rd k (w.alloc (.cells (ints k l).toArray t (0, 0))) ⟨some ⟨w.heap.size, 0, none⟩, l.length, l.length⟩ l :=
  Own.rd (t := t) (b := w.heap.size) ⟨rfl, [], by simp, by rw [get_alloc]; simp⟩

theorem all_spec {w : World} {s : Slc} {l : List Int} (h : Rd .i64 w s l) (hl : l.length ≤ 1000) :
    Calls pr surdlaw02_all_id #[s.v] w fun e w' => w' = w ∧ ∃ c : Bool, e = .returned (.bool c) ∧ (c = true ↔ ∀ x ∈ l, x = 0) := by
  have hn : s.n = l.length := h.n
  refine surdlaw02_all_vc s w _ (fun t n i w' => t = s ∧ w' = w ∧ n = (l.length : Int) ∧ ∃ j : Nat, i = (j : Int) ∧ j ≤ l.length ∧ ∀ x ∈ l.take j, x = 0) (fun _ n i _ => (n - i).toNat)
    ⟨rfl, rfl, by rw [hn], 0, rfl, Nat.zero_le _, by simp⟩ ?_
  rintro t n i w1 ⟨rfl, rfl, rfl, j, rfl, hj, hz⟩
  refine br_intro (fun hlt => ?_) (fun hge => ?_)
  · have hj' : j < l.length := by simp at hlt; omega
    refine ix_ld (e := 23) (k := .i64) (by kernel_rfl) h (by omega) (by omega) ?_
    refine Calls.mono num_spec ?_
    rintro e w2 ⟨rfl, rfl⟩
    have e8 : IntKind.i64.wrap ((j : Int) + 1) = ((j + 1 : Nat) : Int) := by rw [wrap_i64 (by omega) (by omega)]; omega
    have hmem : l.getD j 0 ∈ l := by rw [getD_lt l 0 hj']; exact List.getElem_mem hj'
    rw [Int.toNat_natCast]
    refine ⟨_, rfl, br_intro (fun hx => ?_) (fun hx => ?_)⟩
    · exact ⟨rfl, _, rfl, ⟨fun h => (by cases h), fun h => absurd (h _ hmem) (by simpa using hx)⟩⟩
    · refine ⟨⟨rfl, rfl, rfl, j + 1, e8, hj', ?_⟩, by rw [e8]; omega⟩
      rw [List.take_succ_eq_append_getElem hj']
      intro x hxm
      rcases List.mem_append.1 hxm with h1 | h1
      · exact hz x h1
      · have : x = l[j] := by simpa using h1
        rw [this, ← getD_lt l 0 hj']
        simpa using hx
  · have hj' : j = l.length := by simp at hge; omega
    subst hj'
    rw [List.take_length] at hz
    exact ⟨rfl, _, rfl, ⟨fun _ => hz, fun _ => rfl⟩⟩

/-- What reads as limbs of a number, of a size that the laws' own functions take. -/
def NumB (w : World) (s : Slc) (n : Nat) : Prop := ∃ l, Rd .u64 w s (nn l) ∧ l.length * 8 ≤ 140737488351232 ∧ ok B64 l ∧ val B64 l = n
theorem NumB.num {w : World} {s : Slc} {n : Nat} (h : NumB w s n) : Num w s n := by
  obtain ⟨l, h1, h2, h3, h4⟩ := h; exact ⟨l, h1, by omega, h3, h4⟩
theorem NumB.ahead {w w' : World} {s : Slc} {n : Nat} (h : NumB w s n) (ha : Ahead w w') : NumB w' s n := by
  obtain ⟨l, h1, h2⟩ := h; exact ⟨l, h1.ahead ha, h2⟩
theorem NumB.len {w : World} {s : Slc} {n : Nat} (h : NumB w s n) : (digs B64 n).length * 8 ≤ 140737488351232 ∧ (digs B32 n).length ≤ 2 ^ 45 - 1024 := by
  obtain ⟨l, h1, h2, h3, rfl⟩ := h
  have := Nat.len_le h3
  have := len32 h3
  omega
theorem own_numB {b : Nat} {w : World} {s : Slc} {n : Nat} (h : OwnNil b w s (digs B64 n)) (hl : (digs B64 n).length * 8 ≤ 140737488351232) : NumB w s n :=
  ⟨_, h.rd, hl, ok_digs two64 _, val_digs two64 _⟩
theorem own_numB' {b : Nat} {w : World} {s : Slc} {n : Nat} (h : OwnNil b w s (digs B64 n)) (hl : bl n ≤ 67108864) : NumB w s n :=
  own_numB h (by have := digs_len_bl (N := n) (m := 2 ^ 20) (by omega); omega)

theorem same2_spec {w : World} {a b : Slc} {x y : Nat} (ha : NumB w a x) (hb : NumB w b y) :
    Calls pr surdlaw02_same_id #[a.v, b.v] w fun e w' => Ahead w w' ∧ e = .returned (.bool (decide (x = y))) := by
  have l1 := ha.len
  have l2 := hb.len
  obtain ⟨l, ra, na, oa, rfl⟩ := ha
  obtain ⟨m, rb, nb, ob, rfl⟩ := hb
  refine surdlaw02_same_vc a b w _ (Calls.mono (Of_spec ra na oa) ?_)
  rintro e w1 ⟨h1, s, rfl, rs⟩
  refine ⟨_, rfl, Calls.mono (Of_spec (rb.ahead h1) nb ob) ?_⟩
  rintro e w2 ⟨h2, t, rfl, rt⟩
  refine ⟨_, rfl, Calls.mono (Ref.Cmp_spec (rs.ahead h2) rt (by omega) (by omega)) ?_⟩
  rintro e w3 ⟨h3, rfl⟩
  refine ⟨_, rfl, (h1.trans h2).trans h3, ?_⟩
  congr 2
  by_cases h : val B64 l = val B64 m
  · rw [cmpI_zero.2 h]; simp [h]
  · have : ¬ cmpI (val B64 l) (val B64 m) = 0 := fun e => h (cmpI_zero.1 e)
    simp [h, this]

theorem sum2_spec {w : World} {a b : Slc} {x y : Nat} (ha : NumB w a x) (hb : NumB w b y) (hl : (digs B64 (x + y)).length * 8 ≤ 140737488351232) :
    Calls pr surdlaw02_sum_id #[a.v, b.v] w fun e w' => Ahead w w' ∧ ∃ s, e = .returned (Slc.v s) ∧ NumB w' s (x + y) := by
  have l1 := ha.len
  have l2 := hb.len
  obtain ⟨l, ra, na, oa, rfl⟩ := ha
  obtain ⟨m, rb, nb, ob, rfl⟩ := hb
  refine surdlaw02_sum_vc a b w _ (Calls.mono (Of_spec ra na oa) ?_)
  rintro e w1 ⟨h1, s, rfl, rs⟩
  refine ⟨_, rfl, Calls.mono (Of_spec (rb.ahead h1) nb ob) ?_⟩
  rintro e w2 ⟨h2, t, rfl, rt⟩
  refine ⟨_, rfl, Calls.mono (Ref.Add_spec (rs.ahead h2) rt (by omega) (by omega)) ?_⟩
  rintro e w3 ⟨h3, u, rfl, ru⟩
  refine ⟨_, rfl, Calls.mono (Ref.Limbs_spec ru (by omega)) ?_⟩
  rintro e w4 ⟨h4, v, rfl, ov⟩
  exact ⟨_, rfl, ((h1.trans h2).trans h3).trans h4, _, rfl, own_numB ov hl⟩

theorem small_sum {x y : Nat} (h : bigC (x * y) = 0) (hx : (digs B64 x).length * 8 ≤ 140737488351232) (hy : (digs B64 y).length * 8 ≤ 140737488351232) : (digs B64 (x + y)).length * 8 ≤ 140737488351232 := by
  by_cases h1 : x = 0
  · subst h1; rw [Nat.zero_add]; exact hy
  · by_cases h2 : y = 0
    · subst h2; exact hx
    · have := bigC_bl h
      have h3 := bl_mul h1 h2
      have p1 := bl_pos h1
      have p2 := bl_pos h2
      have l1 := digs_len_bl (N := x) (m := 2 ^ 21) (by omega)
      have l2 := digs_len_bl (N := y) (m := 2 ^ 21) (by omega)
      have := Ref.digs_add_len two64 l1 l2
      omega
theorem sq_small {x : Nat} (h : bigC (x * x) = 0) : bl x ≤ 67108864 := by
  by_cases h1 : x = 0
  · subst h1; rw [bl_zero]; omega
  · have := bigC_bl h
    have h3 := bl_mul h1 h1
    have p1 := bl_pos h1
    omega

theorem MulRing_ok {w : World} {s0 s1 s2 : Slc} {l0 l1 l2 : List Nat} (r0 : Rd .u64 w s0 (nn l0)) (o0 : ok B64 l0) (n0 : l0.length * 8 ≤ 140737488351232)
    (r1 : Rd .u64 w s1 (nn l1)) (o1 : ok B64 l1) (n1 : l1.length * 8 ≤ 140737488351232) (r2 : Rd .u64 w s2 (nn l2)) (o2 : ok B64 l2) (n2 : l2.length * 8 ≤ 140737488351232) :
    Calls pr surdlaw02_MulRing_id #[s0.v, s1.v, s2.v] w (Yes w) := by
  have a0 : NumB w s0 (val B64 l0) := ⟨l0, r0, n0, o0, rfl⟩
  have b0 : NumB w s1 (val B64 l1) := ⟨l1, r1, n1, o1, rfl⟩
  have c0 : NumB w s2 (val B64 l2) := ⟨l2, r2, n2, o2, rfl⟩
  generalize val B64 l0 = X at *
  generalize val B64 l1 = Y at *
  generalize val B64 l2 = Z at *
  have xl := a0.len
  have yl := b0.len
  have zl := c0.len
  refine surdlaw02_MulRing_vc s0 s1 s2 w _ (Calls.mono (Mul_spec a0.num b0.num (by omega) (by omega)) ?_)
  rintro e w1 ⟨h1, ab, rfl, oab⟩
  refine ⟨_, _, rfl, Calls.mono (Mul_spec (b0.ahead h1).num (a0.ahead h1).num (by omega) (by omega)) ?_⟩
  rintro e w2 ⟨h2, ba, rfl, oba⟩
  have h02 := h1.trans h2
  refine ⟨_, _, rfl, Calls.mono (Mul_spec (a0.ahead h02).num (c0.ahead h02).num (by omega) (by omega)) ?_⟩
  rintro e w3 ⟨h3, ac, rfl, oac⟩
  have h03 := h02.trans h3
  refine ⟨_, _, rfl, Calls.mono (Mul_spec (b0.ahead h03).num (c0.ahead h03).num (by omega) (by omega)) ?_⟩
  rintro e w4 ⟨h4, bc, rfl, obc⟩
  have h04 := h03.trans h4
  refine ⟨_, _, rfl, ?_⟩
  have q5 := Ahead.alloc w4 (.cells (ints .i64 [bigC (X * Y), bigC (Y * X), bigC (X * Z), bigC (Y * Z)]).toArray 23 (0, 0))
  refine Calls.mono (all_spec (lit_rd .i64 23 w4 [bigC (X * Y), bigC (Y * X), bigC (X * Z), bigC (Y * Z)]) (by simp)) ?_
  rintro e w6 ⟨e_w6, c, rfl, hc⟩
  have q5 : Ahead _ w6 := e_w6 ▸ q5
  have h06 := h04.trans q5
  refine ⟨_, rfl, br_intro (fun _ => end_awake h06) (fun hcc => ?_)⟩
  have hall := hc.1 (by simpa using hcc)
  have k1 : bigC (X * Y) = 0 := hall _ (by simp)
  have k2 : bigC (Y * X) = 0 := hall _ (by simp)
  have k3 : bigC (X * Z) = 0 := hall _ (by simp)
  have k4 : bigC (Y * Z) = 0 := hall _ (by simp)
  rw [k1, if_pos rfl] at oab
  rw [k2, if_pos rfl] at oba
  rw [k3, if_pos rfl] at oac
  rw [k4, if_pos rfl] at obc
  have h46 := q5
  have nab := (((own_numB' oab (bigC_bl k1)).ahead h2).ahead h3).ahead (h4.trans h46)
  have nba := ((own_numB' oba (bigC_bl k2)).ahead h3).ahead (h4.trans h46)
  have nac := (own_numB' oac (bigC_bl k3)).ahead (h4.trans h46)
  have nbc := (own_numB' obc (bigC_bl k4)).ahead h46
  have lab := nab.len
  have lba := nba.len
  have lac := nac.len
  have lbc := nbc.len
  have h06' : Ahead w w6 := h06
  have a6 := a0.ahead h06'
  have b6 := b0.ahead h06'
  have c6 := c0.ahead h06'
  clear hc hcc hall h46 q5 h04 h03 h02
  refine Calls.mono (Mul_spec nab.num c6.num (by omega) (by omega)) ?_
  rintro e w8 ⟨h8, le, rfl, ole⟩
  refine ⟨_, _, rfl, Calls.mono (Mul_spec (a6.ahead h8).num (nbc.ahead h8).num (by omega) (by omega)) ?_⟩
  rintro e w9 ⟨h9, ri, rfl, ori⟩
  have h69 := h8.trans h9
  have hs1 := small_sum k4 yl.1 zl.1
  refine ⟨_, _, rfl, Calls.mono (sum2_spec (b6.ahead h69) (c6.ahead h69) hs1) ?_⟩
  rintro e w10 ⟨h10, bc', rfl, nbc'⟩
  have h610 := h69.trans h10
  refine ⟨_, rfl, Calls.mono (Mul_spec (a6.ahead h610).num nbc'.num (by omega) (by omega)) ?_⟩
  rintro e w11 ⟨h11, ou, rfl, oou⟩
  have h611 := h610.trans h11
  refine ⟨_, _, rfl, ?_⟩
  have q12 := Ahead.alloc w11 (.cells (ints .i64 [bigC (X * Y * Z), bigC (X * (Y * Z)), bigC (X * (Y + Z))]).toArray 23 (0, 0))
  refine Calls.mono (all_spec (lit_rd .i64 23 w11 [bigC (X * Y * Z), bigC (X * (Y * Z)), bigC (X * (Y + Z))]) (by simp)) ?_
  rintro e w13 ⟨e_w13, c, rfl, hc⟩
  have q12 : Ahead _ w13 := e_w13 ▸ q12
  have h613 := h611.trans q12
  have h013 := h06'.trans h613
  have eab : X * Y = Y * X := Nat.mul_comm _ _
  have step1 : ∀ w', Ahead w6 w' → Calls pr surdlaw02_same_id #[ab.v, ba.v] w' fun e w'' => Ahead w' w'' ∧ e = .returned (.bool true) := fun w' ha =>
    Calls.mono (same2_spec (nab.ahead ha) (nba.ahead ha)) fun e w'' ⟨h1, h2⟩ => ⟨h1, by rw [h2]; simp [eab]⟩
  refine ⟨_, rfl, br_intro (fun _ => ?_) (fun hcc => ?_)⟩
  · refine Calls.mono (step1 _ h613) ?_
    rintro e w14 ⟨h14, rfl⟩
    exact ⟨_, rfl, br_true rfl (end_awake (h013.trans h14))⟩
  have hall := hc.1 (by simpa using hcc)
  have k5 : bigC (X * Y * Z) = 0 := hall _ (by simp)
  have k6 : bigC (X * (Y * Z)) = 0 := hall _ (by simp)
  have k7 : bigC (X * (Y + Z)) = 0 := hall _ (by simp)
  rw [k5, if_pos rfl] at ole
  rw [k6, if_pos rfl] at ori
  rw [k7, if_pos rfl] at oou
  have nle := (((own_numB' ole (bigC_bl k5)).ahead h9).ahead h10).ahead (h11.trans q12)
  have nri := ((own_numB' ori (bigC_bl k6)).ahead h10).ahead (h11.trans q12)
  have nou := (own_numB' oou (bigC_bl k7)).ahead q12
  have step2 : ∀ w', Ahead w13 w' → Calls pr surdlaw02_same_id #[le.v, ri.v] w' fun e w'' => Ahead w' w'' ∧ e = .returned (.bool true) := fun w' ha =>
    Calls.mono (same2_spec (nle.ahead ha) (nri.ahead ha)) fun e w'' ⟨h1, h2⟩ => ⟨h1, by rw [h2]; simp [Nat.mul_assoc]⟩
  have sz : ∀ x y : Nat, bl x ≤ 67108864 → bl y ≤ 67108864 → (digs B64 (x + y)).length ≤ 2 ^ 20 + 1 := fun x y hx hy =>
    Ref.digs_add_len two64 (digs_len_bl (by omega)) (digs_len_bl (by omega))
  have hs2 := sz (X * Y) (X * Z) (bigC_bl k1) (bigC_bl k3)
  have step3 : ∀ w', Ahead w13 w' → Calls pr surdlaw02_sum_id #[ab.v, ac.v] w' fun e w'' => Ahead w' w'' ∧ ∃ s, e = .returned (Slc.v s) ∧ NumB w'' s (X * Y + X * Z) := fun w' ha =>
    sum2_spec ((nab.ahead h613).ahead ha) ((nac.ahead h613).ahead ha) (by omega)
  have a13 := a6.ahead h613
  have b13 := b6.ahead h613
  have hs3 := small_sum k1 xl.1 yl.1
  refine Calls.mono (sum2_spec a13 b13 hs3) ?_
  rintro e w16 ⟨h16, sab, rfl, nsab⟩
  refine ⟨_, rfl, mul_Square_vc sab w16 _ (Calls.mono (Mul_spec nsab.num nsab.num (by omega) (by omega)) ?_)⟩
  rintro e w17 ⟨h17, sq, rfl, osq⟩
  have h1317 := h16.trans h17
  refine ⟨_, _, rfl, _, _, rfl, mul_Square_vc s0 w17 _ (Calls.mono (Mul_spec (a13.ahead h1317).num (a13.ahead h1317).num (by omega) (by omega)) ?_)⟩
  rintro e w18 ⟨h18, xx, rfl, oxx⟩
  have h1318 := h1317.trans h18
  refine ⟨_, _, rfl, _, _, rfl, mul_Square_vc s1 w18 _ (Calls.mono (Mul_spec (b13.ahead h1318).num (b13.ahead h1318).num (by omega) (by omega)) ?_)⟩
  rintro e w19 ⟨h19, yy, rfl, oyy⟩
  have h1319 := h1318.trans h19
  refine ⟨_, _, rfl, _, _, rfl, ?_⟩
  have q20 := Ahead.alloc w19 (.cells (ints .i64 [bigC ((X + Y) * (X + Y)), bigC (X * X), bigC (Y * Y)]).toArray 23 (0, 0))
  refine Calls.mono (all_spec (lit_rd .i64 23 w19 [bigC ((X + Y) * (X + Y)), bigC (X * X), bigC (Y * Y)]) (by simp)) ?_
  rintro e w21 ⟨e_w21, c, rfl, hc⟩
  have q20 : Ahead _ w21 := e_w21 ▸ q20
  have h1321 := h1319.trans q20
  have edist : X * (Y + Z) = X * Y + X * Z := Nat.mul_add _ _ _
  refine ⟨_, rfl, br_intro (fun _ => ?_) (fun hcc => ?_)⟩
  · refine Calls.mono (step1 _ (h613.trans h1321)) ?_
    rintro e w22 ⟨h22, rfl⟩
    refine ⟨_, rfl, br_true rfl (Calls.mono (step2 _ (h1321.trans h22)) ?_)⟩
    rintro e w23 ⟨h23, rfl⟩
    have h1323 := (h1321.trans h22).trans h23
    refine ⟨_, rfl, br_true rfl (Calls.mono (step3 _ h1323) ?_)⟩
    rintro e w24 ⟨h24, sm, rfl, nsm⟩
    refine ⟨_, rfl, Calls.mono (same2_spec (nou.ahead (h1323.trans h24)) nsm) ?_⟩
    rintro e w25 ⟨h25, rfl⟩
    exact ⟨_, rfl, br_true (by simp [edist]) (end_awake (((h013.trans h1323).trans h24).trans h25))⟩
  have hall := hc.1 (by simpa using hcc)
  have k8 : bigC ((X + Y) * (X + Y)) = 0 := hall _ (by simp)
  have k9 : bigC (X * X) = 0 := hall _ (by simp)
  have k10 : bigC (Y * Y) = 0 := hall _ (by simp)
  rw [k8, if_pos rfl] at osq
  rw [k9, if_pos rfl] at oxx
  rw [k10, if_pos rfl] at oyy
  have nsq := ((own_numB' osq (bigC_bl k8)).ahead h18).ahead (h19.trans q20)
  have nxx := (own_numB' oxx (bigC_bl k9)).ahead (h19.trans q20)
  have nyy := (own_numB' oyy (bigC_bl k10)).ahead q20
  refine Calls.mono (step1 _ (h613.trans h1321)) ?_
  rintro e w27 ⟨h27, rfl⟩
  refine ⟨_, rfl, br_true rfl (Calls.mono (step2 _ (h1321.trans h27)) ?_)⟩
  rintro e w28 ⟨h28, rfl⟩
  have h2128 := h27.trans h28
  have h1328 := h1321.trans h2128
  refine ⟨_, rfl, br_true rfl (Calls.mono (step3 _ h1328) ?_)⟩
  rintro e w29 ⟨h29, sm, rfl, nsm⟩
  refine ⟨_, rfl, Calls.mono (same2_spec (nou.ahead (h1328.trans h29)) nsm) ?_⟩
  rintro e w30 ⟨h30, rfl⟩
  have h2130 := (h2128.trans h29).trans h30
  refine ⟨_, rfl, br_true (by simp [edist]) ?_⟩
  have hs4 := sz (X * X) (Y * Y) (bigC_bl k9) (bigC_bl k10)
  have hs5 := sz (X * Y) (X * Y) (bigC_bl k1) (bigC_bl k1)
  have hs6 := Ref.digs_add_len two64 hs4 hs5
  refine Calls.mono (sum2_spec (nxx.ahead h2130) (nyy.ahead h2130) (by omega)) ?_
  rintro e w31 ⟨h31, u, rfl, nu⟩
  have h2131 := h2130.trans h31
  refine ⟨_, rfl, Calls.mono (sum2_spec (((nab.ahead h613).ahead h1321).ahead h2131) (((nab.ahead h613).ahead h1321).ahead h2131) (by omega)) ?_⟩
  rintro e w32 ⟨h32, v, rfl, nv⟩
  refine ⟨_, rfl, Calls.mono (sum2_spec (nu.ahead h32) nv (by omega)) ?_⟩
  rintro e w33 ⟨h33, z, rfl, nz⟩
  have h2133 := (h2131.trans h32).trans h33
  refine ⟨_, rfl, Calls.mono (same2_spec (nsq.ahead h2133) nz) ?_⟩
  rintro e w34 ⟨h34, rfl⟩
  have esq : (X + Y) * (X + Y) = X * X + Y * Y + (X * Y + X * Y) := by
    rw [Nat.add_mul, Nat.mul_add, Nat.mul_add, Nat.mul_comm Y X]; omega
  exact ⟨_, rfl, br_true (by simp [esq]) (end_awake (((h013.trans h1321).trans h2133).trans h34))⟩

end Mul
end Go.Proofs.Ytindbeolpjkijaa
