/- The law DyadicRounds. No condition: the library's table is a premise. -/
import Derived.Test.YthhbjhdnaopcnaaDoorDy6
namespace Go.Proofs.YthhbjhdnaopcnaaDoor
open Go Go.RowKit Eng Sp Dg L2
set_option linter.unusedVariables false
set_option linter.unusedSimpArgs false
set_option maxRecDepth 100000
namespace Dy
open _root_.Go.Proofs.YthhbjhdnaopcnaaDoor.Nat (OwnNil Num Num.bl OwnNil.mono OwnNil.ext OwnNil.rd OwnNil.ahead digs_len_bl num_of Yes)
open _root_.Go.Proofs.YthhbjhdnaopcnaaDoor.Ref (RN RN.nil RN.ext RN.ahead Kept_spec Lent Lent.ahead Lent.ext Lent.part Lent.whole len_mono own_step len32 Bk)
open Sb

theorem of_spec {w : World} {neg : Bool} {s : Slc} {e : Int} {l : List Nat} (h : Rd .u64 w s (nn l)) (hl : l.length * 8 ≤ 140737488351232) (ol : ok B64 l) :
    Calls pr surdlaw08_of_id #[.agg (c3 neg s e)] w fun en w' => Ahead w w' ∧ ∃ s', en = .returned (.tuple #[.agg (c3 (if wi e then nD neg (val B64 l) else false) s' (if wi e then eD (val B64 l) e else 0)), .bool (decide (wi e))]) ∧ RN w' s' (if wi e then od (val B64 l) else 0) := by
  refine surdlaw08_of_v2 neg s e w _ fun w1 x1 a1 => Calls.mono Fits_spec ?_
  rintro en w2 ⟨rfl, rfl⟩
  refine ⟨_, rfl, Ahead.refl _, br_intro (fun hw => ?_) (fun hw => ?_)⟩
  · have hw' : ¬ wi e := by simpa using hw
    rw [if_neg hw', if_neg hw', if_neg hw', decide_eq_false hw']
    exact fun w3 x3 a3 => ⟨_, rfl, RN.nil⟩
  · have hw' : wi e := by simpa using hw
    rw [if_pos hw', if_pos hw', if_pos hw', decide_eq_true hw']
    intro w4 x4 a4
    refine Calls.mono (zOf_spec (h.ahead a4) hl ol) ?_
    rintro en w5 ⟨h5, s1, rfl, r1⟩
    have hx := len32 ol
    refine ⟨_, _, rfl, h5, Calls.mono (dOf_spec r1 (by omega) (by unfold wi at hw'; omega)) ?_⟩
    rintro en w6 ⟨h6, s2, rfl, r2⟩
    exact ⟨_, _, _, rfl, h6, fun w7 x7 a7 => ⟨s2, rfl, r2.ext x7⟩⟩
theorem mode_spec {w : World} {m : Int} : Calls pr surdlaw08_mode_id #[.int .i64 m] w fun e w' => w' = w ∧ e = .returned (.bool (decide (okM m))) := by
  refine surdlaw08_mode_vc m w _ (br_intro (fun h => ⟨rfl, ?_⟩) (fun h => ⟨rfl, ?_⟩))
  · have h1 : 0 ≤ m := by simpa using h
    congr 2
    simp [okM, h1]
  · have h1 : ¬ 0 ≤ m := by simpa using h
    congr 2
    simp [okM, h1]

/-- A program's answer (c, b4 s4 x3) beside the document's (f, b s5 x5): what 'alike' asks. -/
structure Beside (bs : Nat) (w' : World) (c f : Int) (b4 : Bool) (s4 : Slc) (x3 : Int) (b : Bool) (s5 : Slc) (x5 : Int) (N : Nat) (E : Int) (neg : Bool) : Prop where
  r : RN w' s5 N
  len : (digs B32 N).length ≤ 2 ^ 46
  code : c = if f = 0 then tK N E else f
  wn : f = 0 → b = neg
  we : f = 0 → x5 = E
  pn : b4 = if c = 0 then neg else false
  pe : x3 = if c = 0 then E else 0
  o : OwnNil bs w' s4 (if c = 0 then digs B64 N else [])
  len64 : bl N ≤ 67108864 → (digs B64 N).length ≤ 2 ^ 44
theorem Beside.ext {bs : Nat} {w w' : World} {c f : Int} {b4 : Bool} {s4 : Slc} {x3 : Int} {b : Bool} {s5 : Slc} {x5 : Int} {N : Nat} {E : Int} {neg : Bool} (h : Beside bs w c f b4 s4 x3 b s5 x5 N E neg) (x : Ext w w') : Beside bs w' c f b4 s4 x3 b s5 x5 N E neg :=
  ⟨h.r.ext x, h.len, h.code, h.wn, h.we, h.pn, h.pe, h.o.ext x, h.len64⟩
theorem Beside.alike {bs : Nat} {w : World} {c f : Int} {b4 : Bool} {s4 : Slc} {x3 : Int} {b : Bool} {s5 : Slc} {x5 : Int} {N : Nat} {E : Int} {neg : Bool} (h : Beside bs w c f b4 s4 x3 b s5 x5 N E neg) :
    Calls pr surdlaw08_alike_id #[.agg (c3 b4 s4 x3), .int .i64 c, .agg (c3 b s5 x5), .int .i64 f] w fun en w' => Ahead w w' ∧ en = .returned (.bool true) := by
  have := alike_spec (w := w) (neg := neg) (s := s4) (t := s5) (n := N) (e := E) (e2 := x5) (code := c) (f := f) (wn := b) h.r h.len h.code h.wn h.we h.o.rd h.len64
  rw [← h.pn, ← h.pe] at this
  exact this
theorem tK_own {N : Nat} {E c f : Int} (h : c = if f = 0 then tK N E else f) (hf : f ≠ 0 → f ≠ 0) : ((if c = 0 then digs B64 N else []).length + 5) * 8 ≤ 2 ^ 47 := by
  by_cases hc : c = 0
  · rw [if_pos hc]
    have hb : bl N ≤ 67108864 := by
      by_cases h0 : f = 0
      · rw [if_pos h0, hc] at h
        exact tK_bl h.symm
      · rw [if_neg h0] at h; omega
    have := digs_len_bl (N := N) (m := 2 ^ 20) (by omega)
    omega
  · rw [if_neg hc]; simp
theorem len64_of {N : Nat} : bl N ≤ 67108864 → (digs B64 N).length ≤ 2 ^ 44 := fun h => by
  have := digs_len_bl (N := N) (m := 2 ^ 20) (by omega)
  omega
theorem tC_tK (x : Nat) (e : Int) : tC x e = tK (od x) (eD x e) := rfl
/-- An answer in lowest terms beside what the document has. -/
theorem DOut.beside {w w' w1 : World} {c f : Int} {neg : Bool} {x : Nat} {e : Int} {s t : Slc} {bs : Nat} {b : Bool} {x5 : Int} (ho : OwnNil bs w' s (if c = 0 then digs B64 (od x) else [])) (hr : RN w' t (od x)) (hl : (digs B32 x).length ≤ 2 ^ 46)
    (hc : c = if f = 0 then tC x e else f) (hb : f = 0 → b = nD neg x) (he : f = 0 → x5 = eD x e) :
    Beside bs w' c f (if c = 0 then nD neg x else false) s (if c = 0 then eD x e else 0) b t x5 (od x) (eD x e) (nD neg x) :=
  ⟨hr, Nat.le_trans (len_mono two32 (od_le x)) hl, hc, hb, he, rfl, rfl, ho, len64_of⟩
/-- A refusal beside the document's. -/
theorem refused_beside {w' : World} {c : Int} {s : Slc} {bs : Nat} {b4 b : Bool} {x3 x5 : Int} {t : Slc} (h0 : c ≠ 0) (ho : OwnNil bs w' s []) (hb : b4 = false) (hx : x3 = 0) : Beside bs w' c c b4 s x3 b ⟨none, 0, 0⟩ x5 0 0 false :=
  ⟨RN.nil, by rw [digs_zero]; simp, by rw [if_neg h0], fun h => absurd h h0, fun h => absurd h h0, by rw [if_neg h0]; exact hb, by rw [if_neg h0]; exact hx, by rw [if_neg h0]; exact ho, fun _ => by rw [digs_zero]; simp⟩

theorem DyadicRounds_ok {w : World} (hT : Tab w) {n0 : Bool} {s0 : Slc} {e0 : Int} {l0 : List Nat} (r0 : Rd .u64 w s0 (nn l0)) (o0 : ok B64 l0) (z0 : l0.length * 8 ≤ 140737488351232) (he0 : -9223372036854775808 ≤ e0 ∧ e0 ≤ 9223372036854775807)
    {x1 x2 : Int} (hx1 : -9223372036854775808 ≤ x1 ∧ x1 ≤ 9223372036854775807) (hx2 : -9223372036854775808 ≤ x2 ∧ x2 ≤ 9223372036854775807) :
    Calls pr surdlaw08_DyadicRounds_id #[.agg (c3 n0 s0 e0), .int .i64 x1, .int .i64 x2] w (Yes w) := by
  have hdl := Nat.len_le o0
  have h32 := len32 o0
  refine Calls.mono (surdlaw08_DyadicRounds_v2 n0 s0 e0 x1 x2 w (fun e _ => e = .returned (.bool true))
    (fun t7 t12 t13 _ s' _ b4 s4 x3 b s5 x5 w' => s0 = s' ∧ ∃ (bs : Nat) (t : Slc) (N : Nat) (E : Int) (neg : Bool), bs ≤ w'.heap.size ∧ w.heap.size ≤ bs ∧ (∀ k, Bk t7 k → k < bs) ∧ Lent w.heap.size w' t7 t l0 ∧ Beside bs w' t12 t13 b4 s4 x3 b s5 x5 N E neg) ?_ ?_) fun e w' ⟨h1, h2⟩ => ⟨h2, h1⟩
  · intro w1 X1 a1
    refine Calls.mono (lent_spec (r0.ahead a1) z0 o0) ?_
    rintro en w2 ⟨h2, wa, pa, rfl, L2⟩
    have hbk : ∀ k, Bk wa k → k < w2.heap.size := fun k hk => by
      obtain ⟨b, q1, q2, q3, q4⟩ := L2
      have : b = k := congrArg Addr.block (Option.some.inj (q3.A.symm.trans hk))
      have := q3.lt
      omega
    have L2' : Lent w.heap.size w2 wa pa l0 := by
      obtain ⟨b, q1, q2⟩ := L2
      exact ⟨b, Nat.le_trans a1.size q1, q2⟩
    have a2 := a1.trans h2
    refine ⟨_, _, _, _, rfl, h2, fun w3 X3 a3 => Calls.mono (of_spec (r0.ahead a3) z0 o0) ?_⟩
    rintro en w4 ⟨h4, sv, rfl, rv⟩
    have a4 := a3.trans h4
    refine ⟨_, _, _, _, rfl, h4, fun w5 X5 a5 => ?_⟩
    have L5 := ((L2'.ext X3).ahead h4).ext X5
    have np : Num w5 pa (val B64 l0) := num_of L5.part o0 z0
    generalize val B64 l0 = X at *
    refine Calls.mono (Round_spec (hT.ahead a5) np (by omega)) ?_
    rintro en w6 ⟨h6, sp, rfl, op⟩
    have a6 := a5.trans h6
    have L6 := L5.ahead h6
    have hb5 : ∀ k, Bk wa k → k < w5.heap.size := fun k hk => by
      have := hbk k hk
      have := X3.size; have := h4.size; have := X5.size
      omega
    -- a refusal
    have ref : ∀ (c : Int) (w7 : World), rdC n0 X e0 x1 x2 = c → c ≠ 0 → Ext w6 w7 → Ahead w w7 →
        s0 = s0 ∧ ∃ (bs : Nat) (t : Slc) (N : Nat) (E : Int) (neg : Bool), bs ≤ w7.heap.size ∧ w.heap.size ≤ bs ∧ (∀ k, Bk wa k → k < bs) ∧ Lent w.heap.size w7 wa t l0 ∧
          Beside bs w7 (rdC n0 X e0 x1 x2) c (if rdC n0 X e0 x1 x2 = 0 then nD (nD n0 X) (rX (nD n0 X) (od X) (eD X e0) x1 x2) else false) sp (if rdC n0 X e0 x1 x2 = 0 then eD (rX (nD n0 X) (od X) (eD X e0) x1 x2) (rE (od X) (eD X e0) x1) else 0) false ⟨none, 0, 0⟩ 0 N E neg := by
      intro c w7 hc h0 X7 a7
      refine ⟨rfl, w5.heap.size, pa, 0, 0, false, ?_, a5.size, hb5, L6.ext X7, ?_⟩
      · have := h6.size; have := X7.size; omega
      · rw [hc] at op ⊢
        rw [if_neg h0] at op
        exact refused_beside (t := sp) h0 (op.ext X7) (if_neg h0) (if_neg h0)
    refine ⟨_, _, _, _, rfl, h6, br_intro (fun hw => fun w7 X7 a7 => ?_) (fun hw => fun w7 X7 a7 => ?_)⟩
    · have hw' : ¬ wi e0 := by simpa using hw
      exact ref 80 w7 (if_neg hw') (by omega) X7 a7
    · have hw' : wi e0 := by simpa using hw
      refine Calls.mono fit_spec ?_
      rintro en w14 ⟨rfl, rfl⟩
      refine ⟨_, rfl, Ahead.refl _, br_intro (fun hk => ?_) (fun hk => ?_)⟩
      · have hk' : ¬ wi x1 := by simpa using hk
        exact ref 1 _ (by rw [rdC, if_pos hw', if_neg hk']) (by omega) X7 a7
      · have hk' : wi x1 := by simpa using hk
        refine Calls.mono mode_spec ?_
        rintro en w15 ⟨rfl, rfl⟩
        refine ⟨_, rfl, Ahead.refl _, br_intro (fun hm => ?_) (fun hm => ?_)⟩
        · have hm' : ¬ okM x2 := by simpa using hm
          exact ref 81 _ (by rw [rdC, if_pos hw', if_pos hk', if_neg hm']) (by omega) X7 a7
        · have hm' : okM x2 := by simpa using hm
          rw [if_pos hw'] at rv
          rw [if_pos hw', if_pos hw']
          have rv7 : RN _ sv (od X) := ((rv.ext X5).ahead h6).ext X7
          have lo := len_mono two32 (od_le X)
          have hdr := dRound_spec (pos := x1) (m := x2) (e := eD X e0) rv7 (nD_od n0 X) (od_od X) (fun h => by rw [od_zero_iff] at h; rw [h, eD_zero]) hm' (by omega) (eD_far np hw') (by unfold wi at hk'; omega)
          refine Calls.mono hdr ?_
          rintro en w16 ⟨h16, s5, rfl, r5⟩
          refine ⟨_, _, _, rfl, h16, fun w17 X17 a17 => ⟨rfl, w5.heap.size, pa, od (rX (nD n0 X) (od X) (eD X e0) x1 x2), eD (rX (nD n0 X) (od X) (eD X e0) x1 x2) (rE (od X) (eD X e0) x1), nD (nD n0 X) (rX (nD n0 X) (od X) (eD X e0) x1 x2), ?_, a5.size, hb5, ((L6.ext X7).ahead h16).ext X17, ?_⟩⟩
          · have := h6.size; have := X7.size; have := h16.size; have := X17.size; omega
          · have hrx : rX (nD n0 X) (od X) (eD X e0) x1 x2 ≤ od X + 1 := by
              have := Nat.div_le_self (od X) (2 ^ (x1 - eD X e0).toNat)
              unfold rX rq; split <;> (try split) <;> omega
            have lx : (digs B32 (rX (nD n0 X) (od X) (eD X e0) x1 x2)).length ≤ 2 ^ 46 := by
              refine Nat.le_trans (dl_le two32 hrx) ?_
              have := dl_add (x := od X) (y := 1) (k := 2 ^ 45) (by omega) (by
                have : (digs B32 1).length ≤ 1 := digs_length_le two32 (by rw [Nat.pow_one, B32v]; omega)
                omega)
              omega
            refine DOut.beside (w := w) (w1 := w) (((op.ext X7).ahead h16).ext X17) (r5.ext X17) lx ?_ (fun _ => rfl) (fun _ => rfl)
            rw [if_pos rfl, rdC, if_pos hw', if_pos hk', if_pos hm']
  · rintro t7 c f _ _ _ b4 s4 x3 b s5 x5 w1 a1 ⟨rfl, bs, t, N, E, neg, hbs, hws, hbk, L1, hB⟩
    refine Calls.mono hB.alike ?_
    rintro en w7 ⟨h7, rfl⟩
    have a7 := a1.trans h7
    have o7 := hB.o.ahead h7
    refine ⟨_, rfl, h7, br_true rfl ?_⟩
    refine Calls.mono (own_step (w0 := w) (base := bs) hws [(s4, if c = 0 then digs B64 N else [])] (by have := h7.size; omega) ?_ (by simp) (by simp) rfl rfl) ?_
    · intro p hp
      simp only [List.mem_cons, List.not_mem_nil, or_false] at hp
      subst hp
      exact ⟨o7, tK_own hB.code id⟩
    rintro e w9 ⟨rfl, hst, hlow⟩
    have a9 : Ahead w w9 := Below.trans a7 (Below.mono hlow hws)
    have L9 : Rd .u64 w9 t7 (nn (Ref.lent l0)) := by
      obtain ⟨b, q1, q2, q3, q4⟩ := L1.ahead h7
      obtain ⟨sp, q5, q6⟩ := q3.mem
      have hb := hbk b q3.A
      exact Own.rd (b := b) (t := tU64) ⟨q3.hd, sp, q5, by rw [Below.block hlow b hb]; exact q6⟩
    refine ⟨_, rfl, hst, br_true rfl (Calls.mono (Kept_spec L9 (r0.ahead a9) z0) ?_)⟩
    rintro e w10 ⟨rfl, rfl⟩
    refine ⟨_, rfl, Ahead.refl _, br_true rfl (Calls.mono (awake_spec (hT.ahead a9)) ?_)⟩
    rintro e w11 ⟨rfl, h11⟩
    exact ⟨_, rfl, h11, rfl⟩

end Dy
end Go.Proofs.YthhbjhdnaopcnaaDoor
