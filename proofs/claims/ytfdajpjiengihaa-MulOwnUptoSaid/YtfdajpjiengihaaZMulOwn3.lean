/- What the law leans on, part 3. No condition. -/
import Derived.Test.YtfdajpjiengihaaZMulOwn2
namespace Go.Proofs.Ytfdajpjiengihaa
open Go Go.RowKit Eng
set_option linter.unusedVariables false

set_option maxRecDepth 100000 in
/-- surd/surdlaw02.answers: function 29. -/
theorem surdlaw02_answers_vc (a0 : Slc) (a1 : Slc) (a2 : Int) (w : World) (R : Ending → World → Prop)
    
    (h : Calls Try.prog 9 #[a0.v, a1.v] w fun e1 w1 =>
    ∃ s1 : Slc, ∃ x1 : Int, e1 = .returned (Value.tuple #[s1.v, Value.int .i64 x1]) ∧
    (Calls Try.prog 53 #[s1.v, Value.int .i64 a2] w1 fun e2 w2 =>
     ∃ s2 : Slc, ∃ s3 : Slc, ∃ x2 : Int, e2 = .returned (Value.tuple #[s2.v, s3.v, Value.int .i64 x2]) ∧
     (Calls Try.prog 54 #[a0.v, a1.v, Value.int .i64 a2] w2 fun e3 w3 =>
      ∃ s4 : Slc, ∃ s5 : Slc, ∃ s6 : Slc, ∃ x3 : Int, e3 = .returned (Value.tuple #[s4.v, s5.v, s6.v, Value.int .i64 x3]) ∧
      (Calls Try.prog 43 #[a0.v] w3 fun e4 w4 =>
       ∃ s7 : Slc, ∃ x4 : Int, e4 = .returned (Value.tuple #[s7.v, Value.int .i64 x4]) ∧
       (Calls Try.prog 55 #[a0.v, a1.v, Value.int .i64 (IntKind.i64.wrap (64 * a2))] w4 fun e5 w5 =>
        ∃ s8 : Slc, ∃ x5 : Int, e5 = .returned (Value.tuple #[s8.v, Value.int .i64 x5]) ∧
        (Calls Try.prog 56 #[a0.v, a1.v, Value.int .i64 (IntKind.i64.wrap (64 * a2))] w5 fun e6 w6 =>
         ∃ s9 : Slc, ∃ x6 : Int, e6 = .returned (Value.tuple #[s9.v, Value.int .i64 x6]) ∧
         (Calls Try.prog 14 #[a0.v, Value.int .i64 a2] w6 fun e7 w7 =>
          ∃ s10 : Slc, ∃ x7 : Int, e7 = .returned (Value.tuple #[s10.v, Value.int .i64 x7]) ∧
          (newC w7 #[a0.v, a1.v] 24 fun ad1 w8 =>
           Calls Try.prog 25 #[(⟨some ad1, 2, 2⟩ : Slc).v] w8 fun e8 w9 =>
           ∃ s11 : Slc, ∃ x8 : Int, e8 = .returned (Value.tuple #[s11.v, Value.int .i64 x8]) ∧
           (newC w9 #[Value.int .i64 x1, Value.int .i64 x2, Value.int .i64 x3, Value.int .i64 x4, Value.int .i64 x5, Value.int .i64 x6, Value.int .i64 x7, Value.int .i64 x8] 25 fun ad2 w10 =>
            Calls Try.prog 10 #[(⟨some ad2, 8, 8⟩ : Slc).v] w10 fun e9 w11 =>
            ∃ b1 : Bool, e9 = .returned (Value.bool b1) ∧
            (br (!b1)
             (R (.returned ((⟨none, 0, 0⟩ : Slc).v)) w11)
             (newC w11 #[s1.v, s2.v, s3.v, s4.v, s5.v, s6.v, s7.v, s8.v, s9.v, s10.v, s11.v] 23 fun ad3 w12 =>
              R (.returned ((⟨some ad3, 11, 11⟩ : Slc).v)) w12))))))))))) :
    Calls Try.prog 29 #[a0.v, a1.v, Value.int .i64 a2] w R := by
  refine calls_of_vc (fun _ => none) (by kernel_rfl) Try.func29 rfl ?_ ?_
  · refine kcast h ?_; kernel_rfl
  · exact (obl_seq rfl (obl_reg (obl_seq rfl (obl_reg (obl_seq rfl (obl_reg (obl_seq rfl (obl_reg (obl_seq rfl (obl_reg (obl_seq rfl (obl_reg (obl_seq rfl (obl_reg (obl_seq rfl (obl_reg (obl_seq rfl (obl_reg (obl_seq rfl (obl_seq rfl (obl_reg (obl_cond (obl_seq rfl (obl_reg (obl_ret (obl_skip (obl_seq rfl (obl_reg (obl_ret trivial)))))))))))))))))))))))))))))

end Go.Proofs.Ytfdajpjiengihaa
namespace Go.Proofs.Ytfdajpjiengihaa
open Go Go.RowKit Eng Sp Dg
set_option linter.unusedVariables false
set_option linter.unusedSimpArgs false
set_option maxRecDepth 100000
namespace Mo
open _root_.Go.Proofs.Ytfdajpjiengihaa.Nat (OwnNil OwnNil.nil OwnNil.rd OwnNil.ahead OwnNil.mono Num Num.ahead Num.bl digs_len_bl Ret bigC bigC_ok own_num len_num From_spec Norm_spec num_of ldN stN mkN Yes)
open _root_.Go.Proofs.Ytfdajpjiengihaa.Ref (RN RN.ahead Bk St OwnNil.block Own_spec old_new)
open _root_.Go.Proofs.Ytfdajpjiengihaa.Mul (Mul_spec bigC_bl all_spec lit_rd Split_spec splitC Parts_spec partsC mLow_spec lowM mHigh_spec highM Pow_spec bl_le_mul)
open Mm
open Sb

abbrev PL := List (Slc × List Nat)
structure OwnAll (base : Nat) (w : World) (ps : PL) : Prop where
  own : ∀ p ∈ ps, OwnNil base w p.1 p.2 ∧ p.2.length ≤ 2 ^ 30
  ap : ps.Pairwise fun p q => ∀ k, Bk p.1 k → ¬ Bk q.1 k
theorem OwnAll.ahead {base : Nat} {w w' : World} {ps : PL} (h : OwnAll base w ps) (ha : Ahead w w') : OwnAll base w' ps :=
  ⟨fun p hp => ⟨(h.own p hp).1.ahead ha, (h.own p hp).2⟩, h.ap⟩
theorem OwnAll.mono {b b' : Nat} {w : World} {ps : PL} (h : OwnAll b w ps) (hb : b' ≤ b) : OwnAll b' w ps :=
  ⟨fun p hp => ⟨(h.own p hp).1.mono hb, (h.own p hp).2⟩, h.ap⟩
theorem OwnAll.append {base m : Nat} {w w' : World} {ps qs : PL} (h : OwnAll base w ps) (ha : Ahead w w') (hb : base ≤ w.heap.size) (hm : w.heap.size ≤ m) (k : OwnAll m w' qs) : OwnAll base w' (ps ++ qs) := by
  refine ⟨fun p hp => ?_, List.pairwise_append.2 ⟨h.ap, k.ap, fun p hp q hq j => old_new (h.own p hp).1 hm (k.own q hq).1 j⟩⟩
  rcases List.mem_append.1 hp with h1 | h1
  · exact (h.ahead ha).own p h1
  · exact (k.mono (by omega)).own p h1
theorem OwnAll.one {m : Nat} {w : World} {t : Slc} {l : List Nat} (h : OwnNil m w t l) (hl : l.length ≤ 2 ^ 30) : OwnAll m w [(t, l)] :=
  ⟨fun p hp => by have : p = (t, l) := by simpa using hp
                  subst this; exact ⟨h, hl⟩, by simp⟩
theorem lit_rdL (w : World) (t : TypeId) (ss : List Slc) : RdL (w.alloc (.cells (slcs ss).toArray t (0, 0))) ⟨some ⟨w.heap.size, 0, none⟩, ss.length, ss.length⟩ ss :=
  ⟨rfl, Nat.le_refl _, fun i hi => ⟨_, rfl, by
    rw [add_off]
    have := slcs_get hi
    simp only [World.cell?, get_alloc]
    simpa using this⟩⟩
/-- append of a row of slices. -/
theorem appL {t e ty : TypeId} {base : Nat} {w : World} {s x : Slc} {ss ys : List Slc} (h : SRow e base w s ss) (hb : base ≤ w.heap.size) (hx : RdL w x ys) (hy : 0 < ys.length) (hsz : (ss.length + ys.length) * 24 ≤ 2 ^ 47) {K : Slc → World → Prop}
    (hk : ∀ s' w', SRow e base w' s' (ss ++ ys) → w.grownBy w' s.v.ownBlock → K s' w') (hT : slB pr t e = true := by kernel_rfl) :
    semS pr (Builtin.append_ #[t, t] ty #[s.v, x.v]) w K := by
  obtain ⟨hu, inf, hinf, hs, hby, hz⟩ := slB_out hT
  have hrow : w.ownsRow base e 1 s.v ss.length (slcs ss) := by
    rcases h with ⟨rfl, rfl⟩ | ⟨_, h⟩
    · exact World.ownsRow_nil w base e 1
    · exact h
  obtain ⟨ad, hA, _⟩ := hx.get 0 hy
  obtain ⟨v', w', hr, ho, hg, hn, hat⟩ := run_append_own_at (P := pr) (ty := ty) w base t e inf (.slice none 0 0) 1 24 hu hinf hz hs hby rfl (by omega) s.v ss.length (slcs ss) hrow ad ys.length x.c (slcs ys) (by simp [slcs])
    (fun j u hj => by
      have hj' : j < ys.length := by
        have := (List.getElem?_eq_some_iff.1 hj).1
        simpa [slcs] using this
      obtain ⟨ad', e', hc⟩ := hx.get j hj'
      rw [hA] at e'
      obtain rfl := Option.some.inj e'
      rw [slcs_get hj'] at hj
      obtain rfl := Option.some.inj hj
      exact hc) (by simp [slcs, Value.oneCell', Slc.v]) (by unfold maxLen; omega) (by omega) hb
  have hlen : (ss ++ ys).length = ss.length + ys.length := by simp
  have hp : slcs (ss ++ ys) = slcs ss ++ slcs ys := by simp [slcs]
  rw [← hp, ← hlen] at ho
  have ho2 := ho
  obtain ⟨_, ⟨_, h0⟩ | ⟨g, cap, cur, rfl, _⟩⟩ := ho2
  · simp at h0; rw [h0.2] at hy; simp at hy
  · unfold semS
    have hxv : x.v = .slice (some ad) ys.length x.c := by rw [Slc.v, hA, hx.n]
    rw [Sem.wp_iff_run, hxv, hr]
    refine ⟨⟨some ⟨g, 0, none⟩, (ss ++ ys).length, cap⟩, rfl, hk _ _ (.inr ⟨fun h => ?_, ho⟩) hg⟩
    rw [List.append_eq_nil_iff] at h
    rw [h.2] at hy; simp at hy
theorem ixLf {t : TypeId} {w : World} {s : Slc} {ss : List Slc} (h : RdL w s ss) {i : Nat} (hi : i < ss.length) {x : Int} (hx : x = (i : Int)) {K : Slc → Prop} (hk : K (ss.getD i nilS)) (hT : slA pr t = true := by kernel_rfl) :
    fixA pr (Instr.indexAt t s.v (.int .i64 x)) w fun ad => ldS ad w K := by
  subst hx
  obtain ⟨ad, hA, hc⟩ := h.get i hi
  exact ⟨_, fun w' _ => run_ixL hT w' (ss := ss) hA (by rw [h.n]; exact hi), _, hc, hk⟩

/-- Own, of a row that grew. -/
theorem own_row {base : Nat} {wB w : World} {s : Slc} {ps : PL} (hrow : SRow tU64s wB.heap.size w s (ps.map Prod.fst)) (hne : ps ≠ []) (hall : OwnAll base wB ps) (hb : base ≤ wB.heap.size) (ha : Ahead wB w) (hn : ps.length ≤ 1000) :
    Calls pr surdref01_Own_id #[s.v] w fun e w' => e = .returned (.bool true) ∧ Below base w w' := by
  obtain ⟨g, cap, cur, rfl, hg, hh, hc, ht⟩ := hrow.out (by simpa using hne)
  have hget : ∀ j, j < ps.length → ps.getD j (nilS, []) ∈ ps := fun j hj => by rw [getD_lt _ _ hj]; exact List.getElem_mem hj
  have hgw : g < w.heap.size := (Array.getElem?_eq_some_iff.1 hh).1
  have hall' := hall.ahead ha
  have hlow : ∀ j, j < ps.length → ∀ k, Bk (ps.getD j (nilS, [])).1 k → base ≤ k ∧ k < wB.heap.size := by
    intro j hj k hk
    rcases (hall.own _ (hget j hj)).1 with ⟨h1, _⟩ | ⟨b, h1, _, ho⟩
    · rw [h1] at hk; simp [Bk] at hk
    · have e : b = k := congrArg Addr.block (Option.some.inj (ho.A.symm.trans hk))
      have := ho.lt
      omega
  rw [show (ps.map Prod.fst).length = ps.length by simp] at *
  refine Calls.mono (Own_spec (V := fun k => base ≤ k) (base := base) (w0 := w) (ab := g) (n := ps.length) (c := cap) (T := cur.toList.drop ps.length) (S := fun j => (ps.getD j (nilS, [])).1) (L := fun j => (ps.getD j (nilS, [])).2)
    ⟨Below.refl _ _, by omega, by have := ha.size; omega, ?_, fun j hj => (hall'.own _ (hget j hj)).1, fun j hj hbk => ?_, fun i j k hi hj hij h1 h2 => ?_, fun _ _ _ => rfl, by show base ≤ g; omega, fun k hk => ?_, fun j k hj hbk => (hlow j hj k hbk).1⟩ hn fun j hj => ?_) fun e w' ⟨⟨h1, _⟩, h2⟩ => ⟨h2, h1⟩
  · rw [hh]
    congr 2
    have e1 : (List.range ps.length).map (fun j => (ps.getD j (nilS, [])).1.v) = cur.toList.take ps.length := by
      rw [ht]
      apply List.ext_getElem
      · simp [slcs]
      · intro i h1 h2
        have hi : i < ps.length := by simpa using h1
        simp [slcs, List.getD_eq_getElem?_getD, hi]
    rw [e1, List.take_append_drop]
  · have := hlow j hj g hbk
    omega
  · have hp := hall.ap
    rw [List.pairwise_iff_getElem] at hp
    simp only [List.getD_eq_getElem?_getD, List.getElem?_eq_getElem hi, List.getElem?_eq_getElem hj, Option.getD_some] at h1 h2
    rcases Nat.lt_or_ge i j with hlt | hge
    · exact hp i j hi hj hlt k h1 h2
    · exact hp j i hj hi (by omega) k h2 h1
  · show base ≤ k
    have := ha.size
    omega
  · have := (hall.own _ (hget j hj)).2
    omega

theorem set_take {l : List Nat} {j : Nat} (hj : j < l.length) : (l.take j ++ List.replicate (l.length - j) 0).set j (l.getD j 0) = l.take (j + 1) ++ List.replicate (l.length - (j + 1)) 0 := by
  have e : List.replicate (l.length - j) 0 = 0 :: List.replicate (l.length - (j + 1)) 0 := by
    rw [show l.length - j = (l.length - (j + 1)) + 1 by omega]; rfl
  have hl : (l.take j).length = j := by simp; omega
  rw [e, List.set_append_right _ _ (by omega), hl, Nat.sub_self, List.set_cons_zero, List.take_succ_eq_append_getElem hj, getD_lt _ _ hj, List.append_assoc]
  rfl
theorem Copy_spec {w : World} {s : Slc} {l : List Nat} (h : Rd .u64 w s (nn l)) (hl : l.length ≤ 2 ^ 44) :
    Calls pr surdref01_Copy_id #[s.v] w fun e w' => Ahead w w' ∧ ∃ s', e = .returned (Slc.v s') ∧ Own .u64 tU64 w' s' (nn l) w.heap.size := by
  have hn : s.n = l.length := by rw [h.n, nn_length]
  refine surdref01_Copy_vc s w _ (fun out t n i w' => t = s ∧ n = (l.length : Int) ∧ Ahead w w' ∧ ∃ j : Nat, i = (j : Int) ∧ j ≤ l.length ∧ Own .u64 tU64 w' out (nn (l.take j ++ List.replicate (l.length - j) 0)) w.heap.size) (fun _ _ n i _ => (n - i).toNat) ?_ ?_
  · refine mkN (by omega) (by omega) fun s' w1 _ ho ha _ => ⟨rfl, by rw [hn], ha, 0, rfl, Nat.zero_le _, ?_⟩
    have e : (s.n : Int).toNat = l.length := by omega
    rw [e] at ho
    simpa using ho
  · rintro out t n i w1 ⟨rfl, rfl, ha, j, rfl, hj, ho⟩
    refine br_intro (fun hlt => ?_) (fun hge => ?_)
    · have hj' : j < l.length := by have := of_decide_eq_true hlt; omega
      have e8 : IntKind.i64.wrap ((j : Int) + 1) = ((j + 1 : Nat) : Int) := by rw [wrap_i64 (by omega) (by omega)]; omega
      refine ldN (h.ahead ha) (by omega) (by omega) ?_
      rw [Int.toNat_natCast]
      refine stN ho (by omega) (by simp; omega) fun w2 ho2 ha2 _ => ?_
      rw [Int.toNat_natCast, set_take hj'] at ho2
      exact ⟨⟨rfl, rfl, ha2 w ha (Nat.le_refl _), j + 1, e8, hj', ho2⟩, by rw [e8]; omega⟩
    · have hj' : j = l.length := by have := of_decide_eq_false hge; omega
      subst hj'
      rw [List.take_length, Nat.sub_self, List.replicate_zero, List.append_nil] at ho
      exact ⟨ha, _, rfl, ho⟩

/-- Pow, weakly. -/
def PowW (w : World) (g : Prop) (e : Ending) (w' : World) : Prop := Ahead w w' ∧ ∃ (s : Slc) (c : Int) (L : List Nat), e = .returned (.tuple #[s.v, .int .i64 c]) ∧ OwnNil w.heap.size w' s L ∧ L.length ≤ 2 ^ 20 ∧ (g → c = 0)
theorem powW {w : World} {a : Slc} {x n : Nat} (ha : Num w a x) (hx : bl x ≤ 67108864) (hn : n ≤ 4) : Calls pr mul_Pow_id #[a.v, .int .i64 (n : Int)] w (PowW w (bl x * n ≤ 67108864)) := by
  have lx := digs_len_bl (N := x) (m := 2 ^ 20) (by omega)
  by_cases hgood : 2 ≤ bl x ∧ 1 ≤ n ∧ bl x * n ≤ 67108864
  · refine Calls.mono (Pow_spec ha hgood.1 hgood.2.1 hgood.2.2) ?_
    rintro e w' ⟨h1, s, rfl, os⟩
    rw [if_pos rfl] at os
    have := Mul.pow_bl (x := x) (Nat.le_refl n) hgood.2.2
    exact ⟨h1, s, 0, _, rfl, os, digs_len_bl (by omega), fun _ => rfl⟩
  refine mul_Pow_vc a _ w _ (fun s t out i w' => t = (n : Int) ∧ ¬ bl x * n ≤ 67108864 ∧ ∃ (j v : Nat), i = (j : Int) - 1 ∧ j ≤ 63 ∧ Ahead w w' ∧ OwnNil w.heap.size w' s (digs B64 x) ∧ OwnNil w.heap.size w' out (digs B64 v) ∧ bl v ≤ 67108864) (fun _ _ _ i _ => (i + 1).toNat) ?_ ?_
  · refine br_false (decide_eq_false (by omega)) ?_
    obtain ⟨l, rl, ll, ol, vl⟩ := ha
    refine Calls.mono (Norm_spec rl ll ol) ?_
    rw [vl]
    rintro e w1 ⟨h1, s, rfl, os⟩
    refine ⟨_, rfl, br_intro (fun h0 => ?_) (fun h0 => ?_)⟩
    · refine Calls.mono (From_spec (v := 1) (by rw [B64v]; omega)) ?_
      rintro e w3 ⟨h3, t, rfl, ot⟩
      refine ⟨_, rfl, h1.trans h3, t, 0, _, rfl, ot.mono h1.size, ?_, fun _ => rfl⟩
      exact digs_len_bl (Nat.le_trans (bl_le (k := 1) (by show 1 < 2 ^ 1; omega)) (by omega))
    have hn0 : n ≠ 0 := by intro h; subst h; simp at h0
    refine Calls.mono (len_num (own_num os hx)) ?_
    rintro e w2 ⟨rfl, rfl⟩
    refine ⟨_, rfl, br_intro (fun h2 => ?_) (fun h2 => ?_)⟩
    · exact ⟨h1, s, 0, _, rfl, os, lx, fun _ => rfl⟩
    have h2' : 2 ≤ bl x := by have := of_decide_eq_false h2; omega
    have hbad : ¬ bl x * n ≤ 67108864 := fun h => hgood ⟨h2', by omega, h⟩
    have no : ∀ {w' : World} {c : Int}, Ahead w w' → PowW w (bl x * n ≤ 67108864) (.returned (.tuple #[(⟨none, 0, 0⟩ : Slc).v, .int .i64 c])) w' := fun ha => ⟨ha, _, _, [], rfl, OwnNil.nil, by simp, fun h => absurd h hbad⟩
    refine br_intro (fun _ => no h1) (fun _ => br_intro (fun _ => no h1) (fun _ => ?_))
    refine Calls.mono (From_spec (v := 1) (by rw [B64v]; omega)) ?_
    rintro e w3 ⟨h3, t, rfl, ot⟩
    exact ⟨_, rfl, rfl, hbad, 63, 1, rfl, Nat.le_refl _, h1.trans h3, os.ahead h3, ot.mono h1.size, Nat.le_trans (bl_le (k := 1) (by show 1 < 2 ^ 1; omega)) (by omega)⟩
  · rintro s t out i w1 ⟨rfl, hbad, j, v, rfl, hj, h1, os, oo, hv⟩
    have no : ∀ {w' : World} {c : Int}, Ahead w w' → PowW w (bl x * n ≤ 67108864) (.returned (.tuple #[(⟨none, 0, 0⟩ : Slc).v, .int .i64 c])) w' := fun ha => ⟨ha, _, _, [], rfl, OwnNil.nil, by simp, fun h => absurd h hbad⟩
    have lv := digs_len_bl (N := v) (m := 2 ^ 20) (by omega)
    refine br_intro (fun hge => ?_) (fun hlt => ?_)
    · have hj' : 1 ≤ j := by have := of_decide_eq_true hge; omega
      have nx : Num w1 s x := own_num os hx
      have nv : Num w1 out v := own_num oo hv
      have step : ∀ (w2 : World) (q : Slc) (u : Nat), Ahead w w2 → OwnNil w.heap.size w2 s (digs B64 x) → OwnNil w.heap.size w2 q (digs B64 u) → bl u ≤ 67108864 →
          Calls pr mul_Mul_id #[q.v, s.v] w2 fun e6 w7 => ∃ s5 : Slc, ∃ x4 : Int, e6 = .returned (Value.tuple #[s5.v, Value.int .i64 x4]) ∧
            br (x4 != 0) (PowW w (bl x * n ≤ 67108864) (.returned (Value.tuple #[(⟨none, 0, 0⟩ : Slc).v, Value.int .i64 x4])) w7)
              (((n : Int) = (n : Int) ∧ ¬ bl x * n ≤ 67108864 ∧ ∃ (j' v : Nat), IntKind.i64.wrap ((j : Int) - 1 - 1) = (j' : Int) - 1 ∧ j' ≤ 63 ∧ Ahead w w7 ∧ OwnNil w.heap.size w7 s (digs B64 x) ∧ OwnNil w.heap.size w7 s5 (digs B64 v) ∧ bl v ≤ 67108864) ∧ (IntKind.i64.wrap ((j : Int) - 1 - 1) + 1).toNat < ((j : Int) - 1 + 1).toNat) := by
        intro w2 q u a2 o2 oq hu
        have lu := digs_len_bl (N := u) (m := 2 ^ 20) (by omega)
        refine Calls.mono (Mul_spec (own_num oq hu) (own_num o2 hx) (by omega) (by omega)) ?_
        rintro e w3 ⟨h3, r, rfl, or⟩
        refine ⟨_, _, rfl, br_intro (fun _ => no (a2.trans h3)) (fun hz => ?_)⟩
        have hz' : bigC (u * x) = 0 := by simpa using hz
        rw [if_pos hz'] at or
        rw [wrap_i64 (by omega) (by omega)]
        exact ⟨⟨rfl, hbad, j - 1, u * x, by omega, by omega, a2.trans h3, o2.ahead h3, or.mono a2.size, bigC_bl hz'⟩, by omega⟩
      have rest : ∀ (w2 : World) (q : Slc) (u : Nat) (z : Int), Ahead w w2 → OwnNil w.heap.size w2 s (digs B64 x) → OwnNil w.heap.size w2 q (digs B64 u) → bl u ≤ 67108864 → 
          (br (z == 1) (Calls pr mul_Mul_id #[q.v, s.v] w2 fun e6 w7 => ∃ s5 : Slc, ∃ x4 : Int, e6 = .returned (Value.tuple #[s5.v, Value.int .i64 x4]) ∧
            br (x4 != 0) (PowW w (bl x * n ≤ 67108864) (.returned (Value.tuple #[(⟨none, 0, 0⟩ : Slc).v, Value.int .i64 x4])) w7)
              (((n : Int) = (n : Int) ∧ ¬ bl x * n ≤ 67108864 ∧ ∃ (j' v : Nat), IntKind.i64.wrap ((j : Int) - 1 - 1) = (j' : Int) - 1 ∧ j' ≤ 63 ∧ Ahead w w7 ∧ OwnNil w.heap.size w7 s (digs B64 x) ∧ OwnNil w.heap.size w7 s5 (digs B64 v) ∧ bl v ≤ 67108864) ∧ (IntKind.i64.wrap ((j : Int) - 1 - 1) + 1).toNat < ((j : Int) - 1 + 1).toNat))
            (((n : Int) = (n : Int) ∧ ¬ bl x * n ≤ 67108864 ∧ ∃ (j' v : Nat), IntKind.i64.wrap ((j : Int) - 1 - 1) = (j' : Int) - 1 ∧ j' ≤ 63 ∧ Ahead w w2 ∧ OwnNil w.heap.size w2 s (digs B64 x) ∧ OwnNil w.heap.size w2 q (digs B64 v) ∧ bl v ≤ 67108864) ∧ (IntKind.i64.wrap ((j : Int) - 1 - 1) + 1).toNat < ((j : Int) - 1 + 1).toNat)) := by
        intro w2 q u z a2 o2 oq hu
        refine br_intro (fun _ => step w2 q u a2 o2 oq hu) (fun _ => ?_)
        rw [wrap_i64 (by omega) (by omega)]
        exact ⟨⟨rfl, hbad, j - 1, u, by omega, by omega, a2, o2, oq, hu⟩, by omega⟩
      refine br_intro (fun _ => ?_) (fun _ => ?_)
      · refine mul_Square_vc out w1 _ (Calls.mono (Mul_spec nv nv (by omega) (by omega)) ?_)
        rintro e w2 ⟨h2, q, rfl, oq⟩
        refine ⟨_, _, rfl, _, _, rfl, br_intro (fun _ => no (h1.trans h2)) (fun hz => ?_)⟩
        have hz' : bigC (v * v) = 0 := by simpa using hz
        rw [if_pos hz'] at oq
        have e1 : (j : Int) - 1 = ((j - 1 : Nat) : Int) := by omega
        have r := fun z => rest w2 q (v * v) z (h1.trans h2) (os.ahead h2) (oq.mono h1.size) (bigC_bl hz')
        rw [e1] at r ⊢
        exact Mul.semShrI (by omega) (r _)
      · have e1 : (j : Int) - 1 = ((j - 1 : Nat) : Int) := by omega
        have r := fun z => rest w1 out v z h1 os oo hv
        rw [e1] at r ⊢
        exact Mul.semShrI (by omega) (r _)
    · exact ⟨h1, out, 0, _, rfl, oo, lv, fun h => absurd h hbad⟩
end Mo
end Go.Proofs.Ytfdajpjiengihaa
namespace Go.Proofs.Ytfdajpjiengihaa
open Go Go.RowKit Eng Sp Dg
set_option linter.unusedVariables false
set_option linter.unusedSimpArgs false
set_option maxRecDepth 100000
namespace Mo
open _root_.Go.Proofs.Ytfdajpjiengihaa.Nat (OwnNil OwnNil.nil OwnNil.rd OwnNil.ahead OwnNil.mono Num Num.ahead Num.bl digs_len_bl Ret bigC bigC_ok own_num len_num From_spec Norm_spec num_of ldN stN mkN Yes)
open _root_.Go.Proofs.Ytfdajpjiengihaa.Ref (RN RN.ahead Bk St OwnNil.block Own_spec old_new Of_spec Is_spec Len_spec Limbs_spec rMul_spec len32)
open _root_.Go.Proofs.Ytfdajpjiengihaa.Mul (Mul_spec bigC_bl all_spec lit_rd Split_spec splitC Parts_spec partsC mLow_spec lowM mHigh_spec highM Pow_spec bl_le_mul end_awake num_spec digs32_bl)
open Mm
open Sb

def Ans11 (w : World) (xy : Nat) (g : Prop) (e : Ending) (w' : World) : Prop := Ahead w w' ∧ ∃ s : Slc, e = .returned (Slc.v s) ∧ ((s = nilS ∧ ¬ g) ∨ ∃ ps : PL, s.n = 11 ∧ ps.length = 11 ∧ RdL w' s (ps.map Prod.fst) ∧ OwnAll w.heap.size w' ps ∧ (ps.getD 0 (nilS, [])).2 = digs B64 xy ∧ bl xy ≤ 67108864)
theorem bl_div {v k : Nat} : bl (v / k) ≤ bl v := bl_mono (Nat.div_le_self _ _)
theorem bl_mod {v k : Nat} : bl (v % k) ≤ bl v := bl_mono (Nat.mod_le _ _)
theorem ifC {code : Int} {n : Nat} {base : Nat} {w : World} {s : Slc} (h : OwnNil base w s (if code = 0 then digs B64 n else [])) (hc : code = 0) (hb : bl n ≤ 67108864) : OwnAll base w [(s, digs B64 n)] := by
  rw [if_pos hc] at h
  exact OwnAll.one h (by have := digs_len_bl (N := n) (m := 2 ^ 20) (by omega); omega)
theorem bl_dbl {n : Nat} : bl (n + n) ≤ bl n + 1 := by
  refine bl_le ?_
  have := lt_bl n
  rw [Nat.pow_succ]; omega
theorem par_le (X Y P : Nat) : X % P * (Y / P) + X / P * (Y % P) ≤ X * Y + X * Y :=
  Nat.add_le_add (Nat.mul_le_mul (Nat.mod_le _ _) (Nat.div_le_self _ _)) (Nat.mul_le_mul (Nat.div_le_self _ _) (Nat.mod_le _ _))

theorem own_two {m : Nat} {w : World} {s t : Slc} {l1 l2 : List Nat} (h1 : OwnNil m w s l1) (h2 : OwnNil m w t l2) (d : ∀ j, Bk s j → ¬ Bk t j) (k1 : l1.length ≤ 2 ^ 30) (k2 : l2.length ≤ 2 ^ 30) : OwnAll m w [(s, l1), (t, l2)] :=
  ⟨fun q hq => by
    have : q = (s, l1) ∨ q = (t, l2) := by simpa using hq
    rcases this with rfl | rfl
    · exact ⟨h1, k1⟩
    · exact ⟨h2, k2⟩, by simpa using d⟩
theorem own_three {m : Nat} {w : World} {s t u : Slc} {l1 l2 l3 : List Nat} (h1 : OwnNil m w s l1) (h2 : OwnNil m w t l2) (h3 : OwnNil m w u l3) (d : ∀ j, Bk s j → ¬ Bk t j) (d' : ∀ j, Bk s j → ¬ Bk u j) (d'' : ∀ j, Bk t j → ¬ Bk u j) (k1 : l1.length ≤ 2 ^ 30) (k2 : l2.length ≤ 2 ^ 30) (k3 : l3.length ≤ 2 ^ 30) : OwnAll m w [(s, l1), (t, l2), (u, l3)] :=
  ⟨fun q hq => by
    have : q = (s, l1) ∨ q = (t, l2) ∨ q = (u, l3) := by simpa using hq
    rcases this with rfl | rfl | rfl
    · exact ⟨h1, k1⟩
    · exact ⟨h2, k2⟩
    · exact ⟨h3, k3⟩, by simpa using ⟨⟨d, d'⟩, d''⟩⟩

set_option maxHeartbeats 2000000 in
theorem answers_spec {w : World} {a b : Slc} {l m : List Nat} {n : Nat} (ra : Rd .u64 w a (nn l)) (oa : ok B64 l) (na : l.length ≤ 1048576) (rb : Rd .u64 w b (nn m)) (ob : ok B64 m) (nb : m.length ≤ 1048576) (hn : n ≤ 4) :
    Calls pr surdlaw02_answers_id #[a.v, b.v, .int .i64 (n : Int)] w (Ans11 w (val B64 l * val B64 m) (bl (val B64 l) + bl (val B64 m) ≤ 8388608)) := by
  have hx := bl_len oa
  have hy := bl_len ob
  have hdx := Nat.le_trans (Nat.len_le oa) na
  have hdy := Nat.le_trans (Nat.len_le ob) nb
  have Na : ∀ {w'}, Ahead w w' → Num w' a (val B64 l) := fun ha => num_of (ra.ahead ha) oa (by omega)
  have Nb : ∀ {w'}, Ahead w w' → Num w' b (val B64 m) := fun ha => num_of (rb.ahead ha) ob (by omega)
  have hLow : ∀ {w'}, Ahead w w' → Calls pr mul_Low_id #[a.v, b.v, .int .i64 ((64 * n : Nat) : Int)] w' (Ret w' (lowM (val B64 l * val B64 m) ((64 * n : Nat) : Int)) (val B64 l * val B64 m % 2 ^ ((64 * n : Nat) : Int).toNat)) := fun ha =>
    mLow_spec (ra.ahead ha) (by omega) oa (rb.ahead ha) (by omega) ob (by omega) (by omega)
  generalize val B64 l = X at *
  generalize val B64 m = Y at *
  have hxy := bl_le_mul X Y
  have hxx := bl_le_mul X X
  refine surdlaw02_answers_vc a b _ w _ (Calls.mono (Mul_spec (Na (Ahead.refl _)) (Nb (Ahead.refl _)) (by omega) (by omega)) ?_)
  rintro e w1 ⟨a1, p, rfl, op⟩
  refine ⟨_, _, rfl, ?_⟩
  obtain ⟨v, hv0, hv, np⟩ : ∃ v, (bigC (X * Y) = 0 → v = X * Y) ∧ bl v ≤ 67108864 ∧ Num w1 p v := by
    by_cases c : bigC (X * Y) = 0
    · rw [if_pos c] at op; exact ⟨_, fun _ => rfl, bigC_bl c, own_num op (bigC_bl c)⟩
    · rw [if_neg c] at op; exact ⟨0, fun h => absurd h c, by rw [bl_zero]; omega, [], op.rd, by simp, fun x hx => by simp at hx, rfl⟩
  refine Calls.mono (Split_spec np) ?_
  rintro e w2 ⟨a2, s2, s3, rfl, o2, o3, d23⟩
  have c2 : splitC v (n : Int) = 0 := by
    rw [splitC, if_neg (by omega), if_pos ⟨Nat.le_trans bl_mod hv, Nat.le_trans bl_div hv⟩]
  rw [if_pos c2] at o2 o3
  rw [c2]
  refine ⟨_, _, _, rfl, ?_⟩
  have a02 := a1.trans a2
  refine Calls.mono (Parts_spec (k := (n : Int)) (Na a02) (Nb a02) (by omega) (by omega)) ?_
  rintro e w3 ⟨a3, s4, s5, s6, rfl, o4, o5, o6, d45, d46, d56⟩
  refine ⟨_, _, _, _, rfl, ?_⟩
  have a03 := a02.trans a3
  refine mul_Square_vc a w3 _ (Calls.mono (Mul_spec (Na a03) (Na a03) (by omega) (by omega)) ?_)
  rintro e w4 ⟨a4, s7, rfl, o7⟩
  refine ⟨_, _, rfl, _, _, rfl, ?_⟩
  have a04 := a03.trans a4
  have e64 : IntKind.i64.wrap (64 * (n : Int)) = ((64 * n : Nat) : Int) := by rw [wrap_i64 (by omega) (by omega)]; omega
  rw [e64]
  refine Calls.mono (hLow a04) ?_
  rintro e w5 ⟨a5, s8, rfl, o8⟩
  refine ⟨_, _, rfl, ?_⟩
  have a05 := a04.trans a5
  refine Calls.mono (mHigh_spec (k := ((64 * n : Nat) : Int)) (Na a05) (Nb a05) (by omega) (fun _ _ _ => by omega)) ?_
  rintro e w6 ⟨a6, s9, rfl, o9⟩
  refine ⟨_, _, rfl, ?_⟩
  have a06 := a05.trans a6
  refine Calls.mono (powW (Na a06) (by omega) hn) ?_
  rintro e w7 ⟨a7, s10, c7, L7, rfl, o10, l10, hc7⟩
  refine ⟨_, _, rfl, ?_⟩
  have a07 := a06.trans a7
  have q8 := Ahead.alloc w7 (.cells (slcs [a, b]).toArray 24 (0, 0))
  refine Calls.mono (Product_spec (xs := [X, Y]) (lit_rdL w7 24 [a, b]) ⟨rfl, fun i hi => ?_⟩ (by simp)) ?_
  · have : i = 0 ∨ i = 1 := by simp at hi; omega
    rcases this with rfl | rfl
    · exact ⟨Na (a07.trans q8), by show (digs B64 X).length + 16 ≤ 2 ^ 44; omega⟩
    · exact ⟨Nb (a07.trans q8), by show (digs B64 Y).length + 16 ≤ 2 ^ 44; omega⟩
  have eP : prodL [X, Y] = X * Y := by show X * (Y * 1) = X * Y; rw [Nat.mul_one]
  rw [eP]
  intro e w9 h9
  obtain ⟨a9, s11, rfl, o11⟩ := h9.base q8
  refine ⟨_, _, rfl, ?_⟩
  have a09 := a07.trans a9
  have q10 := Ahead.alloc w9 (.cells (ints .i64 [bigC (X * Y), 0, partsC (n : Int) (X % B64 ^ (n : Int).toNat * (Y % B64 ^ (n : Int).toNat)) (X % B64 ^ (n : Int).toNat * (Y / B64 ^ (n : Int).toNat) + X / B64 ^ (n : Int).toNat * (Y % B64 ^ (n : Int).toNat)) (X / B64 ^ (n : Int).toNat * (Y / B64 ^ (n : Int).toNat)), bigC (X * X), lowM (X * Y) ((64 * n : Nat) : Int), highM (X * Y) ((64 * n : Nat) : Int), c7, bigC (X * Y)]).toArray 25 (0, 0))
  refine Calls.mono (all_spec (lit_rd .i64 25 w9 [bigC (X * Y), 0, partsC (n : Int) (X % B64 ^ (n : Int).toNat * (Y % B64 ^ (n : Int).toNat)) (X % B64 ^ (n : Int).toNat * (Y / B64 ^ (n : Int).toNat) + X / B64 ^ (n : Int).toNat * (Y % B64 ^ (n : Int).toNat)) (X / B64 ^ (n : Int).toNat * (Y / B64 ^ (n : Int).toNat)), bigC (X * X), lowM (X * Y) ((64 * n : Nat) : Int), highM (X * Y) ((64 * n : Nat) : Int), c7, bigC (X * Y)]) (by simp)) ?_
  rintro e w11 ⟨e11, c, rfl, hc⟩
  have q11 : Ahead w9 w11 := e11 ▸ q10
  have a011 := a09.trans q11
  simp only [List.mem_cons, List.not_mem_nil, or_false, forall_eq_or_imp, forall_eq, true_and] at hc
  refine ⟨_, rfl, br_intro (fun hf => ?_) (fun ht => ?_)⟩
  · refine ⟨a011, _, rfl, .inl ⟨rfl, fun hg => ?_⟩⟩
    have hcf : c = false := by simpa using hf
    subst hcf
    have : ¬ False := fun h => h
    have hs : bl (X * Y) ≤ 8388608 := Nat.le_trans hxy hg
    have hm := Nat.le_trans (bl_mono (par_le X Y (B64 ^ (n : Int).toNat))) bl_dbl
    have hlo : bl (X % B64 ^ (n : Int).toNat * (Y % B64 ^ (n : Int).toNat)) ≤ bl (X * Y) := bl_mono (Nat.mul_le_mul (Nat.mod_le _ _) (Nat.mod_le _ _))
    have hhi : bl (X / B64 ^ (n : Int).toNat * (Y / B64 ^ (n : Int).toNat)) ≤ bl (X * Y) := bl_mono (Nat.mul_le_mul (Nat.div_le_self _ _) (Nat.div_le_self _ _))
    refine absurd (hc.2 ⟨bigC_ok (by omega), ?_, bigC_ok (by omega), ?_, ?_, hc7 ?_, bigC_ok (by omega)⟩) (by simp)
    · rw [partsC, if_neg (by omega), if_pos ⟨by omega, by omega, by omega⟩]
    · rw [lowM, if_neg (by omega)]; exact bigC_ok (Nat.le_trans bl_mod (by omega))
    · rw [highM, if_neg (by omega)]; exact bigC_ok (Nat.le_trans bl_div (by omega))
    · have : bl X * n ≤ 8388608 * 4 := Nat.mul_le_mul (by omega) hn
      omega
  · have hct : c = true := by simpa using ht
    subst hct
    obtain ⟨k1, k3, k4, k5, k6, k7, k8⟩ := hc.1 rfl
    have q12 := Ahead.alloc w11 (.cells (slcs [p, s2, s3, s4, s5, s6, s7, s8, s9, s10, s11]).toArray tU64s (0, 0))
    have b3 : bl (X % B64 ^ (n : Int).toNat * (Y % B64 ^ (n : Int).toNat)) ≤ 67108864 ∧ bl (X % B64 ^ (n : Int).toNat * (Y / B64 ^ (n : Int).toNat) + X / B64 ^ (n : Int).toNat * (Y % B64 ^ (n : Int).toNat)) ≤ 67108864 ∧ bl (X / B64 ^ (n : Int).toNat * (Y / B64 ^ (n : Int).toNat)) ≤ 67108864 := by
      by_cases h : bl (X % B64 ^ (n : Int).toNat * (Y % B64 ^ (n : Int).toNat)) ≤ 67108864 ∧ bl (X % B64 ^ (n : Int).toNat * (Y / B64 ^ (n : Int).toNat) + X / B64 ^ (n : Int).toNat * (Y % B64 ^ (n : Int).toNat)) ≤ 67108864 ∧ bl (X / B64 ^ (n : Int).toNat * (Y / B64 ^ (n : Int).toNat)) ≤ 67108864
      · exact h
      · rw [partsC, if_neg (by omega), if_neg h] at k3; omega
    have b5 : bl (X * Y % 2 ^ ((64 * n : Nat) : Int).toNat) ≤ 67108864 := by rw [lowM, if_neg (by omega)] at k5; exact bigC_bl k5
    have b6 : bl (X * Y / 2 ^ ((64 * n : Nat) : Int).toNat) ≤ 67108864 := by rw [highM, if_neg (by omega)] at k6; exact bigC_bl k6
    rw [if_pos k3] at o4 o5 o6
    have small : ∀ {N : Nat}, bl N ≤ 67108864 → (digs B64 N).length ≤ 2 ^ 30 := fun h => by have := digs_len_bl (m := 2 ^ 20) (Nat.le_trans h (by omega)); omega
    have A1 := ifC op k1 (bigC_bl k1)
    have A2 := own_two o2 o3 d23 (small (Nat.le_trans bl_mod hv)) (small (Nat.le_trans bl_div hv))
    have A3 := own_three o4 o5 o6 d45 d46 d56 (small b3.1) (small b3.2.1) (small b3.2.2)
    have A4 := ifC o7 k4 (bigC_bl k4)
    have A5 := ifC o8 k5 b5
    have A6 := ifC o9 k6 b6
    have A7 : OwnAll w6.heap.size w7 [(s10, L7)] := OwnAll.one o10 (by omega)
    have A8 := ifC o11 k8 (bigC_bl k8)
    have B2 := A1.append a2 a1.size (Nat.le_refl _) A2
    have B3 := B2.append a3 a02.size (Nat.le_refl _) A3
    have B4 := B3.append a4 a03.size (Nat.le_refl _) A4
    have B5 := B4.append a5 a04.size (Nat.le_refl _) A5
    have B6 := B5.append a6 a05.size (Nat.le_refl _) A6
    have B7 := B6.append a7 a06.size (Nat.le_refl _) A7
    have B8 := (B7.append a9 a07.size (Nat.le_refl _) A8).ahead (q11.trans q12)
    refine ⟨a011.trans q12, _, rfl, .inr ⟨_, ?_, ?_, ?_, B8, ?_, bigC_bl k1⟩⟩
    · rfl
    · rfl
    · exact lit_rdL w11 tU64s [p, s2, s3, s4, s5, s6, s7, s8, s9, s10, s11]
    · rfl

structure St0 (w : World) (s0 s1 : Slc) (xy : Nat) (t0 t1 t7 t11 t95 : Slc) (t96 : Int) (i : Nat) (wE wB w' : World) (PP : List PL) (S : List Slc) : Prop where
  e0 : s0 = t0
  e1 : s1 = t1
  e95 : t95 = ⟨some ⟨wB.heap.size, 0, none⟩, 3, 3⟩
  e96 : t96 = 3
  hi : i ≤ 3
  aE : Ahead w wE
  aB : Ahead wE wB
  aw : Ahead wB w'
  rw : Rd .u64 wE t7 (nn (digs B64 xy))
  hb : bl xy ≤ 67108864
  lit : ∃ T, T ≠ tU64s ∧ w'.heap[wB.heap.size]? = some (.cells (slcs S).toArray T (0, 0))
  lS : S.length = 3
  lP : PP.length = 3
  n33 : PP.flatten.length = 33
  all : OwnAll wE.heap.size wB PP.flatten
  each : ∀ j, j < 3 → RdL wB (S.getD j nilS) ((PP.getD j []).map Prod.fst) ∧ (PP.getD j []).length = 11
  row : SRow tU64s wB.heap.size w' t11 (((PP.take i).flatten).map Prod.fst)

theorem bk_ge {base k : Nat} {w : World} {s : Slc} {l : List Nat} (h : OwnNil base w s l) (hb : Bk s k) : base ≤ k := by
  rcases h with ⟨h1, _⟩ | ⟨b, h1, _, ho⟩
  · rw [h1] at hb; simp [Bk] at hb
  · have e : b = k := congrArg Addr.block (Option.some.inj (ho.A.symm.trans hb))
    omega
/-- A store into a row of the call's own: nothing else changes. -/
theorem stB {t : TypeId} {w : World} {s : Slc} {l : List Nat} {b : Nat} (h : Own .u64 tU64 w s (nn l) b) {j : Nat} (h1 : j < l.length) {x : Nat} {K : World → Prop}
    (hk : ∀ w', Own .u64 tU64 w' s (nn (l.set j x)) b → (∀ w0, Ahead w0 w → w0.heap.size ≤ b → Ahead w0 w') → (∀ k, k ≠ b → w'.heap[k]? = w.heap[k]?) → K w')
    (hT : isSl pr t .u64 = some tU64 := by kernel_rfl) : semA pr (Instr.indexAt t s.v (.int .i64 (j : Int))) w fun ad w1 => stC ad (.int .u64 (x : Int)) w1 fun w2 => K w2 := by
  unfold semA
  rw [Sem.wp_iff_run, run_indexAt hT w s j _ h.A (by omega) (by rw [h.n]; simpa using h1)]
  refine ⟨_, rfl, ?_⟩
  rw [add_off, Int.toNat_natCast]
  have ho := h.set (i := j) (by simpa using h1) (x : Int)
  rw [nn_set] at ho
  exact ⟨⟨_, h.cell (by simpa using h1)⟩, h.frozen _, hk _ ho (fun w0 ha hb => Ahead.setCell ha hb) fun k hk => Below.heap_setCell _ _ _ _ (by simpa using hk)⟩
theorem xor_one {x : Nat} (hx : x < B64) : xorI .u64 (x : Int) 1 = ((x ^^^ 1 : Nat) : Int) ∧ x ^^^ 1 < B64 := by
  have h1 : x ^^^ 1 < 2 ^ 64 := Nat.xor_lt_two_pow (by rw [B64v] at hx; omega) (by omega)
  refine ⟨?_, by rw [B64v]; omega⟩
  rw [B64v] at hx
  unfold xorI
  have e1 : BitVec.ofInt 64 (x : Int) = BitVec.ofNat 64 x := BitVec.ofInt_natCast ..
  have e2 : BitVec.ofInt 64 (1 : Int) = BitVec.ofNat 64 1 := rfl
  show IntKind.u64.wrap ((BitVec.ofInt 64 (x : Int) ^^^ BitVec.ofInt 64 (1 : Int)).toNat : Int) = _
  rw [e1, e2, BitVec.toNat_xor, BitVec.toNat_ofNat, BitVec.toNat_ofNat, Nat.mod_eq_of_lt (by omega), Nat.mod_eq_of_lt (by omega)]
  exact wrap_u64' (by omega) (by omega)

set_option maxHeartbeats 4000000 in
theorem MulOwn_ok {w : World} {s0 s1 : Slc} {l0 l1 : List Nat} {x2 : Int} (r0 : Rd .u64 w s0 (nn l0)) (o0 : ok B64 l0) (n0 : l0.length ≤ 1048576)
    (r1 : Rd .u64 w s1 (nn l1)) (o1 : ok B64 l1) (n1 : l1.length ≤ 1048576) (hk : -9223372036854775808 ≤ x2 ∧ x2 ≤ 9223372036854775807) :
    Calls pr surdlaw02_MulOwn_id #[s0.v, s1.v, .int .i64 x2] w (Yes w) := by
  have hx32 := len32 o0
  have hy32 := len32 o1
  have hbx := bl_len o0
  have hby := bl_len o1
  have hdx := Nat.le_trans (Nat.len_le o0) n0
  have hdy := Nat.le_trans (Nat.len_le o1) n1
  obtain ⟨n, hn, en⟩ : ∃ n : Nat, n ≤ 4 ∧ Int.tmod (IntKind.i64.wrap ((Int.tmod x2 5) + 5)) 5 = (n : Int) := by
    have h1 : -5 < Int.tmod x2 5 ∧ Int.tmod x2 5 < 5 := by
      have := Int.tmod_lt_of_pos x2 (show (0:Int) < 5 by omega)
      have := Int.lt_tmod_of_pos x2 (show (0:Int) < 5 by omega)
      omega
    rw [wrap_i64 (by omega) (by omega), Int.tmod_eq_emod_of_nonneg (by omega)]
    exact ⟨((Int.tmod x2 5 + 5) % 5).toNat, by omega, by omega⟩
  have hans : ∀ {w'}, Ahead w w' → Calls pr surdlaw02_answers_id #[s0.v, s1.v, .int .i64 (n : Int)] w' (Ans11 w' (val B64 l0 * val B64 l1) (bl (val B64 l0) + bl (val B64 l1) ≤ 8388608)) := fun ha => answers_spec (r0.ahead ha) o0 n0 (r1.ahead ha) o1 n1 hn
  have hans' : ∀ {w'}, Ahead w w' → Calls pr surdlaw02_answers_id #[s1.v, s0.v, .int .i64 (n : Int)] w' (Ans11 w' (val B64 l1 * val B64 l0) (bl (val B64 l1) + bl (val B64 l0) ≤ 8388608)) := fun ha => answers_spec (r1.ahead ha) o1 n1 (r0.ahead ha) o0 n0 hn
  have hOf0 : ∀ {w'}, Ahead w w' → Calls pr surdref01_Of_id #[s0.v] w' fun e w2 => Ahead w' w2 ∧ ∃ s', e = .returned (Slc.v s') ∧ RN w2 s' (val B64 l0) := fun ha => Of_spec (r0.ahead ha) (by omega) o0
  have hOf1 : ∀ {w'}, Ahead w w' → Calls pr surdref01_Of_id #[s1.v] w' fun e w2 => Ahead w' w2 ∧ ∃ s', e = .returned (Slc.v s') ∧ RN w2 s' (val B64 l1) := fun ha => Of_spec (r1.ahead ha) (by omega) o1
  have Nb : ∀ {w'}, Ahead w w' → Num w' s1 (val B64 l1) := fun ha => num_of (r1.ahead ha) o1 (by omega)
  have hd1 : (digs B32 (val B64 l1)).length ≤ 2 ^ 22 := digs32_bl (by omega)
  have hd0 : (digs B32 (val B64 l0)).length ≤ 2 ^ 22 := digs32_bl (by omega)
  have tail : ¬ bl (val B64 l0) + bl (val B64 l1) ≤ 8388608 → ∀ w8, Ahead w w8 → Calls pr surdref01_Of_id #[s0.v] w8 fun e9 w9 => ∃ s9 : Slc, e9 = .returned s9.v ∧
      (Calls pr surdref01_Num_Len_id #[s9.v] w9 fun e10 w10 => ∃ x1 : Int, e10 = .returned (Value.int .i64 x1) ∧
      (Calls pr surdref01_Of_id #[s1.v] w10 fun e11 w11 => ∃ s10 : Slc, e11 = .returned s10.v ∧
      (Calls pr surdref01_Num_Len_id #[s10.v] w11 fun e12 w12 => ∃ x2 : Int, e12 = .returned (Value.int .i64 x2) ∧
      (Yes w (.returned (Value.bool (decide ((IntKind.i64.wrap (x1 + x2)) > 8388608)))) w12)))) := by
    intro hg w8 a8
    refine Calls.mono (hOf0 a8) ?_
    rintro e w9 ⟨a9, s9, rfl, rn9⟩
    refine ⟨_, rfl, Calls.mono (Len_spec rn9 (by omega)) ?_⟩
    rintro e w10 ⟨rfl, rfl⟩
    refine ⟨_, rfl, Calls.mono (hOf1 (a8.trans a9)) ?_⟩
    rintro e w11 ⟨a11, s10, rfl, rn10⟩
    refine ⟨_, rfl, Calls.mono (Len_spec rn10 (by omega)) ?_⟩
    rintro e w12 ⟨rfl, rfl⟩
    refine ⟨_, rfl, ?_⟩
    rw [wrap_i64 (by omega) (by omega), decide_eq_true (by omega)]
    exact ⟨rfl, (a8.trans a9).trans a11⟩
  have hcomm : val B64 l1 * val B64 l0 = val B64 l0 * val B64 l1 := Nat.mul_comm _ _
  have hgc : bl (val B64 l1) + bl (val B64 l0) = bl (val B64 l0) + bl (val B64 l1) := Nat.add_comm _ _
  rw [hcomm, hgc] at hans'
  have hxy := bl_le_mul (val B64 l0) (val B64 l1)
  generalize hX : val B64 l0 = X at *
  generalize hY : val B64 l1 = Y at *
  refine surdlaw02_MulOwn_vc s0 s1 x2 w _
    (fun t0 t1 t7 t11 t95 t96 t97 w' => ∃ (i : Nat) (wE wB : World) (PP : List PL) (S : List Slc), t97 = (i : Int) ∧ St0 w s0 s1 (X * Y) t0 t1 t7 t11 t95 t96 i wE wB w' PP S)
    (fun _ _ _ _ _ n i _ => (n - i).toNat)
    (fun t1 t7 t14 t15 t16 t17 t18 t123 t124 w' => s1 = t1 ∧ t16 = 0 ∧ t18 = 0 ∧ t123 = (l0.length : Int) ∧ bl (X * Y) ≤ 67108864 ∧ ∃ (i : Nat) (wE : World) (l : List Nat) (b : Nat), t124 = (i : Int) ∧ i ≤ l0.length ∧ Ahead w wE ∧ Ahead wE w' ∧ Rd .u64 wE t7 (nn (digs B64 (X * Y))) ∧ wE.heap.size ≤ b ∧
      Own .u64 tU64 w' t14 (nn l) b ∧ l.length = l0.length ∧ ok B64 l ∧ OwnNil (b + 1) w' t15 (digs B64 (X * Y)) ∧ OwnNil (b + 1) w' t17 (digs B64 (X * Y)))
    (fun _ _ _ _ _ _ _ n i _ => (n - i).toNat) ?_ ?_ ?_
  · refine Calls.mono (hOf0 (Ahead.refl _)) ?_
    rintro e w1 ⟨a1, q1, rfl, rn1⟩
    refine ⟨_, rfl, Calls.mono (hOf1 a1) ?_⟩
    rintro e w2 ⟨a2, q2, rfl, rn2⟩
    refine ⟨_, rfl, Calls.mono (rMul_spec (rn1.ahead a2) rn2 (by omega)) ?_⟩
    rintro e w3 ⟨a3, q3, rfl, rn3⟩
    have hp64 : (digs B64 (X * Y)).length ≤ 2 ^ 22 := digs_len_bl (by omega)
    refine ⟨_, rfl, Calls.mono (Limbs_spec rn3 (by omega)) ?_⟩
    rintro e w4 ⟨a4, q4, rfl, oq4⟩
    refine ⟨_, rfl, Calls.mono (Copy_spec oq4.rd (by omega)) ?_⟩
    rintro e w5 ⟨a5, wt, rfl, owt⟩
    have a05 := (((a1.trans a2).trans a3).trans a4).trans a5
    rw [en]
    refine ⟨_, rfl, Calls.mono (hans a05) ?_⟩
    rintro e w6 ⟨a6, s6, rfl, h6⟩
    refine ⟨_, rfl, Calls.mono (hans' (a05.trans a6)) ?_⟩
    rintro e w7 ⟨a7, s7, rfl, h7⟩
    refine ⟨_, rfl, Calls.mono (hans ((a05.trans a6).trans a7)) ?_⟩
    rintro e w8 ⟨a8, s8, rfl, h8⟩
    have a58 := (a6.trans a7).trans a8
    have a08 := a05.trans a58
    have nb : ∀ {s : Slc} {wa wb : World} {g : Prop}, ((s.n : Int) == 0) = false → ((s = nilS ∧ ¬ g) ∨ ∃ ps : PL, s.n = 11 ∧ ps.length = 11 ∧ RdL wb s (ps.map Prod.fst) ∧ OwnAll wa.heap.size wb ps ∧ (ps.getD 0 (nilS, [])).2 = digs B64 (X * Y) ∧ bl (X * Y) ≤ 67108864) →
        ∃ ps : PL, s.n = 11 ∧ ps.length = 11 ∧ RdL wb s (ps.map Prod.fst) ∧ OwnAll wa.heap.size wb ps ∧ (ps.getD 0 (nilS, [])).2 = digs B64 (X * Y) ∧ bl (X * Y) ≤ 67108864 := by
      intro s wa wb g hne h
      rcases h with ⟨h1, _⟩ | h
      · rw [h1] at hne; simp at hne
      · exact h
    have yb : ∀ {s : Slc} {wa wb : World}, ((s.n : Int) == 0) = true → ((s = nilS ∧ ¬ bl X + bl Y ≤ 8388608) ∨ ∃ ps : PL, s.n = 11 ∧ ps.length = 11 ∧ RdL wb s (ps.map Prod.fst) ∧ OwnAll wa.heap.size wb ps ∧ (ps.getD 0 (nilS, [])).2 = digs B64 (X * Y) ∧ bl (X * Y) ≤ 67108864) → ¬ bl X + bl Y ≤ 8388608 := by
      intro s wa wb he h
      rcases h with ⟨_, h1⟩ | ⟨ps, h1, _⟩
      · exact h1
      · rw [h1] at he; simp at he
    refine ⟨_, rfl, br_intro (fun he => tail (yb he h6) w8 a08) (fun he6 => br_intro (fun he => tail (yb he h7) w8 a08) (fun he7 => br_intro (fun he => tail (yb he h8) w8 a08) (fun he8 => ?_)))⟩
    obtain ⟨p1, n1', m1, d1, w1', f1, hbp⟩ := nb he6 h6
    obtain ⟨p2, n2', m2, d2, w2', f2, _⟩ := nb he7 h7
    obtain ⟨p3, n3', m3, d3, w3', f3, _⟩ := nb he8 h8
    have hpl : (digs B64 (X * Y)).length ≤ 2 ^ 20 := digs_len_bl (by omega)
    have first : ∀ {ps : PL} {wa wb : World}, ps.length = 11 → OwnAll wa.heap.size wb ps → (ps.getD 0 (nilS, [])).2 = digs B64 (X * Y) → Rd .u64 wb ((ps.map Prod.fst).getD 0 nilS) (nn (digs B64 (X * Y))) := by
      intro ps wa wb hl ho hf
      have h0 : 0 < ps.length := by omega
      have hm : ps.getD 0 (nilS, []) ∈ ps := by rw [getD_lt _ _ h0]; exact List.getElem_mem h0
      have := (ho.own _ hm).1.rd
      rw [hf] at this
      rw [getD_lt _ _ h0] at this
      rw [getD_lt _ _ (by simp; omega), List.getElem_map]
      exact this
    have Rwt : ∀ {w'}, Ahead w5 w' → Calls pr surdref01_Of_id #[wt.v] w' fun e w2 => Ahead w' w2 ∧ ∃ s', e = .returned (Slc.v s') ∧ RN w2 s' (X * Y) := fun ha => by
      have := Of_spec (owt.rd.ahead ha) (by omega) (ok_digs two64 _)
      rwa [val_digs two64] at this
    have q8 := Ahead.drew w8
    refine ixLf (d1.ahead ((a7.trans a8).trans q8)) (i := 0) (by simp; omega) rfl ?_
    refine Calls.mono (Rwt (a58.trans q8)) ?_
    rintro e w21 ⟨a21, u1, rfl, ru1⟩
    refine ⟨_, rfl, a21, Calls.mono (Is_spec ru1 ((first m1 w1' f1).ahead (((a7.trans a8).trans q8).trans a21)) (by omega)) ?_⟩
    rintro e w22 ⟨a22, rfl⟩
    have k22 := (q8.trans a21).trans a22
    refine ⟨_, rfl, a22, br_false rfl ?_⟩
    refine ixLf (d3.ahead k22) (i := 0) (by simp; omega) rfl ?_
    refine Calls.mono (Rwt (a58.trans k22)) ?_
    rintro e w23 ⟨a23, u2, rfl, ru2⟩
    refine ⟨_, rfl, a23, Calls.mono (Is_spec ru2 ((first m3 w3' f3).ahead (k22.trans a23)) (by omega)) ?_⟩
    rintro e w24 ⟨a24, rfl⟩
    have k24 := (k22.trans a23).trans a24
    refine ⟨_, rfl, a24, br_false rfl ?_⟩
    refine ixLf (d2.ahead (a8.trans k24)) (i := 0) (by simp; omega) rfl ?_
    refine Calls.mono (Rwt (a58.trans k24)) ?_
    rintro e w25 ⟨a25, u3, rfl, ru3⟩
    refine ⟨_, rfl, a25, Calls.mono (Is_spec ru3 ((first m2 w2' f2).ahead ((a8.trans k24).trans a25)) (by omega)) ?_⟩
    rintro e w26 ⟨a26, rfl⟩
    have k26 := (k24.trans a25).trans a26
    refine ⟨_, rfl, a26, br_false rfl ?_⟩
    have B2 := w1'.append a7 a6.size (Nat.le_refl _) w2'
    have B3 := (B2.append a8 (a6.trans a7).size (Nat.le_refl _) w3').ahead k26
    have q27 : ∀ T, Ahead w26 (w26.alloc (.cells (slcs [s6, s7, s8]).toArray T (0, 0))) := fun T => Ahead.alloc _ _
    refine ⟨0, w5, w26, [p1, p2, p3], [s6, s7, s8], rfl, rfl, rfl, rfl, rfl, by omega, a05, a58.trans k26, q27 _, owt.rd, hbp, ⟨_, ?_, get_alloc _ _⟩, rfl, rfl, ?_, ?_, fun j hj => ?_, SRow.nil⟩
    · decide
    · simp [m1, m2, m3]
    · simpa using B3
    · have : j = 0 ∨ j = 1 ∨ j = 2 := by omega
      rcases this with rfl | rfl | rfl
      · exact ⟨d1.ahead ((a7.trans a8).trans k26), m1⟩
      · exact ⟨d2.ahead (a8.trans k26), m2⟩
      · exact ⟨d3.ahead k26, m3⟩
  · rintro t0 t1 t7 t11 t95 t96 t97 w1 ⟨i, wE, wB, PP, S, rfl, rfl, rfl, rfl, rfl, hi, aE, aB, aw, hrw, hb, ⟨T, hT, hlit⟩, lS, lP, n33, hall, heach, hrow⟩
    have a1 := (aE.trans aB).trans aw
    refine br_intro (fun hlt => ?_) (fun hge => ?_)
    · have hi' : i < 3 := by have := of_decide_eq_true hlt; omega
      have e8 : IntKind.i64.wrap ((i : Int) + 1) = ((i + 1 : Nat) : Int) := by rw [wrap_i64 (by omega) (by omega)]; omega
      have hR : RdL w1 ⟨some ⟨wB.heap.size, 0, none⟩, 3, 3⟩ S := ⟨lS.symm, Nat.le_refl _, fun j hj => ⟨_, rfl, by
        rw [add_off]
        have := slcs_get hj
        simp only [World.cell?, hlit]
        simpa using this⟩⟩
      refine ixL hR (by omega) ?_
      obtain ⟨rS, l11⟩ := heach i hi'
      have hcut : (PP.take (i + 1)).flatten = (PP.take i).flatten ++ PP.getD i [] := by
        rw [List.take_succ_eq_append_getElem (by omega), List.flatten_append, getD_lt _ _ (by omega)]; simp
      have hlen : (PP.take i).flatten.length ≤ 33 := by
        have : PP.flatten = (PP.take i).flatten ++ (PP.drop i).flatten := by rw [← List.flatten_append, List.take_append_drop]
        rw [this, List.length_append] at n33
        omega
      refine appL hrow aw.size (rS.ahead aw) (by rw [List.length_map, l11]; omega) (by simp only [List.length_map]; rw [l11]; omega) fun s' w2 hs' hg => ⟨⟨i + 1, wE, wB, PP, S, e8, rfl, rfl, rfl, rfl, by omega, aE, aB, grow_ahead hrow hg aw (Nat.le_refl _), hrw, hb, ⟨T, hT, ?_⟩, lS, lP, n33, hall, heach, ?_⟩, by rw [e8]; omega⟩
      · rw [hg.block _ (Array.getElem?_eq_some_iff.1 hlit).1 fun e2 => ?_]
        · exact hlit
        · obtain ⟨_, cur, h2⟩ := hrow.block e2
          rw [hlit] at h2
          cases h2
          exact hT rfl
      · rw [hcut, List.map_append]; exact hs'
    · have hi' : i = 3 := by have := of_decide_eq_false hge; omega
      subst hi'
      rw [List.take_of_length_le (by omega)] at hrow
      refine Calls.mono (own_row hrow (by intro h; rw [h] at n33; simp at n33) hall aB.size aw (by omega)) ?_
      rintro e w2 ⟨rfl, hB⟩
      have aE2 : Ahead wE w2 := Ref.low_ahead (aB.trans aw) (Nat.le_refl _) hB
      have a2 := aE.trans aE2
      refine ⟨_, rfl, br_false rfl (Calls.mono (Copy_spec (r0.ahead a2) (by omega)) ?_)⟩
      rintro e w3 ⟨a3, x, rfl, ox⟩
      have hz := bigC_ok hb
      have nx : Num w3 x X := by rw [← hX]; exact num_of ox.rd o0 (by omega)
      refine ⟨_, rfl, Calls.mono (Mul_spec nx (Nb (a2.trans a3)) (by omega) (by omega)) ?_⟩
      rw [hz]
      rintro e w4 ⟨a4, p, rfl, op⟩
      rw [if_pos rfl] at op
      refine ⟨_, _, rfl, Calls.mono (Mul_spec (nx.ahead a4) (Nb ((a2.trans a3).trans a4)) (by omega) (by omega)) ?_⟩
      rw [hz]
      rintro e w5 ⟨a5, q, rfl, oq⟩
      rw [if_pos rfl] at oq
      have hxn : x.n = l0.length := by rw [ox.n, nn_length]
      have hlt := ox.lt
      have h34 := a4.size
      exact ⟨_, _, rfl, rfl, rfl, rfl, by rw [hxn], hb, 0, wE, l0, w2.heap.size, rfl, Nat.zero_le _, aE, ((aE2.trans a3).trans a4).trans a5, hrw, aE2.size, (ox.ahead a4).ahead a5, rfl, o0, (op.ahead a5).mono (by omega), oq.mono (by omega)⟩
  · rintro t1 t7 t14 t15 t16 t17 t18 t123 t124 w1 ⟨rfl, rfl, rfl, rfl, hb, i, wE, l, b, rfl, hi, aE, a1, hrw, hbb, ox, hl, hok, op, oq⟩
    have a01 := aE.trans a1
    refine br_intro (fun hlt => ?_) (fun hge => ?_)
    · have hi' : i < l0.length := by have := of_decide_eq_true hlt; omega
      have e8 : IntKind.i64.wrap ((i : Int) + 1) = ((i + 1 : Nat) : Int) := by rw [wrap_i64 (by omega) (by omega)]; omega
      refine ldN ox.rd (by omega) (by omega) ?_
      have hxo := xor_one (ok_getD hok (by rw [B64v]; omega) i)
      rw [Int.toNat_natCast, hxo.1]
      refine stB ox (by omega) fun w2 ox2 ah2 keep => ⟨⟨rfl, rfl, rfl, rfl, hb, i + 1, wE, _, b, e8, hi', aE, ah2 wE a1 hbb, hrw, hbb, ox2, by simp [hl], ok_set hok hxo.2, ?_, ?_⟩, by rw [e8]; omega⟩
      · exact OwnNil.block op fun k _ hbk => keep k (by have := bk_ge op hbk; omega)
      · exact OwnNil.block oq fun k _ hbk => keep k (by have := bk_ge oq hbk; omega)
    · have hV64 : (digs B64 (val B64 l)).length ≤ 1048576 := by have := Nat.len_le hok; omega
      have hVb : bl (val B64 l) ≤ 64 * l.length := bl_len hok
      have hV32 : (digs B32 (val B64 l)).length ≤ 2 ^ 22 := digs32_bl (by omega)
      have hOfx : ∀ {w'}, Ahead w1 w' → Calls pr surdref01_Of_id #[t14.v] w' fun e w2 => Ahead w' w2 ∧ ∃ s', e = .returned (Slc.v s') ∧ RN w2 s' (val B64 l) := fun ha => Of_spec (ox.rd.ahead ha) (by omega) hok
      refine Calls.mono (Mul_spec (num_of ox.rd hok (by omega)) (Nb a01) (by omega) (by omega)) ?_
      generalize val B64 l = V at *
      have hVY := bl_le_mul V Y
      rintro e w2 ⟨a2, r, rfl, or⟩
      refine ⟨_, _, rfl, Calls.mono num_spec ?_⟩
      rintro e w3 ⟨rfl, rfl⟩
      have a02 := a01.trans a2
      refine ⟨_, rfl, br_intro (fun hne => ?_) (fun heq => ?_)⟩
      · have hne' : bigC (V * Y) ≠ 0 := by simpa using hne
        obtain ⟨h3, hbig⟩ := bigC_no hne'
        refine Calls.mono num_spec ?_
        rintro e w4 ⟨rfl, rfl⟩
        refine ⟨_, rfl, br_true (by rw [h3]; rfl) (Calls.mono (hOfx a2) ?_)⟩
        rintro e w5 ⟨a5, u, rfl, ru⟩
        refine ⟨_, rfl, Calls.mono (Len_spec ru (by omega)) ?_⟩
        rintro e w6 ⟨rfl, rfl⟩
        refine ⟨_, rfl, Calls.mono (hOf1 (a02.trans a5)) ?_⟩
        rintro e w7 ⟨a7, u2, rfl, ru2⟩
        refine ⟨_, rfl, Calls.mono (Len_spec ru2 (by omega)) ?_⟩
        rintro e w8 ⟨rfl, rfl⟩
        refine ⟨_, rfl, ?_⟩
        rw [wrap_i64 (by omega) (by omega)]
        refine br_true (decide_eq_true (by omega)) ?_
        have q9 := Ahead.alloc w8 (.cells (ints .i64 [0, 0]).toArray 25 (0, 0))
        refine Calls.mono (all_spec (lit_rd .i64 25 w8 [0, 0]) (by simp)) ?_
        rintro e w10 ⟨e10, c, rfl, hc⟩
        have hct : c = true := hc.2 (by simp)
        subst hct
        exact ⟨_, rfl, br_true rfl (end_awake (((a02.trans a5).trans a7).trans (e10 ▸ q9)))⟩
      · have heq' : bigC (V * Y) = 0 := by simpa using heq
        have hVb2 := bigC_bl heq'
        rw [if_pos heq'] at or
        have hvl : (digs B64 (V * Y)).length ≤ 2 ^ 20 := digs_len_bl (by omega)
        have hpl : (digs B64 (X * Y)).length ≤ 2 ^ 20 := digs_len_bl (by omega)
        refine Calls.mono (hOfx a2) ?_
        rintro e w5 ⟨a5, u, rfl, ru⟩
        refine ⟨_, rfl, Calls.mono (hOf1 (a02.trans a5)) ?_⟩
        rintro e w7 ⟨a7, u2, rfl, ru2⟩
        refine ⟨_, rfl, Calls.mono (rMul_spec (ru.ahead a7) ru2 (by omega)) ?_⟩
        rintro e w8 ⟨a8, tu, rfl, rtu⟩
        refine ⟨_, rfl, ?_⟩
        have q9 := Ahead.alloc w8 (.cells (ints .i64 [0, 0]).toArray 25 (0, 0))
        refine Calls.mono (all_spec (lit_rd .i64 25 w8 [0, 0]) (by simp)) ?_
        rintro e w10 ⟨e10, c, rfl, hc⟩
        have hct : c = true := hc.2 (by simp)
        subst hct
        have a10 : Ahead w8 w10 := e10 ▸ q9
        have a210 := ((a5.trans a7).trans a8).trans a10
        have Rwt : ∀ {w'}, Ahead wE w' → Calls pr surdref01_Of_id #[t7.v] w' fun e w2 => Ahead w' w2 ∧ ∃ s', e = .returned (Slc.v s') ∧ RN w2 s' (X * Y) := fun ha => by
          have := Of_spec (hrw.ahead ha) (by omega) (ok_digs two64 _)
          rwa [val_digs two64] at this
        refine ⟨_, rfl, br_true rfl (Calls.mono (Rwt ((a1.trans a2).trans a210)) ?_)⟩
        rintro e w11 ⟨a11, u3, rfl, ru3⟩
        refine ⟨_, rfl, Calls.mono (Is_spec ru3 (op.rd.ahead ((a2.trans a210).trans a11)) (by omega)) ?_⟩
        rintro e w12 ⟨a12, rfl⟩
        have a212 := (a210.trans a11).trans a12
        refine ⟨_, rfl, br_true rfl (Calls.mono (Rwt ((a1.trans a2).trans a212)) ?_)⟩
        rintro e w13 ⟨a13, u4, rfl, ru4⟩
        refine ⟨_, rfl, Calls.mono (Is_spec ru4 (oq.rd.ahead ((a2.trans a212).trans a13)) (by omega)) ?_⟩
        rintro e w14 ⟨a14, rfl⟩
        have a814 := (((a10.trans a11).trans a12).trans a13).trans a14
        refine ⟨_, rfl, br_true rfl (Calls.mono (Is_spec (rtu.ahead a814) (or.rd.ahead (((a5.trans a7).trans a8).trans a814)) (by omega)) ?_)⟩
        rintro e w15 ⟨a15, rfl⟩
        exact ⟨_, rfl, br_true rfl (end_awake ((a02.trans (((a5.trans a7).trans a8).trans a814)).trans a15))⟩
end Mo
end Go.Proofs.Ytfdajpjiengihaa
