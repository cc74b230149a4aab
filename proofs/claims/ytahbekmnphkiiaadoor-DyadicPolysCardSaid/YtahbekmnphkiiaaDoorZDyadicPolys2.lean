/- What the law leans on, part 2. No condition. -/
import Derived.Test.YtahbekmnphkiiaaDoorZDyadicPolys1
namespace Go.Proofs.YtahbekmnphkiiaaDoor
open Go Go.RowKit Eng Sp Dg
set_option linter.unusedVariables false
set_option linter.unusedSimpArgs false
set_option maxRecDepth 100000
namespace Nat

theorem add64 {x y c : Nat} (hc : c ≤ 1) {w : World} {K : Int → Int → World → Prop} (hk : K (((x + y + c) % B64 : Nat) : Int) (((x + y + c) / B64 : Nat) : Int) w) :
    Sem.wp pr (callFunc bits_Add64_id #[.int .u64 (x : Int), .int .u64 (y : Int), .int .u64 (c : Int)]) (fun n w' => ∃ s : Int, ∃ o : Int, n = .value (.tuple #[.int .u64 s, .int .u64 o]) ∧ K s o w') (fun _ _ => False) w := by
  rw [Sem.wp_iff_run, run_callFunc_extern Tryd.func117 (by kernel_rfl) (by kernel_rfl) (by kernel_rfl) (e := add64Entry) (by kernel_rfl), run_add64 x y c (by omega) (by omega) (by omega) (by omega)]
  exact ⟨_, _, rfl, hk⟩
theorem sub64 {x y c : Nat} (hc : c ≤ 1) {w : World} {K : Int → Int → World → Prop} (hk : K (((x + B64 - y - c) % B64 : Nat) : Int) (((if x < y + c then 1 else 0) : Nat) : Int) w) :
    Sem.wp pr (callFunc bits_Sub64_id #[.int .u64 (x : Int), .int .u64 (y : Int), .int .u64 (c : Int)]) (fun n w' => ∃ s : Int, ∃ o : Int, n = .value (.tuple #[.int .u64 s, .int .u64 o]) ∧ K s o w') (fun _ _ => False) w := by
  rw [Sem.wp_iff_run, run_callFunc_extern Tryd.func119 (by kernel_rfl) (by kernel_rfl) (by kernel_rfl) (e := sub64Entry) (by kernel_rfl), run_sub64 x y c hc]
  exact ⟨_, _, rfl, hk⟩

theorem Compare_spec {w : World} {p q : Slc} {a b : List Nat} (hp : Rd .u64 w p (nn a)) (hq : Rd .u64 w q (nn b)) (la : a.length ≤ 2 ^ 46) (lb : b.length ≤ 2 ^ 46) (oa : ok B64 a) (ob : ok B64 b) :
    Calls pr nat_Compare_id #[p.v, q.v] w fun e w' => Ahead w w' ∧ e = .returned (.int .i64 (cmpI (val B64 a) (val B64 b))) := by
  refine nat_Compare_vc p q w _ (fun s t i w' => Ahead w w' ∧ ∃ m : Nat, (digs B64 (val B64 a)).length = (digs B64 (val B64 b)).length ∧ Rd .u64 w' s (nn (digs B64 (val B64 a))) ∧ Rd .u64 w' t (nn (digs B64 (val B64 b))) ∧
    i = (m : Int) - 1 ∧ m ≤ (digs B64 (val B64 a)).length ∧ (digs B64 (val B64 a)).drop m = (digs B64 (val B64 b)).drop m) (fun _ _ i _ => (i + 1).toNat) ?_ ?_
  · refine Calls.mono (trim_spec hp la oa) ?_
    rintro e w' ⟨rfl, m, hm, hd, rfl⟩
    refine ⟨_, rfl, ?_⟩
    refine Calls.mono (trim_spec hq lb ob) ?_
    rintro e w' ⟨rfl, m', hm', hd', rfl⟩
    refine ⟨_, rfl, ?_⟩
    have hca := hp.c
    have hna : p.n = a.length := by rw [hp.n, nn_length]
    have hcb := hq.c
    have hnb : q.n = b.length := by rw [hq.n, nn_length]
    have hla : (digs B64 (val B64 a)).length = m := by rw [hd, List.length_take]; omega
    have hlb : (digs B64 (val B64 b)).length = m' := by rw [hd', List.length_take]; omega
    refine br_intro (fun hne => ?_) (fun heq => ?_)
    · refine br_intro (fun hlt => ?_) (fun hlt => ?_)
      · have hlt' : m < m' := by simp at hlt; omega
        refine ⟨Ahead.refl _, ?_⟩
        have := digs_len_lt two64 (m := val B64 a) (n := val B64 b) (by omega)
        rw [cmpI, if_pos this]
      · have hlt' : m' < m := by simp at hlt hne; omega
        refine ⟨Ahead.refl _, ?_⟩
        have := digs_len_lt two64 (m := val B64 b) (n := val B64 a) (by omega)
        rw [cmpI, if_neg (by omega), if_pos this]
    · have heq' : m = m' := by simp at heq; omega
      subst heq'
      refine ⟨Ahead.refl _, m, by omega, ?_, ?_, wrap_i64 (by simp only; omega) (by simp only; omega), by omega, ?_⟩
      · rw [hd, ← nn_take]; exact hp.take (by simp; omega) (by omega)
      · rw [hd', ← nn_take]; exact hq.take (by simp; omega) (by omega)
      · rw [List.drop_eq_nil_of_le (by omega), List.drop_eq_nil_of_le (by omega)]
  · rintro s t i w' ⟨ha, m, hl, hs, ht, rfl, hm, hdr⟩
    have h46 := len_le oa
    refine br_intro (fun h0 => ?_) (fun h0 => ?_)
    · have hm1 : 1 ≤ m := by simp at h0; omega
      have e2 : ((m : Int) - 1).toNat = m - 1 := by omega
      refine ldNf hs (by omega) (by omega) ?_
      refine ldNf ht (by omega) (by omega) ?_
      intro w3 ha3
      rw [e2]
      have hdr' : (digs B64 (val B64 a)).drop (m - 1 + 1) = (digs B64 (val B64 b)).drop (m - 1 + 1) := by rw [Nat.sub_add_cancel hm1]; exact hdr
      refine br_intro (fun hlt => ?_) (fun hlt => ?_)
      · refine ⟨ha.trans ha3, ?_⟩
        have := val_lt_top (ok_digs two64 _) (by omega) (by omega) hdr' (by simpa using hlt)
        rw [val_digs two64, val_digs two64] at this
        rw [cmpI, if_pos this]
      · refine ldNf (hs.ahead ha3) (by omega) (by omega) ?_
        refine ldNf (ht.ahead ha3) (by omega) (by omega) ?_
        intro w4 ha4
        rw [e2]
        refine br_intro (fun hgt => ?_) (fun hgt => ?_)
        · refine ⟨(ha.trans ha3).trans ha4, ?_⟩
          have := val_lt_top (ok_digs two64 _) (by omega) (by omega) hdr'.symm (by simpa using hgt)
          rw [val_digs two64, val_digs two64] at this
          rw [cmpI, if_neg (by omega), if_pos this]
        · have e3 : IntKind.i64.wrap ((m : Int) - 1 - 1) = ((m - 1 : Nat) : Int) - 1 := by rw [wrap_i64 (by omega) (by omega)]; omega
          refine ⟨⟨(ha.trans ha3).trans ha4, m - 1, hl, (hs.ahead ha3).ahead ha4, (ht.ahead ha3).ahead ha4, e3, by omega, ?_⟩, by rw [e3]; omega⟩
          have heq : (digs B64 (val B64 a)).getD (m - 1) 0 = (digs B64 (val B64 b)).getD (m - 1) 0 := by
            simp only [decide_eq_false_iff_not] at hlt hgt; omega
          have l1 : m - 1 < (digs B64 (val B64 a)).length := by omega
          have l2 : m - 1 < (digs B64 (val B64 b)).length := by omega
          rw [List.drop_eq_getElem_cons l1, List.drop_eq_getElem_cons l2, hdr', ← getD_lt _ 0 l1, ← getD_lt _ 0 l2, heq]
    · have hm0 : m = 0 := by simp at h0; omega
      subst hm0
      refine ⟨ha, ?_⟩
      have := digs_inj two64 (m := val B64 a) (n := val B64 b) (by simpa using hdr)
      rw [this, cmpI, if_neg (by omega), if_neg (by omega)]

theorem Add_spec {w : World} {p q : Slc} {a b : List Nat} (hp : Rd .u64 w p (nn a)) (hq : Rd .u64 w q (nn b)) (la : a.length ≤ 2 ^ 44) (lb : b.length ≤ 2 ^ 44) (oa : ok B64 a) (ob : ok B64 b) :
    Calls pr nat_Add_id #[p.v, q.v] w (Ans w (val B64 a + val B64 b)) := by
  have hB := B64v
  have key : ∀ (s t : Slc) (A C : List Nat) (w2 : World), Ahead w w2 → Rd .u64 w2 s (nn A) → Rd .u64 w2 t (nn C) → ok B64 A → ok B64 C → C.length ≤ A.length → A.length ≤ 2 ^ 44 → val B64 A + val B64 C = val B64 a + val B64 b → True := fun _ _ _ _ _ _ _ _ _ _ _ _ _ => trivial
  refine nat_Add_vc p q w _ (fun s t c k n i w' => Ahead w w' ∧ ∃ (A C l : List Nat) (j cr bb : Nat), Rd .u64 w' s (nn A) ∧ Rd .u64 w' t (nn C) ∧ ok B64 A ∧ ok B64 C ∧ C.length ≤ A.length ∧ A.length ≤ 2 ^ 44 ∧
    val B64 A + val B64 C = val B64 a + val B64 b ∧ n = (A.length : Int) ∧ i = (j : Int) ∧ j ≤ A.length ∧ k = (cr : Int) ∧ cr ≤ 1 ∧ Owr .u64 tU64 w' c (nn l) bb ∧ c.c ≤ maxLen ∧ w.heap.size ≤ bb ∧
    l.length = A.length + 1 ∧ ok B64 l ∧ val B64 (l.take j) + cr * B64 ^ j = val B64 (A.take j) + val B64 (C.take j) ∧
    (∃ w1, Ahead w1 w' ∧ w1.heap.size ≤ bb ∧ Rd .u64 w1 s (nn A) ∧ Rd .u64 w1 t (nn C))) (fun _ _ _ _ n i _ => (n - i).toNat) ?_ ?_
  · refine Calls.mono (trim_spec hp (by omega) oa) ?_
    rintro e w' ⟨rfl, m, hm, hd, rfl⟩
    refine ⟨_, rfl, ?_⟩
    refine Calls.mono (trim_spec hq (by omega) ob) ?_
    rintro e w' ⟨rfl, m', hm', hd', rfl⟩
    refine ⟨_, rfl, ?_⟩
    have hca := hp.c
    have hna : p.n = a.length := by rw [hp.n, nn_length]
    have hcb := hq.c
    have hnb : q.n = b.length := by rw [hq.n, nn_length]
    have hla : (digs B64 (val B64 a)).length = m := by rw [hd, List.length_take]; omega
    have hlb : (digs B64 (val B64 b)).length = m' := by rw [hd', List.length_take]; omega
    have r1 : Rd .u64 w' ⟨p.A, m, p.c⟩ (nn (digs B64 (val B64 a))) := by rw [hd, ← nn_take]; exact hp.take (by simp; omega) (by omega)
    have r2 : Rd .u64 w' ⟨q.A, m', q.c⟩ (nn (digs B64 (val B64 b))) := by rw [hd', ← nn_take]; exact hq.take (by simp; omega) (by omega)
    refine br_intro (fun hlt => ?_) (fun hlt => ?_)
    · have hlt' : m < m' := by simp at hlt; omega
      simp only
      rw [wrap_i64 (x := (m' : Int) + 1) (by omega) (by omega)]
      refine mkN (by omega) (by omega) ?_
      intro s w1 hc ho ha hs
      refine ⟨ha, _, _, _, 0, 0, _, r2.ahead ha, r1.ahead ha, ok_digs two64 _, ok_digs two64 _, by omega, by omega, ?_, by simp only [hlb], rfl, Nat.zero_le _, rfl, Nat.zero_le _, ho, by rw [hc]; unfold maxLen; omega, Nat.le_refl _, by simp; omega, ok_replicate (by omega) _, by simp [val], w', ha, Nat.le_refl _, r2, r1⟩
      rw [val_digs two64, val_digs two64]; omega
    · have hlt' : m' ≤ m := by simp at hlt; omega
      simp only
      rw [wrap_i64 (x := (m : Int) + 1) (by omega) (by omega)]
      refine mkN (by omega) (by omega) ?_
      intro s w1 hc ho ha hs
      refine ⟨ha, _, _, _, 0, 0, _, r1.ahead ha, r2.ahead ha, ok_digs two64 _, ok_digs two64 _, by omega, by omega, ?_, by simp only [hla], rfl, Nat.zero_le _, rfl, Nat.zero_le _, ho, by rw [hc]; unfold maxLen; omega, Nat.le_refl _, by simp; omega, ok_replicate (by omega) _, by simp [val], w', ha, Nat.le_refl _, r1, r2⟩
      rw [val_digs two64, val_digs two64]
  · rintro s t c k n i w' ⟨ha, A, C, l, j, cr, bb, hs, ht, oA, oC, hCA, hA, hv, rfl, rfl, hj, rfl, hcr, ho, hcc, hbb, hl, ol, hval, w1, ha1, hw1, hs1, ht1⟩
    have htn : t.n = C.length := by rw [ht.n, nn_length]
    have hsn : s.n = A.length := by rw [hs.n, nn_length]
    -- what a round does with y
    have round : ∀ y : Nat, y < B64 → y = C.getD j 0 → j < A.length → semA pr (Instr.indexAt 35 s.v (.int .i64 (j : Int))) w' fun ad2 w5 => ldI .u64 ad2 w5 fun x2 =>
        Sem.wp pr (callFunc bits_Add64_id #[.int .u64 x2, .int .u64 (y : Int), .int .u64 (cr : Int)]) (fun n1 w6 => ∃ x3 : Int, ∃ x4 : Int, n1 = .value (.tuple #[.int .u64 x3, .int .u64 x4]) ∧
          (semA pr (Instr.indexAt 35 c.v (.int .i64 (j : Int))) w6 fun ad3 w7 => stC ad3 (.int .u64 x3) w7 fun w8 =>
            (Ahead w w8 ∧ ∃ (A C l : List Nat) (j' cr bb : Nat), Rd .u64 w8 s (nn A) ∧ Rd .u64 w8 t (nn C) ∧ ok B64 A ∧ ok B64 C ∧ C.length ≤ A.length ∧ A.length ≤ 2 ^ 44 ∧
    val B64 A + val B64 C = val B64 a + val B64 b ∧ (s.n : Int) = (A.length : Int) ∧ IntKind.i64.wrap ((j : Int) + 1) = (j' : Int) ∧ j' ≤ A.length ∧ x4 = (cr : Int) ∧ cr ≤ 1 ∧ Owr .u64 tU64 w8 c (nn l) bb ∧ c.c ≤ maxLen ∧ w.heap.size ≤ bb ∧
    l.length = A.length + 1 ∧ ok B64 l ∧ val B64 (l.take j') + cr * B64 ^ j' = val B64 (A.take j') + val B64 (C.take j') ∧
    (∃ w1, Ahead w1 w8 ∧ w1.heap.size ≤ bb ∧ Rd .u64 w1 s (nn A) ∧ Rd .u64 w1 t (nn C))) ∧ ((s.n : Int) - IntKind.i64.wrap ((j : Int) + 1)).toNat < ((s.n : Int) - (j : Int)).toNat)) (fun _ _ => False) w5 := by
      intro y hy hyC hjA
      refine ldN hs (by omega) (by omega) ?_
      refine add64 hcr ?_
      refine stN ho (by omega) (by omega) ?_
      intro w8 ho8 hah hsz
      have e1 : IntKind.i64.wrap ((j : Int) + 1) = ((j + 1 : Nat) : Int) := by rw [wrap_i64 (by omega) (by omega)]; omega
      have hx := ok_getD oA (by omega : 0 < B64) j
      have ha8 := hah w1 ha1 hw1
      simp only [Int.toNat_natCast] at ho8 ⊢
      have hq1 : (A.getD j 0 + y + cr) / B64 ≤ 1 := by
        have : A.getD j 0 + y + cr < 2 * B64 := by omega
        have := (Nat.div_lt_iff_lt_mul (by omega : 0 < B64)).2 this
        omega
      refine ⟨⟨hah w ha hbb, A, C, _, j + 1, _, bb, hs1.ahead ha8, ht1.ahead ha8, oA, oC, hCA, hA, hv, by omega, e1, by omega, rfl, hq1, ho8, hcc, hbb, by simpa using hl, ok_set ol (Nat.mod_lt _ (by omega)), ?_, w1, ha8, hw1, hs1, ht1⟩, by rw [e1]; omega⟩
      rw [val_take_set _ _ _ (by omega), val_take_succ', val_take_succ', Nat.pow_succ, ← hyC]
      exact add_step (by have := Nat.mod_add_div (A.getD j 0 + y + cr) B64; omega) hval
    refine br_intro (fun hlt => ?_) (fun hge => ?_)
    · have hjA : j < A.length := by simpa using hlt
      have e0 : ((A.length : Nat) : Int) = (s.n : Int) := by omega
      rw [e0]
      refine br_intro (fun hjC => ?_) (fun hjC => ?_)
      · have hjC' : j < C.length := by simp at hjC; omega
        refine ldN ht (by omega) (by omega) ?_
        exact round _ (ok_getD oC (by omega) j) rfl hjA
      · have hjC' : C.length ≤ j := by simp at hjC; omega
        exact round 0 (by omega) (getD_ge _ _ hjC').symm hjA
    · have hjA : j = A.length := by simp at hge; omega
      subst hjA
      rw [hsn]
      refine stN ho (by omega) (by omega) ?_
      intro w8 ho8 hah hsz
      simp only [Int.toNat_natCast] at ho8
      have hfin : val B64 (l.set A.length cr) = val B64 a + val B64 b := by
        rw [← val_take_all (l.set A.length cr) (m := A.length + 1) (by simp; omega), val_take_set _ _ _ (by omega), ← hv]
        rw [val_take_all A (Nat.le_refl _), val_take_all C hCA] at hval
        rw [Nat.mul_comm]; exact hval
      refine Calls.mono (told_own ho8 hbb hcc (hah w ha hbb) (by simp; omega) (ok_set ol (by omega))) ?_
      rw [hfin]
      rintro e w'' ⟨h1, s', c', rfl, h2⟩
      exact ⟨_, _, rfl, h1, _, _, rfl, h2⟩

theorem Sub_spec {w : World} {p q : Slc} {a b : List Nat} (hp : Rd .u64 w p (nn a)) (hq : Rd .u64 w q (nn b)) (la : a.length ≤ 2 ^ 44) (lb : b.length ≤ 2 ^ 44) (oa : ok B64 a) (ob : ok B64 b) :
    Calls pr nat_Sub_id #[p.v, q.v] w fun e w' => (val B64 a < val B64 b ∧ Ahead w w' ∧ e = .returned (.tuple #[Slc.v ⟨none, 0, 0⟩, .int .i64 10])) ∨ (val B64 b ≤ val B64 a ∧ Ans w (val B64 a - val B64 b) e w') := by
  have hB := B64v
  refine nat_Sub_vc p q w _ (fun s t c k n i w' => val B64 b ≤ val B64 a ∧ Ahead w w' ∧ ∃ (A C l : List Nat) (j cr bb : Nat), Rd .u64 w' s (nn A) ∧ Rd .u64 w' t (nn C) ∧ ok B64 A ∧ ok B64 C ∧ A.length ≤ 2 ^ 44 ∧
    val B64 A = val B64 a ∧ val B64 C = val B64 b ∧ C.length ≤ A.length ∧ n = (A.length : Int) ∧ i = (j : Int) ∧ j ≤ A.length ∧ k = (cr : Int) ∧ cr ≤ 1 ∧ Owr .u64 tU64 w' c (nn l) bb ∧ c.c ≤ maxLen ∧ w.heap.size ≤ bb ∧
    l.length = A.length ∧ ok B64 l ∧ val B64 (l.take j) + val B64 (C.take j) = val B64 (A.take j) + cr * B64 ^ j ∧
    (∃ w1, Ahead w1 w' ∧ w1.heap.size ≤ bb ∧ Rd .u64 w1 s (nn A) ∧ Rd .u64 w1 t (nn C))) (fun _ _ _ _ n i _ => (n - i).toNat) ?_ ?_
  · refine Calls.mono (Compare_spec hp hq (by omega) (by omega) oa ob) ?_
    rintro e w1 ⟨ha1, rfl⟩
    refine ⟨_, rfl, ?_⟩
    refine br_intro (fun hlt => ?_) (fun hge => ?_)
    · exact .inl ⟨cmpI_neg.1 (by simpa using hlt), ha1, rfl⟩
    · have hle : val B64 b ≤ val B64 a := by
        simp only [decide_eq_false_iff_not, cmpI_neg] at hge; omega
      refine Calls.mono (trim_spec (hp.ahead ha1) (by omega) oa) ?_
      rintro e w' ⟨rfl, m, hm, hd, rfl⟩
      refine ⟨_, rfl, ?_⟩
      refine Calls.mono (trim_spec (hq.ahead ha1) (by omega) ob) ?_
      rintro e w' ⟨rfl, m', hm', hd', rfl⟩
      refine ⟨_, rfl, ?_⟩
      have hca := hp.c
      have hna : p.n = a.length := by rw [hp.n, nn_length]
      have hcb := hq.c
      have hnb : q.n = b.length := by rw [hq.n, nn_length]
      have hla : (digs B64 (val B64 a)).length = m := by rw [hd, List.length_take]; omega
      have hlb : (digs B64 (val B64 b)).length = m' := by rw [hd', List.length_take]; omega
      have r1 : Rd .u64 w' ⟨p.A, m, p.c⟩ (nn (digs B64 (val B64 a))) := by rw [hd, ← nn_take]; exact (hp.ahead ha1).take (by simp; omega) (by omega)
      have r2 : Rd .u64 w' ⟨q.A, m', q.c⟩ (nn (digs B64 (val B64 b))) := by rw [hd', ← nn_take]; exact (hq.ahead ha1).take (by simp; omega) (by omega)
      have hmm : m' ≤ m := by
        rcases Nat.lt_or_ge m m' with h | h
        · have := digs_len_lt two64 (m := val B64 a) (n := val B64 b) (by omega); omega
        · exact h
      refine mkN (by simp only; omega) (by simp only; omega) ?_
      intro s w2 hc ho ha hs
      have hsz := ha1.size
      refine ⟨hle, ha1.trans ha, _, _, _, 0, 0, _, r1.ahead ha, r2.ahead ha, ok_digs two64 _, ok_digs two64 _, by omega, val_digs two64 _, val_digs two64 _, by omega, by simp only [hla], rfl, Nat.zero_le _, rfl, Nat.zero_le _, ho, by rw [hc]; unfold maxLen; simp only; omega, by omega, by simp; omega, ok_replicate (by omega) _, by simp [val], w', ha, Nat.le_refl _, r1, r2⟩
  · rintro s t c k n i w' ⟨hle, ha, A, C, l, j, cr, bb, hs, ht, oA, oC, hA, hvA, hvC, hCA, rfl, rfl, hj, rfl, hcr, ho, hcc, hbb, hl, ol, hval, w1, ha1, hw1, hs1, ht1⟩
    have htn : t.n = C.length := by rw [ht.n, nn_length]
    have hsn : s.n = A.length := by rw [hs.n, nn_length]
    have round : ∀ y : Nat, y < B64 → y = C.getD j 0 → j < A.length → semA pr (Instr.indexAt 35 s.v (.int .i64 (j : Int))) w' fun ad2 w5 => ldI .u64 ad2 w5 fun x2 =>
        Sem.wp pr (callFunc bits_Sub64_id #[.int .u64 x2, .int .u64 (y : Int), .int .u64 (cr : Int)]) (fun n1 w6 => ∃ x3 : Int, ∃ x4 : Int, n1 = .value (.tuple #[.int .u64 x3, .int .u64 x4]) ∧
          (semA pr (Instr.indexAt 35 c.v (.int .i64 (j : Int))) w6 fun ad3 w7 => stC ad3 (.int .u64 x3) w7 fun w8 =>
            (val B64 b ≤ val B64 a ∧ Ahead w w8 ∧ ∃ (A' C' l : List Nat) (j' cr bb : Nat), Rd .u64 w8 s (nn A') ∧ Rd .u64 w8 t (nn C') ∧ ok B64 A' ∧ ok B64 C' ∧ A'.length ≤ 2 ^ 44 ∧
    val B64 A' = val B64 a ∧ val B64 C' = val B64 b ∧ C'.length ≤ A'.length ∧ (A.length : Int) = (A'.length : Int) ∧ IntKind.i64.wrap ((j : Int) + 1) = (j' : Int) ∧ j' ≤ A'.length ∧ x4 = (cr : Int) ∧ cr ≤ 1 ∧ Owr .u64 tU64 w8 c (nn l) bb ∧ c.c ≤ maxLen ∧ w.heap.size ≤ bb ∧
    l.length = A'.length ∧ ok B64 l ∧ val B64 (l.take j') + val B64 (C'.take j') = val B64 (A'.take j') + cr * B64 ^ j' ∧
    (∃ w1, Ahead w1 w8 ∧ w1.heap.size ≤ bb ∧ Rd .u64 w1 s (nn A') ∧ Rd .u64 w1 t (nn C'))) ∧ ((A.length : Int) - IntKind.i64.wrap ((j : Int) + 1)).toNat < ((A.length : Int) - (j : Int)).toNat)) (fun _ _ => False) w5 := by
      intro y hy hyC hjA
      refine ldN hs (by omega) (by omega) ?_
      refine sub64 hcr ?_
      refine stN ho (by omega) (by omega) ?_
      intro w8 ho8 hah hsz
      have e1 : IntKind.i64.wrap ((j : Int) + 1) = ((j + 1 : Nat) : Int) := by rw [wrap_i64 (by omega) (by omega)]; omega
      have hx := ok_getD oA (by omega : 0 < B64) j
      have ha8 := hah w1 ha1 hw1
      simp only [Int.toNat_natCast] at ho8 ⊢
      have hq1 : (if A.getD j 0 < y + cr then 1 else 0) ≤ 1 := by split <;> omega
      have hst : (A.getD j 0 + B64 - y - cr) % B64 + y + cr = A.getD j 0 + B64 * (if A.getD j 0 < y + cr then 1 else 0) := by
        generalize A.getD j 0 = x at *
        split
        · rename_i h
          rw [Nat.mod_eq_of_lt (by omega)]; omega
        · rename_i h
          have : x + B64 - y - cr = (x - y - cr) + B64 := by omega
          rw [this, Nat.add_mod_right, Nat.mod_eq_of_lt (by omega)]; omega
      refine ⟨⟨hle, hah w ha hbb, A, C, _, j + 1, _, bb, hs1.ahead ha8, ht1.ahead ha8, oA, oC, hA, hvA, hvC, hCA, rfl, e1, by omega, rfl, hq1, ho8, hcc, hbb, by simpa using hl, ok_set ol (Nat.mod_lt _ (by omega)), ?_, w1, ha8, hw1, hs1, ht1⟩, by rw [e1]; omega⟩
      rw [val_take_set _ _ _ (by omega), val_take_succ', val_take_succ', Nat.pow_succ, ← hyC]
      exact sub_step hst hval
    refine br_intro (fun hlt => ?_) (fun hge => ?_)
    · have hjA : j < A.length := by simpa using hlt
      refine br_intro (fun hjC => ?_) (fun hjC => ?_)
      · have hjC' : j < C.length := by simp at hjC; omega
        refine ldN ht (by omega) (by omega) ?_
        exact round _ (ok_getD oC (by omega) j) rfl hjA
      · have hjC' : C.length ≤ j := by simp at hjC; omega
        exact round 0 (by omega) (getD_ge _ _ hjC').symm hjA
    · have hjA : j = A.length := by simp at hge; omega
      subst hjA
      have hfin : val B64 l = val B64 a - val B64 b := by
        rw [val_take_all l (by omega), val_take_all A (Nat.le_refl _), val_take_all C hCA, hvA, hvC] at hval
        have hlt := val_lt ol
        rw [hl] at hlt
        have : cr = 0 := by
          rcases Nat.lt_or_ge cr 1 with h | h
          · omega
          · have : cr = 1 := by omega
            subst this
            omega
        subst this
        omega
      refine Calls.mono (told_own ho hbb hcc ha (by omega) ol) ?_
      rw [hfin]
      rintro e w'' ⟨h1, s', c', rfl, h2⟩
      exact ⟨_, _, rfl, .inr ⟨hle, h1, _, _, rfl, h2⟩⟩

end Nat
end Go.Proofs.YtahbekmnphkiiaaDoor
namespace Go.Proofs.YtahbekmnphkiiaaDoor
open Go Go.RowKit Eng Sp Dg
set_option linter.unusedVariables false
set_option linter.unusedSimpArgs false
set_option maxRecDepth 100000
namespace Nat

/-- The code of an answer that is a number. -/
def bigC (n : Nat) : Int := if bl n ≤ 67108864 then 0 else 3
/-- An answer: a number in memory newer than w, or nothing and a code. -/
def Ret (w : World) (code : Int) (N : Nat) (e : Ending) (w' : World) : Prop :=
  Ahead w w' ∧ ∃ s, e = .returned (.tuple #[Slc.v s, .int .i64 code]) ∧ OwnNil w.heap.size w' s (if code = 0 then digs B64 N else [])
theorem Ans.ret {w w' : World} {n : Nat} {e : Ending} (h : Ans w n e w') : Ret w (bigC n) n e w' := by
  obtain ⟨ha, s, c, rfl, ⟨h1, rfl, ho⟩ | ⟨h1, rfl, rfl⟩⟩ := h
  · exact ⟨ha, s, by rw [bigC, if_pos h1], by rw [bigC, if_pos h1, if_pos rfl]; exact ho⟩
  · exact ⟨ha, _, by rw [bigC, if_neg (by omega)], by rw [bigC, if_neg (by omega)]; exact OwnNil.nil⟩

theorem Fill.trim {w0 w : World} {c : Slc} {l : List Nat} {S : World → Prop} (h : Fill w0 w c l S) (hl : l.length ≤ 2 ^ 46) (hok : ok B64 l) :
    Calls pr nat_trim_id #[c.v] w fun e w' => w' = w ∧ ∃ s, e = .returned (Slc.v s) ∧ OwnNil w0.heap.size w s (digs B64 (val B64 l)) := by
  refine Calls.mono (trim_spec h.rd hl hok) ?_
  rintro e w' ⟨rfl, m, hm, hd, rfl⟩
  obtain ⟨b, w1, ho, h2, h3, _⟩ := h
  refine ⟨rfl, _, rfl, .inr ⟨b, h3, h2, ?_⟩⟩
  have := ho.take (m := m) (by simpa using hm)
  rw [hd, ← nn_take]
  exact this

/-- trim, of what is read: a slice that reads as the number's digits. -/
theorem trim_rd {w : World} {p : Slc} {a : List Nat} (hp : Rd .u64 w p (nn a)) (la : a.length ≤ 2 ^ 44) (oa : ok B64 a) :
    Calls pr nat_trim_id #[p.v] w fun e w' => w' = w ∧ ∃ s, e = .returned (Slc.v s) ∧ s.n = (digs B64 (val B64 a)).length ∧ Rd .u64 w s (nn (digs B64 (val B64 a))) := by
  refine Calls.mono (trim_spec hp (by omega) oa) ?_
  rintro e w' ⟨rfl, m, hm, hd, rfl⟩
  have hca := hp.c
  have hna : p.n = a.length := by rw [hp.n, nn_length]
  have hla : (digs B64 (val B64 a)).length = m := by rw [hd, List.length_take]; omega
  exact ⟨rfl, _, rfl, hla.symm, by rw [hd, ← nn_take]; exact hp.take (by simp; omega) (by omega)⟩

def leftC (v : Nat) (n : Int) : Int := if n < 0 ∨ 1099511627776 < n then 1 else if v ≠ 0 ∧ (67108864 : Int) < bl v + n then 3 else 0

theorem Left_spec {w : World} {p : Slc} {a : List Nat} (hp : Rd .u64 w p (nn a)) (la : a.length ≤ 2 ^ 44) (oa : ok B64 a) {n : Int} (hn0 : -9223372036854775808 ≤ n) (hn1 : n ≤ 9223372036854775807) :
    Calls pr nat_Left_id #[p.v, .int .i64 n] w (Ret w (leftC (val B64 a) n) (val B64 a * 2 ^ n.toNat)) := by
  have hB := B64v
  have hlen := len_le oa
  refine nat_Left_vc p n w _ (fun t6 t7 t8 t38 t39 t40 w' => 0 ≤ n ∧ n ≤ 1099511627776 ∧ (val B64 a ≠ 0 → (bl (val B64 a) : Int) + n ≤ 67108864) ∧ ∃ (l : List Nat) (j : Nat),
    t6 = ((n.toNat / 64 : Nat) : Int) ∧ t7 = ((n.toNat % 64 : Nat) : Int) ∧ t39 = ((digs B64 (val B64 a)).length : Int) ∧ t40 = (j : Int) ∧ j ≤ (digs B64 (val B64 a)).length ∧
    Fill w w' t8 l (fun w' => Rd .u64 w' t38 (nn (digs B64 (val B64 a)))) ∧ l.length = n.toNat / 64 + (digs B64 (val B64 a)).length + 1 ∧ ok B64 l ∧
    val B64 l = val B64 ((digs B64 (val B64 a)).take j) * (B64 ^ (n.toNat / 64) * 2 ^ (n.toNat % 64))) (fun _ _ _ _ n i _ => (n - i).toNat) ?_ ?_
  · refine br_intro (fun h => ?_) (fun h => br_intro (fun h' => ?_) (fun h' => ?_))
    · have hc : leftC (val B64 a) n = 1 := by rw [leftC, if_pos]; left; simpa using h
      rw [hc]
      exact ⟨Ahead.refl _, _, rfl, OwnNil.nil⟩
    · have hc : leftC (val B64 a) n = 1 := by rw [leftC, if_pos]; right; simpa using h'
      rw [hc]
      exact ⟨Ahead.refl _, _, rfl, OwnNil.nil⟩
    · have h0 : 0 ≤ n := by simpa using h
      have h1 : n ≤ 1099511627776 := by simpa using h'
      refine Calls.mono (trim_rd hp la oa) ?_
      rintro e w' ⟨rfl, s, rfl, hsn, hs⟩
      refine ⟨_, rfl, br_intro (fun hz => ?_) (fun hz => ?_)⟩
      · have hd : digs B64 (val B64 a) = [] := List.eq_nil_of_length_eq_zero (by simp at hz; omega)
        have hv : val B64 a = 0 := by rw [← val_digs two64 (val B64 a), hd]; rfl
        have hc : leftC (val B64 a) n = 0 := by rw [leftC, if_neg (by omega), if_neg (by omega)]
        rw [hc, hv, Nat.zero_mul]
        exact ⟨Ahead.refl _, _, rfl, by rw [if_pos rfl, digs_zero]; exact OwnNil.nil⟩
      · have hv : val B64 a ≠ 0 := fun h => by rw [h, digs_zero] at hsn; simp at hz; simp at hsn; omega
        refine Calls.mono (Length_spec hs (by omega) (ok_digs two64 _)) ?_
        rintro e w2 ⟨rfl, rfl⟩
        rw [val_digs two64]
        have hbl : bl (val B64 a) ≤ 64 * a.length := bl_len oa
        refine ⟨_, rfl, ?_⟩
        rw [wrap_i64 (x := (bl (val B64 a) : Int) + n) (by omega) (by omega)]
        refine br_intro (fun hb => ?_) (fun hb => ?_)
        · have hb' : 67108864 < (bl (val B64 a) : Int) + n := by simpa using hb
          have hc : leftC (val B64 a) n = 3 := by rw [leftC, if_neg (by omega), if_pos ⟨hv, hb'⟩]
          rw [hc]
          exact ⟨Ahead.refl _, _, rfl, OwnNil.nil⟩
        · have hb' : (bl (val B64 a) : Int) + n ≤ 67108864 := by simpa using hb
          have e1 : IntKind.i64.wrap (Int.tdiv n 64) = ((n.toNat / 64 : Nat) : Int) := by
            have : Int.tdiv n 64 = ((n.toNat / 64 : Nat) : Int) := by rw [Int.tdiv_eq_ediv_of_nonneg h0]; omega
            rw [this, wrap_i64 (by omega) (by omega)]
          have e2 : IntKind.u64.wrap (Int.tmod n 64) = ((n.toNat % 64 : Nat) : Int) := by
            have : Int.tmod n 64 = ((n.toNat % 64 : Nat) : Int) := by rw [Int.tmod_eq_emod_of_nonneg h0]; omega
            rw [this, wrap_u64' (by omega) (by omega)]
          rw [e1, e2, hsn, wrap_i64 (x := ((n.toNat / 64 : Nat) : Int) + _) (by omega) (by omega), wrap_i64 (x := ((n.toNat / 64 : Nat) : Int) + _ + 1) (by omega) (by omega)]
          refine mkF (w0 := w2) (S := fun w' => Rd .u64 w' s (nn (digs B64 (val B64 a)))) (by omega) (by omega) (Ahead.refl _) hs ?_
          intro c w3 hcn hf ha
          refine ⟨h0, h1, fun _ => hb', _, 0, rfl, rfl, rfl, rfl, Nat.zero_le _, hf, by simp; omega, ok_replicate (by omega) _, ?_⟩
          rw [val_replicate]; simp [val]
  · rintro t6 t7 c t38 t39 t40 w' ⟨h0, h1, hbl, l, j, rfl, rfl, rfl, rfl, hj, hf, hl, ol, hv⟩
    have hS := hf.src (fun _ h hs => Rd.ahead hs h)
    refine br_intro (fun hlt => ?_) (fun hge => ?_)
    · have hj' : j < (digs B64 (val B64 a)).length := by simpa using hlt
      have h64 : B64 = 2 ^ 64 := rfl
      have hoA := ok_digs two64 (val B64 a)
      generalize hA : digs B64 (val B64 a) = A at *
      have hw : n.toNat % 64 < 64 := Nat.mod_lt _ (by omega)
      have hfacts := left_facts (w := 64) (l := l) (A := A) (j := j) (wd := n.toNat / 64) (s := n.toNat % 64) hw (by omega) hoA hj' hv
      refine ldN hS (by omega) (by omega) ?_
      rw [wrap_i64 (x := ((n.toNat / 64 : Nat) : Int) + _) (by omega) (by omega), show ((n.toNat / 64 : Nat) : Int) + (j : Int) = ((n.toNat / 64 + j : Nat) : Int) by omega,
        wrap_i64 (x := ((n.toNat / 64 + j : Nat) : Int) + 1) (by omega) (by omega), show ((n.toNat / 64 + j : Nat) : Int) + 1 = ((n.toNat / 64 + j + 1 : Nat) : Int) by omega]
      refine ldN hf.rd (by omega) (by omega) ?_
      refine semShl (by omega) ?_
      have hx := ok_getD hoA (by omega : 0 < B64) j
      have hlk := ok_getD ol (by omega : 0 < B64) (n.toNat / 64 + j)
      simp only [Int.toNat_natCast]
      rw [orI_nat hlk (Nat.mod_lt _ (by omega))]
      refine stF hf (by omega) (by omega) ?_
      intro w8 hf8
      simp only [Int.toNat_natCast] at hf8
      refine ldN hf8.rd (by omega) (by simp; omega) ?_
      have e3 : Int.fdiv (A.getD j 0 : Int) (2 ^ (1 : Nat)) = ((A.getD j 0 / 2 : Nat) : Int) := by rw [Int.fdiv_eq_ediv_of_nonneg _ (by decide)]; norm_cast
      have e4 : IntKind.u64.wrap (63 - ((n.toNat % 64 : Nat) : Int)) = ((63 - n.toNat % 64 : Nat) : Int) := by rw [wrap_u64' (by omega) (by omega)]; omega
      rw [e3, e4]
      refine semShr (by omega) ?_
      simp only [Int.toNat_natCast]
      have e5 : (l.set (n.toNat / 64 + j) (l.getD (n.toNat / 64 + j) 0 ||| A.getD j 0 * 2 ^ (n.toNat % 64) % B64)).getD (n.toNat / 64 + j + 1) 0 = 0 := by
        rw [getD_set _ _ _ _ (by omega), if_neg (by omega)]; exact hfacts.2
      have e6 : A.getD j 0 / 2 / 2 ^ (63 - n.toNat % 64) = A.getD j 0 * 2 ^ (n.toNat % 64) / 2 ^ 64 := by
        rw [shl_hi _ _ _ (by omega), Nat.div_div_eq_div_mul]
        congr 1
        rw [show 64 - n.toNat % 64 = 63 - n.toNat % 64 + 1 by omega, Nat.pow_succ]; omega
      have hhi : A.getD j 0 * 2 ^ (n.toNat % 64) / 2 ^ 64 < B64 := by
        rw [shl_hi _ _ _ (by omega)]
        exact Nat.lt_of_le_of_lt (Nat.div_le_self _ _) hx
      rw [e5, e6]
      have e7 : orI .u64 ((0 : Nat) : Int) ((A.getD j 0 * 2 ^ (n.toNat % 64) / 2 ^ 64 : Nat) : Int) = ((A.getD j 0 * 2 ^ (n.toNat % 64) / 2 ^ 64 : Nat) : Int) := by
        rw [orI_nat (by omega) hhi, Nat.zero_or]
      rw [e7]
      refine stF hf8 (by omega) (by simp; omega) ?_
      intro w12 hf12
      have e8 : IntKind.i64.wrap ((j : Int) + 1) = ((j + 1 : Nat) : Int) := by rw [wrap_i64 (by omega) (by omega)]; omega
      refine ⟨⟨h0, h1, hbl, _, j + 1, by trivial, by trivial, by trivial, e8, by omega, hf12, by simpa using hl, ?_, ?_⟩, by rw [e8]; omega⟩
      · refine ok_set (ok_set ol ?_) hhi
        show _ < 2 ^ 64
        exact Nat.or_lt_two_pow hlk (Nat.mod_lt _ (by omega))
      · simp only [Int.toNat_natCast]
        refine left_step (w := 64) hw (by omega) hoA hj' hv ?_ rfl
        have hlo := shl_lo (A.getD j 0) (n.toNat % 64) 64 (by omega)
        have hlo' : A.getD j 0 * 2 ^ (n.toNat % 64) % B64 = _ := hlo
        rw [hlo', hlo, or_add hfacts.1]
    · have hj' : j = (digs B64 (val B64 a)).length := by simp at hge; omega
      subst hj'
      refine Calls.mono (hf.trim (by omega) ol) ?_
      rintro e w3 ⟨rfl, s, rfl, ho⟩
      refine ⟨_, rfl, hf.base, s, ?_⟩
      have hc : leftC (val B64 a) n = 0 := by
        rw [leftC, if_neg (by omega), if_neg]
        rintro ⟨h2, h3⟩
        have := hbl h2
        omega
      have hp2 : B64 ^ (n.toNat / 64) * 2 ^ (n.toNat % 64) = 2 ^ n.toNat := (pow_split n.toNat 64).symm
      rw [hv, List.take_length, val_digs two64, hp2] at ho
      rw [hc]
      exact ⟨rfl, ho⟩

def rightC (v : Nat) (n : Int) : Int := if n < 0 ∨ 1099511627776 < n then 1 else bigC (v / 2 ^ n.toNat)

theorem Right_spec {w : World} {p : Slc} {a : List Nat} (hp : Rd .u64 w p (nn a)) (la : a.length ≤ 2 ^ 44) (oa : ok B64 a) {n : Int} :
    Calls pr nat_Right_id #[p.v, .int .i64 n] w (Ret w (rightC (val B64 a) n) (val B64 a / 2 ^ n.toNat)) := by
  have hB := B64v
  have h64 : B64 = 2 ^ 64 := rfl
  have hlen := len_le oa
  have hw : n.toNat % 64 < 64 := Nat.mod_lt _ (by omega)
  have hp2 : B64 ^ (n.toNat / 64) * 2 ^ (n.toNat % 64) = 2 ^ n.toNat := (pow_split n.toNat 64).symm
  have hA0 : val B64 (digs B64 (val B64 a)) = val B64 a := val_digs two64 _
  have hoA := ok_digs two64 (val B64 a)
  generalize hA : digs B64 (val B64 a) = A at *
  refine nat_Right_vc p n w _ (fun t0 t6 t7 t8 t33 t34 w' => 0 ≤ n ∧ n ≤ 1099511627776 ∧ n.toNat / 64 < A.length ∧ ∃ (l : List Nat) (j : Nat),
    t6 = ((n.toNat / 64 : Nat) : Int) ∧ t7 = ((n.toNat % 64 : Nat) : Int) ∧ t33 = ((A.length - n.toNat / 64 : Nat) : Int) ∧ t34 = (j : Int) ∧ j ≤ A.length - n.toNat / 64 ∧ t0.n = A.length ∧
    Fill w w' t8 l (fun w' => Rd .u64 w' t0 (nn A)) ∧ l.length = A.length - n.toNat / 64 ∧ ok B64 l ∧
    ∀ i, i < j → l.getD i 0 = val B64 a / 2 ^ n.toNat / B64 ^ i % B64) (fun _ _ _ _ n i _ => (n - i).toNat) ?_ ?_
  · refine br_intro (fun h => ?_) (fun h => br_intro (fun h' => ?_) (fun h' => ?_))
    · have hc : rightC (val B64 a) n = 1 := by rw [rightC, if_pos]; left; simpa using h
      rw [hc]
      exact ⟨Ahead.refl _, _, rfl, OwnNil.nil⟩
    · have hc : rightC (val B64 a) n = 1 := by rw [rightC, if_pos]; right; simpa using h'
      rw [hc]
      exact ⟨Ahead.refl _, _, rfl, OwnNil.nil⟩
    · have h0 : 0 ≤ n := by simpa using h
      have h1 : n ≤ 1099511627776 := by simpa using h'
      refine Calls.mono (trim_rd hp la oa) ?_
      rw [hA]
      rintro e w' ⟨rfl, s, rfl, hsn, hs⟩
      have e1 : IntKind.i64.wrap (Int.tdiv n 64) = ((n.toNat / 64 : Nat) : Int) := by
        have : Int.tdiv n 64 = ((n.toNat / 64 : Nat) : Int) := by rw [Int.tdiv_eq_ediv_of_nonneg h0]; omega
        rw [this, wrap_i64 (by omega) (by omega)]
      have e2 : IntKind.u64.wrap (Int.tmod n 64) = ((n.toNat % 64 : Nat) : Int) := by
        have : Int.tmod n 64 = ((n.toNat % 64 : Nat) : Int) := by rw [Int.tmod_eq_emod_of_nonneg h0]; omega
        rw [this, wrap_u64' (by omega) (by omega)]
      refine ⟨_, rfl, ?_⟩
      rw [e1, e2, hsn]
      refine br_intro (fun hz => ?_) (fun hz => ?_)
      · have hz' : A.length ≤ n.toNat / 64 := by simp at hz; omega
        have hv : val B64 a / 2 ^ n.toNat = 0 := by
          apply Nat.div_eq_of_lt
          rw [← hA0, ← hp2]
          refine Nat.lt_of_lt_of_le (val_lt hoA) (Nat.le_trans (Nat.pow_le_pow_right (by omega) hz') ?_)
          exact Nat.le_mul_of_pos_right _ (Nat.pow_pos (by omega))
        have hc : rightC (val B64 a) n = 0 := by rw [rightC, if_neg (by omega), hv, bigC, bl_zero, if_pos (by omega)]
        rw [hc, hv]
        exact ⟨Ahead.refl _, _, rfl, by rw [if_pos rfl, digs_zero]; exact OwnNil.nil⟩
      · have hz' : n.toNat / 64 < A.length := by simp at hz; omega
        rw [wrap_i64 (x := (A.length : Int) - _) (by omega) (by omega), show (A.length : Int) - ((n.toNat / 64 : Nat) : Int) = ((A.length - n.toNat / 64 : Nat) : Int) by omega]
        refine mkF (w0 := w') (S := fun w' => Rd .u64 w' s (nn A)) (by omega) (by omega) (Ahead.refl _) hs ?_
        intro c w3 hcn hf ha
        refine ⟨h0, h1, hz', _, 0, rfl, rfl, by rw [hcn]; simp, rfl, Nat.zero_le _, by first | exact hsn | rfl, hf, by simp, ok_replicate (by omega) _, fun i hi => by omega⟩
  · rintro t0 t6 t7 c t33 t34 w' ⟨h0, h1, hz, l, j, rfl, rfl, rfl, rfl, hj, htn, hf, hl, ol, hd⟩
    have hS := hf.src (fun _ h hs => Rd.ahead hs h)
    have hN : ∀ i, val B64 a / 2 ^ n.toNat / B64 ^ i % B64 = A.getD (n.toNat / 64 + i) 0 / 2 ^ (n.toNat % 64) + 2 ^ (64 - n.toNat % 64) * (A.getD (n.toNat / 64 + i + 1) 0 % 2 ^ (n.toNat % 64)) := by
      intro i
      rw [digit (by omega : 0 < B64) A hoA (n.toNat / 64 + i), digit (by omega : 0 < B64) A hoA (n.toNat / 64 + i + 1), hA0, ← hp2]
      generalize val B64 a = V
      rw [h64, div_pow_add, right_digit _ _ _ _ hw]
      congr 2
      generalize V / (2 ^ 64) ^ (n.toNat / 64 + i + 1) = U
      rw [show 2 ^ 64 = 2 ^ (n.toNat % 64) * 2 ^ (64 - n.toNat % 64) by rw [← Nat.pow_add]; congr 1; omega, Nat.mod_mul_right_mod]
    refine br_intro (fun hlt => ?_) (fun hge => ?_)
    · have hj' : j < A.length - n.toNat / 64 := by simp at hlt; omega
      have hx := ok_getD hoA (by omega : 0 < B64) (n.toNat / 64 + j)
      have e8 : IntKind.i64.wrap ((j : Int) + 1) = ((j + 1 : Nat) : Int) := by rw [wrap_i64 (by omega) (by omega)]; omega
      rw [wrap_i64 (x := ((n.toNat / 64 : Nat) : Int) + _) (by omega) (by omega), show ((n.toNat / 64 : Nat) : Int) + (j : Int) = ((n.toNat / 64 + j : Nat) : Int) by omega,
        wrap_i64 (x := ((n.toNat / 64 + j : Nat) : Int) + 1) (by omega) (by omega), show ((n.toNat / 64 + j : Nat) : Int) + 1 = ((n.toNat / 64 + j + 1 : Nat) : Int) by omega]
      refine ldN hS (by omega) (by omega) ?_
      refine semShr (by omega) ?_
      simp only [Int.toNat_natCast]
      have hq : A.getD (n.toNat / 64 + j) 0 / 2 ^ (n.toNat % 64) < B64 := Nat.lt_of_le_of_lt (Nat.div_le_self _ _) hx
      refine stF hf (by omega) (by omega) ?_
      intro w6 hf6
      simp only [Int.toNat_natCast] at hf6
      refine br_intro (fun hin => ?_) (fun hin => ?_)
      · have hin' : n.toNat / 64 + j + 1 < A.length := by simp at hin; omega
        have hS6 := hf6.src (fun _ h hs => Rd.ahead hs h)
        refine ldNf hf6.rd (by omega) (by simp; omega) ?_
        refine ldNf hS6 (by omega) (by omega) ?_
        simp only [Int.toNat_natCast]
        have hy := ok_getD hoA (by omega : 0 < B64) (n.toNat / 64 + j + 1)
        have e3 : IntKind.u64.wrap ((A.getD (n.toNat / 64 + j + 1) 0 : Int) * 2 ^ (1 : Nat)) = ((A.getD (n.toNat / 64 + j + 1) 0 * 2 % B64 : Nat) : Int) := by rw [wrap_u64, B64v, show (2 : Int) ^ (1 : Nat) = 2 from rfl]; omega
        have e4 : IntKind.u64.wrap (63 - ((n.toNat % 64 : Nat) : Int)) = ((63 - n.toNat % 64 : Nat) : Int) := by rw [wrap_u64' (by omega) (by omega)]; omega
        rw [e3, e4]
        refine fixShl (by omega) ?_
        rw [getD_set _ _ _ _ (by omega), if_pos rfl, orI_nat hq (Nat.mod_lt _ (by omega))]
        have e5 : A.getD (n.toNat / 64 + j + 1) 0 * 2 % B64 * 2 ^ (63 - n.toNat % 64) % B64 = 2 ^ (64 - n.toNat % 64) * (A.getD (n.toNat / 64 + j + 1) 0 % 2 ^ (n.toNat % 64)) := by
          rw [Nat.mod_mul_mod, Nat.mul_assoc, show 2 * 2 ^ (63 - n.toNat % 64) = 2 ^ (64 - n.toNat % 64) by rw [show 64 - n.toNat % 64 = 63 - n.toNat % 64 + 1 by omega, Nat.pow_succ]; omega, h64, shl_lo _ _ _ (by omega)]
          congr 3; omega
        have hql : A.getD (n.toNat / 64 + j) 0 / 2 ^ (n.toNat % 64) < 2 ^ (64 - n.toNat % 64) := by
          rw [Nat.div_lt_iff_lt_mul (Nat.pow_pos (by omega)), ← Nat.pow_add, show 64 - n.toNat % 64 + n.toNat % 64 = 64 by omega]
          exact hx
        rw [e5, or_add hql]
        refine stFf hf6 (Ahead.drew _) (by omega) (by simp; omega) ?_
        intro w7 hf7
        simp only [Int.toNat_natCast, List.set_set] at hf7
        refine ⟨⟨h0, h1, hz, _, j + 1, by trivial, by trivial, by trivial, e8, by omega, htn, hf7, by simpa using hl, ok_set ol ?_, fun i hi => ?_⟩, by rw [e8]; omega⟩
        · rw [← hN]; exact Nat.mod_lt _ (by omega)
        · rw [getD_set _ _ _ _ (by omega)]
          split
          · rename_i h; subst h; exact (hN _).symm
          · exact hd i (by omega)
      · have hin' : A.length ≤ n.toNat / 64 + j + 1 := by simp at hin; omega
        refine ⟨⟨h0, h1, hz, _, j + 1, by trivial, by trivial, by trivial, e8, by omega, htn, hf6, by simpa using hl, ok_set ol hq, fun i hi => ?_⟩, by rw [e8]; omega⟩
        rw [getD_set _ _ _ _ (by omega)]
        split
        · rename_i h; subst h
          rw [hN, getD_ge A 0 hin', Nat.zero_mod, Nat.mul_zero, Nat.add_zero]
        · exact hd i (by omega)
    · have hj' : j = A.length - n.toNat / 64 := by simp at hge; omega
      subst hj'
      have hv : val B64 l = val B64 a / 2 ^ n.toNat := by
        refine val_of_digits (by omega) l _ ?_ (fun i hi => hd i (by omega))
        rw [Nat.div_lt_iff_lt_mul (Nat.pow_pos (by omega)), ← hp2, ← Nat.mul_assoc, hl, ← Nat.pow_add, show A.length - n.toNat / 64 + n.toNat / 64 = A.length by omega, ← hA0]
        exact Nat.lt_of_lt_of_le (val_lt hoA) (Nat.le_mul_of_pos_right _ (Nat.pow_pos (by omega)))
      refine Calls.mono (hf.told (by omega) ol) ?_
      intro e w3 h
      have h' := h.ret
      rw [hv] at h'
      have hc : rightC (val B64 a) n = bigC (val B64 a / 2 ^ n.toNat) := by rw [rightC, if_neg (by omega)]
      rw [hc]
      obtain ⟨h1, s, rfl, h2⟩ := h'
      exact ⟨_, _, rfl, h1, _, rfl, h2⟩

end Nat
end Go.Proofs.YtahbekmnphkiiaaDoor
namespace Go.Proofs.YtahbekmnphkiiaaDoor
open Go Go.RowKit Eng Sp Dg
set_option linter.unusedVariables false
set_option linter.unusedSimpArgs false
set_option maxRecDepth 100000
namespace Nat

/-- The slice reads as limbs of the number. -/
def Num (w : World) (s : Slc) (N : Nat) : Prop := ∃ l, Rd .u64 w s (nn l) ∧ l.length ≤ 2 ^ 44 ∧ ok B64 l ∧ val B64 l = N
theorem Num.ahead {w w' : World} {s : Slc} {N : Nat} (h : Num w s N) (ha : Ahead w w') : Num w' s N := by
  obtain ⟨l, h1, h2⟩ := h; exact ⟨l, h1.ahead ha, h2⟩
theorem digs_len_bl {N m : Nat} (h : bl N ≤ 64 * m) : (digs B64 N).length ≤ m := by
  refine digs_length_le two64 ?_
  rw [b64_pow]
  exact bl_le_iff.1 h
theorem own_num {b : Nat} {w : World} {s : Slc} {N : Nat} (h : OwnNil b w s (digs B64 N)) (hb : bl N ≤ 67108864) : Num w s N :=
  ⟨_, h.rd, Nat.le_trans (digs_len_bl (m := 2 ^ 20) (by omega)) (by omega), ok_digs two64 _, val_digs two64 _⟩
theorem num_of {w : World} {s : Slc} {l : List Nat} (r : Rd .u64 w s (nn l)) (o : ok B64 l) (n : l.length * 8 ≤ 140737488351232) : Num w s (val B64 l) := ⟨l, r, by omega, o, rfl⟩
theorem Num.bl {w : World} {s : Slc} {N : Nat} (h : Num w s N) : bl N ≤ 2 ^ 50 := by
  obtain ⟨l, _, h1, h2, rfl⟩ := h
  have := bl_len h2
  omega

theorem add_num {w : World} {p q : Slc} {x y : Nat} (hp : Num w p x) (hq : Num w q y) : Calls pr nat_Add_id #[p.v, q.v] w (Ret w (bigC (x + y)) (x + y)) := by
  obtain ⟨a, ra, la, oa, rfl⟩ := hp
  obtain ⟨b, rb, lb, ob, rfl⟩ := hq
  exact Calls.mono (Add_spec ra rb la lb oa ob) fun _ _ h => h.ret
def subC (x y : Nat) : Int := if x < y then 10 else bigC (x - y)
theorem sub_num {w : World} {p q : Slc} {x y : Nat} (hp : Num w p x) (hq : Num w q y) : Calls pr nat_Sub_id #[p.v, q.v] w (Ret w (subC x y) (x - y)) := by
  obtain ⟨a, ra, la, oa, rfl⟩ := hp
  obtain ⟨b, rb, lb, ob, rfl⟩ := hq
  refine Calls.mono (Sub_spec ra rb la lb oa ob) ?_
  rintro e w' (⟨h1, h2, rfl⟩ | ⟨h1, h2⟩)
  · rw [subC, if_pos h1]
    exact ⟨h2, _, rfl, OwnNil.nil⟩
  · rw [subC, if_neg (by omega)]
    exact h2.ret
theorem cmp_num {w : World} {p q : Slc} {x y : Nat} (hp : Num w p x) (hq : Num w q y) : Calls pr nat_Compare_id #[p.v, q.v] w fun e w' => Ahead w w' ∧ e = .returned (.int .i64 (cmpI x y)) := by
  obtain ⟨a, ra, la, oa, rfl⟩ := hp
  obtain ⟨b, rb, lb, ob, rfl⟩ := hq
  exact Compare_spec ra rb (by omega) (by omega) oa ob
theorem len_num {w : World} {p : Slc} {x : Nat} (hp : Num w p x) : Calls pr nat_Length_id #[p.v] w fun e w' => w' = w ∧ e = .returned (.int .i64 (bl x)) := by
  obtain ⟨a, ra, la, oa, rfl⟩ := hp
  exact Length_spec ra (by omega) oa
theorem left_num {w : World} {p : Slc} {x : Nat} (hp : Num w p x) {n : Int} (h0 : -9223372036854775808 ≤ n) (h1 : n ≤ 9223372036854775807) : Calls pr nat_Left_id #[p.v, .int .i64 n] w (Ret w (leftC x n) (x * 2 ^ n.toNat)) := by
  obtain ⟨a, ra, la, oa, rfl⟩ := hp
  exact Left_spec ra la oa h0 h1
theorem right_num {w : World} {p : Slc} {x : Nat} (hp : Num w p x) {n : Int} : Calls pr nat_Right_id #[p.v, .int .i64 n] w (Ret w (rightC x n) (x / 2 ^ n.toNat)) := by
  obtain ⟨a, ra, la, oa, rfl⟩ := hp
  exact Right_spec ra la oa

end Nat
end Go.Proofs.YtahbekmnphkiiaaDoor
namespace Go.Proofs.YtahbekmnphkiiaaDoor
open Go Go.RowKit Eng
set_option linter.unusedVariables false

set_option maxRecDepth 100000 in
/-- surd/mul.Mul: function 66. -/
theorem mul_Mul_vc (a0_a : Slc) (a1_b : Slc) (w : World) (R : Ending → World → Prop)
    
    (h : Calls Tryd.prog 92 #[a0_a.v, a1_b.v, Value.func (Fn.func 93) #[] #[]] w fun e1 w1 =>
    ∃ s1 : Slc, ∃ x1 : Int, e1 = .returned (Value.tuple #[s1.v, Value.int .i64 x1]) ∧
    (R (.returned (Value.tuple #[s1.v, Value.int .i64 x1])) w1)) :
    Calls Tryd.prog 66 #[a0_a.v, a1_b.v] w R := by
  refine calls_of_vc (fun _ => none) (by kernel_rfl) Tryd.func66 rfl ?_ ?_
  · refine kcast h ?_; kernel_rfl
  · exact (obl_seq rfl (obl_reg (obl_seq rfl (obl_reg (obl_ret trivial)))))

set_option maxRecDepth 100000 in
/-- surd/mul.product: function 92. -/
theorem mul_product__mul_Mul_1_vc (a0_a : Slc) (a1_b : Slc) (w : World) (R : Ending → World → Prop)
    
    (h : Calls Tryd.prog 86 #[a0_a.v] w fun e1 w1 =>
    ∃ s1 : Slc, e1 = .returned s1.v ∧
    (Calls Tryd.prog 86 #[a1_b.v] w1 fun e2 w2 =>
     ∃ s2 : Slc, e2 = .returned s2.v ∧
     (Calls Tryd.prog 110 #[s1.v, s2.v] w2 fun e3 w3 =>
      ∃ b1 : Bool, e3 = .returned (Value.bool b1) ∧
      (br b1
       (R (.returned (Value.tuple #[(⟨none, 0, 0⟩ : Slc).v, Value.int .i64 3])) w3)
       (Calls Tryd.prog 93 #[s1.v, s2.v] w3 fun e4 w4 =>
        ∃ s3 : Slc, e4 = .returned s3.v ∧
        (Calls Tryd.prog 111 #[s3.v] w4 fun e5 w5 =>
         ∃ s4 : Slc, ∃ x1 : Int, e5 = .returned (Value.tuple #[s4.v, Value.int .i64 x1]) ∧
         (R (.returned (Value.tuple #[s4.v, Value.int .i64 x1])) w5))))))) :
    Calls Tryd.prog 92 #[a0_a.v, a1_b.v, Value.func (Fn.func 93) #[] #[]] w R := by
  refine calls_of_vc (fun _ => none) (by kernel_rfl) Tryd.func92 rfl ?_ ?_
  · refine kcast h ?_; kernel_rfl
  · exact (obl_seq rfl (obl_reg (obl_seq rfl (obl_reg (obl_seq rfl (obl_seq rfl (obl_reg (obl_cond (obl_seq rfl (obl_reg (obl_ret (obl_skip (obl_seq rfl (obl_reg (obl_ret trivial)))))))))))))))

set_option maxRecDepth 100000 in
/-- surd/mul.Mul$1: function 93. -/
theorem mul_Mul_1_vc (a0_a : Slc) (a1_b : Slc) (w : World) (R : Ending → World → Prop)
    
    (h : Calls Tryd.prog 94 #[a0_a.v, a1_b.v, Value.int .i64 40] w fun e1 w1 =>
    ∃ s1 : Slc, e1 = .returned s1.v ∧
    (R (.returned s1.v) w1)) :
    Calls Tryd.prog 93 #[a0_a.v, a1_b.v] w R := by
  refine calls_of_vc (fun _ => none) (by kernel_rfl) Tryd.func93 rfl ?_ ?_
  · refine kcast h ?_; kernel_rfl
  · exact (obl_seq rfl (obl_reg (obl_seq rfl (obl_reg (obl_ret trivial)))))

set_option maxRecDepth 100000 in
/-- surd/mul.halved: function 94. -/
theorem mul_halved_vc (a0 : Slc) (a1 : Slc) (a2 : Int) (w : World) (R : Ending → World → Prop)
    
    (h : br (decide ((a0.n : Int) < (a1.n : Int)))
    (br (decide ((a0.n : Int) < a2))
     (Calls Tryd.prog 112 #[a1.v, a0.v] w fun e1 w1 =>
      ∃ s1 : Slc, e1 = .returned s1.v ∧
      (R (.returned s1.v) w1))
     (br (decide ((a0.n : Int) ≤ (IntKind.i64.wrap (Int.tdiv (IntKind.i64.wrap ((a1.n : Int) + 1)) 2))))
      (semS Tryd.prog (Instr.makeSlice 35 (Value.int .i64 (IntKind.i64.wrap ((IntKind.i64.wrap ((a1.n : Int) + (a0.n : Int))) + 1))) (Value.int .i64 (IntKind.i64.wrap ((IntKind.i64.wrap ((a1.n : Int) + (a0.n : Int))) + 1)))) w fun s2 w2 =>
       Calls Tryd.prog 114 #[a1.v, Value.int .i64 0, Value.int .i64 (IntKind.i64.wrap (Int.tdiv (IntKind.i64.wrap ((a1.n : Int) + 1)) 2))] w2 fun e2 w3 =>
       ∃ s3 : Slc, e2 = .returned s3.v ∧
       (Calls Tryd.prog 94 #[s3.v, a0.v, Value.int .i64 a2] w3 fun e3 w4 =>
        ∃ s4 : Slc, e3 = .returned s4.v ∧
        (Calls Tryd.prog 113 #[s2.v, s4.v, Value.int .i64 0] w4 fun e4 w5 =>
         e4 = .returned (Value.tuple #[]) ∧
         (Calls Tryd.prog 114 #[a1.v, Value.int .i64 (IntKind.i64.wrap (Int.tdiv (IntKind.i64.wrap ((a1.n : Int) + 1)) 2)), Value.int .i64 (a1.n : Int)] w5 fun e5 w6 =>
          ∃ s5 : Slc, e5 = .returned s5.v ∧
          (Calls Tryd.prog 94 #[s5.v, a0.v, Value.int .i64 a2] w6 fun e6 w7 =>
           ∃ s6 : Slc, e6 = .returned s6.v ∧
           (Calls Tryd.prog 113 #[s2.v, s6.v, Value.int .i64 (IntKind.i64.wrap (Int.tdiv (IntKind.i64.wrap ((a1.n : Int) + 1)) 2))] w7 fun e7 w8 =>
            e7 = .returned (Value.tuple #[]) ∧
            (R (.returned s2.v) w8)))))))
      (Calls Tryd.prog 114 #[a1.v, Value.int .i64 0, Value.int .i64 (IntKind.i64.wrap (Int.tdiv (IntKind.i64.wrap ((a1.n : Int) + 1)) 2))] w fun e8 w9 =>
       ∃ s7 : Slc, e8 = .returned s7.v ∧
       (Calls Tryd.prog 114 #[a1.v, Value.int .i64 (IntKind.i64.wrap (Int.tdiv (IntKind.i64.wrap ((a1.n : Int) + 1)) 2)), Value.int .i64 (a1.n : Int)] w9 fun e9 w10 =>
        ∃ s8 : Slc, e9 = .returned s8.v ∧
        (Calls Tryd.prog 114 #[a0.v, Value.int .i64 0, Value.int .i64 (IntKind.i64.wrap (Int.tdiv (IntKind.i64.wrap ((a1.n : Int) + 1)) 2))] w10 fun e10 w11 =>
         ∃ s9 : Slc, e10 = .returned s9.v ∧
         (Calls Tryd.prog 114 #[a0.v, Value.int .i64 (IntKind.i64.wrap (Int.tdiv (IntKind.i64.wrap ((a1.n : Int) + 1)) 2)), Value.int .i64 (a0.n : Int)] w11 fun e11 w12 =>
          ∃ s10 : Slc, e11 = .returned s10.v ∧
          (Calls Tryd.prog 94 #[s7.v, s9.v, Value.int .i64 a2] w12 fun e12 w13 =>
           ∃ s11 : Slc, e12 = .returned s11.v ∧
           (Calls Tryd.prog 94 #[s8.v, s10.v, Value.int .i64 a2] w13 fun e13 w14 =>
            ∃ s12 : Slc, e13 = .returned s12.v ∧
            (Calls Tryd.prog 116 #[s7.v, s8.v] w14 fun e14 w15 =>
             ∃ s13 : Slc, e14 = .returned s13.v ∧
             (Calls Tryd.prog 86 #[s13.v] w15 fun e15 w16 =>
              ∃ s14 : Slc, e15 = .returned s14.v ∧
              (Calls Tryd.prog 116 #[s9.v, s10.v] w16 fun e16 w17 =>
               ∃ s15 : Slc, e16 = .returned s15.v ∧
               (Calls Tryd.prog 86 #[s15.v] w17 fun e17 w18 =>
                ∃ s16 : Slc, e17 = .returned s16.v ∧
                (Calls Tryd.prog 94 #[s14.v, s16.v, Value.int .i64 a2] w18 fun e18 w19 =>
                 ∃ s17 : Slc, e18 = .returned s17.v ∧
                 (Calls Tryd.prog 115 #[s17.v, s11.v] w19 fun e19 w20 =>
                  ∃ s18 : Slc, e19 = .returned s18.v ∧
                  (Calls Tryd.prog 115 #[s18.v, s12.v] w20 fun e20 w21 =>
                   ∃ s19 : Slc, e20 = .returned s19.v ∧
                   (semS Tryd.prog (Instr.makeSlice 35 (Value.int .i64 (IntKind.i64.wrap ((IntKind.i64.wrap ((a1.n : Int) + (a0.n : Int))) + 1))) (Value.int .i64 (IntKind.i64.wrap ((IntKind.i64.wrap ((a1.n : Int) + (a0.n : Int))) + 1)))) w21 fun s20 w22 =>
                    Calls Tryd.prog 113 #[s20.v, s11.v, Value.int .i64 0] w22 fun e21 w23 =>
                    e21 = .returned (Value.tuple #[]) ∧
                    (Calls Tryd.prog 113 #[s20.v, s19.v, Value.int .i64 (IntKind.i64.wrap (Int.tdiv (IntKind.i64.wrap ((a1.n : Int) + 1)) 2))] w23 fun e22 w24 =>
                     e22 = .returned (Value.tuple #[]) ∧
                     (Calls Tryd.prog 113 #[s20.v, s12.v, Value.int .i64 (IntKind.i64.wrap (2 * (IntKind.i64.wrap (Int.tdiv (IntKind.i64.wrap ((a1.n : Int) + 1)) 2))))] w24 fun e23 w25 =>
                      e23 = .returned (Value.tuple #[]) ∧
                      (R (.returned s20.v) w25)))))))))))))))))))
    (br (decide ((a1.n : Int) < a2))
     (Calls Tryd.prog 112 #[a0.v, a1.v] w fun e24 w26 =>
      ∃ s21 : Slc, e24 = .returned s21.v ∧
      (R (.returned s21.v) w26))
     (br (decide ((a1.n : Int) ≤ (IntKind.i64.wrap (Int.tdiv (IntKind.i64.wrap ((a0.n : Int) + 1)) 2))))
      (semS Tryd.prog (Instr.makeSlice 35 (Value.int .i64 (IntKind.i64.wrap ((IntKind.i64.wrap ((a0.n : Int) + (a1.n : Int))) + 1))) (Value.int .i64 (IntKind.i64.wrap ((IntKind.i64.wrap ((a0.n : Int) + (a1.n : Int))) + 1)))) w fun s22 w27 =>
       Calls Tryd.prog 114 #[a0.v, Value.int .i64 0, Value.int .i64 (IntKind.i64.wrap (Int.tdiv (IntKind.i64.wrap ((a0.n : Int) + 1)) 2))] w27 fun e25 w28 =>
       ∃ s23 : Slc, e25 = .returned s23.v ∧
       (Calls Tryd.prog 94 #[s23.v, a1.v, Value.int .i64 a2] w28 fun e26 w29 =>
        ∃ s24 : Slc, e26 = .returned s24.v ∧
        (Calls Tryd.prog 113 #[s22.v, s24.v, Value.int .i64 0] w29 fun e27 w30 =>
         e27 = .returned (Value.tuple #[]) ∧
         (Calls Tryd.prog 114 #[a0.v, Value.int .i64 (IntKind.i64.wrap (Int.tdiv (IntKind.i64.wrap ((a0.n : Int) + 1)) 2)), Value.int .i64 (a0.n : Int)] w30 fun e28 w31 =>
          ∃ s25 : Slc, e28 = .returned s25.v ∧
          (Calls Tryd.prog 94 #[s25.v, a1.v, Value.int .i64 a2] w31 fun e29 w32 =>
           ∃ s26 : Slc, e29 = .returned s26.v ∧
           (Calls Tryd.prog 113 #[s22.v, s26.v, Value.int .i64 (IntKind.i64.wrap (Int.tdiv (IntKind.i64.wrap ((a0.n : Int) + 1)) 2))] w32 fun e30 w33 =>
            e30 = .returned (Value.tuple #[]) ∧
            (R (.returned s22.v) w33)))))))
      (Calls Tryd.prog 114 #[a0.v, Value.int .i64 0, Value.int .i64 (IntKind.i64.wrap (Int.tdiv (IntKind.i64.wrap ((a0.n : Int) + 1)) 2))] w fun e31 w34 =>
       ∃ s27 : Slc, e31 = .returned s27.v ∧
       (Calls Tryd.prog 114 #[a0.v, Value.int .i64 (IntKind.i64.wrap (Int.tdiv (IntKind.i64.wrap ((a0.n : Int) + 1)) 2)), Value.int .i64 (a0.n : Int)] w34 fun e32 w35 =>
        ∃ s28 : Slc, e32 = .returned s28.v ∧
        (Calls Tryd.prog 114 #[a1.v, Value.int .i64 0, Value.int .i64 (IntKind.i64.wrap (Int.tdiv (IntKind.i64.wrap ((a0.n : Int) + 1)) 2))] w35 fun e33 w36 =>
         ∃ s29 : Slc, e33 = .returned s29.v ∧
         (Calls Tryd.prog 114 #[a1.v, Value.int .i64 (IntKind.i64.wrap (Int.tdiv (IntKind.i64.wrap ((a0.n : Int) + 1)) 2)), Value.int .i64 (a1.n : Int)] w36 fun e34 w37 =>
          ∃ s30 : Slc, e34 = .returned s30.v ∧
          (Calls Tryd.prog 94 #[s27.v, s29.v, Value.int .i64 a2] w37 fun e35 w38 =>
           ∃ s31 : Slc, e35 = .returned s31.v ∧
           (Calls Tryd.prog 94 #[s28.v, s30.v, Value.int .i64 a2] w38 fun e36 w39 =>
            ∃ s32 : Slc, e36 = .returned s32.v ∧
            (Calls Tryd.prog 116 #[s27.v, s28.v] w39 fun e37 w40 =>
             ∃ s33 : Slc, e37 = .returned s33.v ∧
             (Calls Tryd.prog 86 #[s33.v] w40 fun e38 w41 =>
              ∃ s34 : Slc, e38 = .returned s34.v ∧
              (Calls Tryd.prog 116 #[s29.v, s30.v] w41 fun e39 w42 =>
               ∃ s35 : Slc, e39 = .returned s35.v ∧
               (Calls Tryd.prog 86 #[s35.v] w42 fun e40 w43 =>
                ∃ s36 : Slc, e40 = .returned s36.v ∧
                (Calls Tryd.prog 94 #[s34.v, s36.v, Value.int .i64 a2] w43 fun e41 w44 =>
                 ∃ s37 : Slc, e41 = .returned s37.v ∧
                 (Calls Tryd.prog 115 #[s37.v, s31.v] w44 fun e42 w45 =>
                  ∃ s38 : Slc, e42 = .returned s38.v ∧
                  (Calls Tryd.prog 115 #[s38.v, s32.v] w45 fun e43 w46 =>
                   ∃ s39 : Slc, e43 = .returned s39.v ∧
                   (semS Tryd.prog (Instr.makeSlice 35 (Value.int .i64 (IntKind.i64.wrap ((IntKind.i64.wrap ((a0.n : Int) + (a1.n : Int))) + 1))) (Value.int .i64 (IntKind.i64.wrap ((IntKind.i64.wrap ((a0.n : Int) + (a1.n : Int))) + 1)))) w46 fun s40 w47 =>
                    Calls Tryd.prog 113 #[s40.v, s31.v, Value.int .i64 0] w47 fun e44 w48 =>
                    e44 = .returned (Value.tuple #[]) ∧
                    (Calls Tryd.prog 113 #[s40.v, s39.v, Value.int .i64 (IntKind.i64.wrap (Int.tdiv (IntKind.i64.wrap ((a0.n : Int) + 1)) 2))] w48 fun e45 w49 =>
                     e45 = .returned (Value.tuple #[]) ∧
                     (Calls Tryd.prog 113 #[s40.v, s32.v, Value.int .i64 (IntKind.i64.wrap (2 * (IntKind.i64.wrap (Int.tdiv (IntKind.i64.wrap ((a0.n : Int) + 1)) 2))))] w49 fun e46 w50 =>
                      e46 = .returned (Value.tuple #[]) ∧
                      (R (.returned s40.v) w50)))))))))))))))))))) :
    Calls Tryd.prog 94 #[a0.v, a1.v, Value.int .i64 a2] w R := by
  refine calls_of_vc (fun _ => none) (by kernel_rfl) Tryd.func94 rfl ?_ ?_
  · refine kcast h ?_; kernel_rfl
  · exact (obl_seq rfl (obl_reg (obl_seq rfl (obl_seq rfl (obl_reg (obl_cond (obl_reg (obl_skip (obl_seq rfl (obl_seq rfl (obl_reg (obl_cond (obl_seq rfl (obl_reg (obl_ret (obl_skip (obl_seq rfl (obl_reg (obl_seq rfl (obl_seq rfl (obl_reg (obl_cond (obl_seq rfl (obl_reg (obl_seq rfl (obl_reg (obl_seq rfl (obl_reg (obl_seq rfl (obl_reg (obl_ret (obl_skip (obl_seq rfl (obl_reg (obl_seq rfl (obl_reg (obl_seq rfl (obl_reg (obl_seq rfl (obl_reg (obl_seq rfl (obl_reg (obl_seq rfl (obl_reg (obl_seq rfl (obl_reg (obl_seq rfl (obl_reg (obl_ret trivial)))))))))))))))))))))))))))))))))))))))))))))))))

set_option maxRecDepth 100000 in
/-- surd/mul.great: function 110. -/
theorem mul_great_vc (a0_a : Slc) (a1_b : Slc) (w : World) (R : Ending → World → Prop)
    
    (h : Calls Tryd.prog 85 #[a0_a.v] w fun e1 w1 =>
    ∃ x1 : Int, e1 = .returned (Value.int .i64 x1) ∧
    (Calls Tryd.prog 85 #[a1_b.v] w1 fun e2 w2 =>
     ∃ x2 : Int, e2 = .returned (Value.int .i64 x2) ∧
     (br (decide (x1 > 0))
      (br (decide (x2 > 0))
       (R (.returned (Value.bool (decide ((IntKind.i64.wrap ((IntKind.i64.wrap (x1 + x2)) - 1)) > 67108864)))) w2)
       (R (.returned (Value.bool false)) w2))
      (R (.returned (Value.bool false)) w2)))) :
    Calls Tryd.prog 110 #[a0_a.v, a1_b.v] w R := by
  refine calls_of_vc (fun _ => none) (by kernel_rfl) Tryd.func110 rfl ?_ ?_
  · refine kcast h ?_; kernel_rfl
  · exact (obl_seq rfl (obl_reg (obl_seq rfl (obl_reg (obl_seq rfl (obl_reg (obl_ret trivial)))))))

set_option maxRecDepth 100000 in
/-- surd/mul.fits: function 111. -/
theorem mul_fits_vc (a0_a : Slc) (w : World) (R : Ending → World → Prop)
    
    (h : Calls Tryd.prog 86 #[a0_a.v] w fun e1 w1 =>
    ∃ s1 : Slc, e1 = .returned s1.v ∧
    (Calls Tryd.prog 85 #[s1.v] w1 fun e2 w2 =>
     ∃ x1 : Int, e2 = .returned (Value.int .i64 x1) ∧
     (br (decide (x1 > 67108864))
      (R (.returned (Value.tuple #[(⟨none, 0, 0⟩ : Slc).v, Value.int .i64 3])) w2)
      (R (.returned (Value.tuple #[s1.v, Value.int .i64 0])) w2)))) :
    Calls Tryd.prog 111 #[a0_a.v] w R := by
  refine calls_of_vc (fun _ => none) (by kernel_rfl) Tryd.func111 rfl ?_ ?_
  · refine kcast h ?_; kernel_rfl
  · exact (obl_seq rfl (obl_reg (obl_seq rfl (obl_reg (obl_seq rfl (obl_seq rfl (obl_reg (obl_cond (obl_seq rfl (obl_reg (obl_ret (obl_skip (obl_seq rfl (obl_reg (obl_ret trivial)))))))))))))))

def mul_school_cut (J0 : Slc → Slc → Slc → Int → Int → World → Prop) (m0 : Slc → Slc → Slc → Int → Int → World → Nat) (J2 : Slc → Slc → Slc → Int → Int → World → Slc → Slc → Int → Int → Int → Slc → Int → Int → Slc → Int → Int → World → Prop) (m2 : Slc → Slc → Slc → Int → Int → World → Slc → Slc → Int → Int → Int → Slc → Int → Int → Slc → Int → Int → World → Nat) : Nat → Option ((Act → World → Prop) × (Act → World → Nat))
  | 0 => some (fun a_ w_ => atSz a_ 78 (atS a_ 1 fun t1 => atS a_ 5 fun t5 => atS a_ 20 fun t20 => atI .i64 a_ 21 fun t21 => atI .i64 a_ 22 fun t22 => J0 t1 t5 t20 t21 t22 w_), fun a_ w_ => mS a_ 1 fun t1 => mS a_ 5 fun t5 => mS a_ 20 fun t20 => mI a_ 21 fun t21 => mI a_ 22 fun t22 => m0 t1 t5 t20 t21 t22 w_)
  | _ => none

def mul_school_cut_0 (J0 : Slc → Slc → Slc → Int → Int → World → Prop) (m0 : Slc → Slc → Slc → Int → Int → World → Nat) (J2 : Slc → Slc → Slc → Int → Int → World → Slc → Slc → Int → Int → Int → Slc → Int → Int → Slc → Int → Int → World → Prop) (m2 : Slc → Slc → Slc → Int → Int → World → Slc → Slc → Int → Int → Int → Slc → Int → Int → Slc → Int → Int → World → Nat) (o_t1 : Slc) (o_t5 : Slc) (o_t20 : Slc) (o_t21 : Int) (o_t22 : Int) (o_w_ : World) : Nat → Option ((Act → World → Prop) × (Act → World → Nat))
  | 2 => some (fun a_ w_ => atSz a_ 78 (atS a_ 1 fun t1 => atS a_ 5 fun t5 => atI .i64 a_ 6 fun t6 => atI .u64 a_ 7 fun t7 => atI .u64 a_ 8 fun t8 => atS a_ 20 fun t20 => atI .i64 a_ 21 fun t21 => atI .i64 a_ 22 fun t22 => atS a_ 27 fun t27 => atI .i64 a_ 28 fun t28 => atI .i64 a_ 29 fun t29 => J2 o_t1 o_t5 o_t20 o_t21 o_t22 o_w_ t1 t5 t6 t7 t8 t20 t21 t22 t27 t28 t29 w_), fun a_ w_ => mS a_ 1 fun t1 => mS a_ 5 fun t5 => mI a_ 6 fun t6 => mI a_ 7 fun t7 => mI a_ 8 fun t8 => mS a_ 20 fun t20 => mI a_ 21 fun t21 => mI a_ 22 fun t22 => mS a_ 27 fun t27 => mI a_ 28 fun t28 => mI a_ 29 fun t29 => m2 o_t1 o_t5 o_t20 o_t21 o_t22 o_w_ t1 t5 t6 t7 t8 t20 t21 t22 t27 t28 t29 w_)
  | _ => none

set_option maxRecDepth 100000 in
/-- surd/mul.school: function 112. -/
theorem mul_school_vc (a0 : Slc) (a1 : Slc) (w : World) (R : Ending → World → Prop)
    (J0 : Slc → Slc → Slc → Int → Int → World → Prop) (m0 : Slc → Slc → Slc → Int → Int → World → Nat) (J2 : Slc → Slc → Slc → Int → Int → World → Slc → Slc → Int → Int → Int → Slc → Int → Int → Slc → Int → Int → World → Prop) (m2 : Slc → Slc → Slc → Int → Int → World → Slc → Slc → Int → Int → Int → Slc → Int → Int → Slc → Int → Int → World → Nat)
    (h : semS Tryd.prog (Instr.makeSlice 35 (Value.int .i64 (IntKind.i64.wrap ((a0.n : Int) + (a1.n : Int)))) (Value.int .i64 (IntKind.i64.wrap ((a0.n : Int) + (a1.n : Int))))) w fun s1 w1 =>
    J0 a1 s1 a0 (a0.n : Int) 0 w1)
    (h0 : ∀ (t1 : Slc) (t5 : Slc) (t20 : Slc) (t21 : Int) (t22 : Int) (w_ : World), J0 t1 t5 t20 t21 t22 w_ → 
    br (decide (t22 < t21))
    (semA Tryd.prog (Instr.indexAt 35 t20.v (Value.int .i64 t22)) w_ fun ad1 w2 =>
     ldI .u64 ad1 w2 fun x1 =>
     J2 t1 t5 t20 t21 t22 w_ t1 t5 t22 x1 0 t20 t21 t22 t1 (t1.n : Int) 0 w2)
    (R (.returned t5.v) w_))
    (h2 : ∀ (t1 : Slc) (t5 : Slc) (t20 : Slc) (t21 : Int) (t22 : Int) (w_ : World), J0 t1 t5 t20 t21 t22 w_ → ∀ (t1' : Slc) (t5' : Slc) (t6' : Int) (t7' : Int) (t8' : Int) (t20' : Slc) (t21' : Int) (t22' : Int) (t27' : Slc) (t28' : Int) (t29' : Int) (w__ : World), J2 t1 t5 t20 t21 t22 w_ t1' t5' t6' t7' t8' t20' t21' t22' t27' t28' t29' w__ → 
    br (decide (t29' < t28'))
    (semA Tryd.prog (Instr.indexAt 35 t27'.v (Value.int .i64 t29')) w__ fun ad2 w3 =>
     ldI .u64 ad2 w3 fun x2 =>
     Calls Tryd.prog 120 #[Value.int .u64 t7', Value.int .u64 x2] w3 fun e1 w4 =>
     ∃ x3 : Int, ∃ x4 : Int, e1 = .returned (Value.tuple #[Value.int .u64 x3, Value.int .u64 x4]) ∧
     (Sem.wp Tryd.prog (callFunc 117 #[Value.int .u64 x4, Value.int .u64 t8', Value.int .u64 0]) (fun n1 w5 =>
       ∃ x5 : Int, ∃ x6 : Int, n1 = .value (Value.tuple #[Value.int .u64 x5, Value.int .u64 x6]) ∧
       (semA Tryd.prog (Instr.indexAt 35 t5'.v (Value.int .i64 (IntKind.i64.wrap (t6' + t29')))) w5 fun ad3 w6 =>
        ldI .u64 ad3 w6 fun x7 =>
        Sem.wp Tryd.prog (callFunc 117 #[Value.int .u64 x7, Value.int .u64 x5, Value.int .u64 0]) (fun n2 w7 =>
         ∃ x8 : Int, ∃ x9 : Int, n2 = .value (Value.tuple #[Value.int .u64 x8, Value.int .u64 x9]) ∧
         (semA Tryd.prog (Instr.indexAt 35 t5'.v (Value.int .i64 (IntKind.i64.wrap (t6' + t29')))) w7 fun ad4 w8 =>
          stC ad4 (Value.int .u64 x8) w8 fun w9 =>
          J2 t1 t5 t20 t21 t22 w_ t1' t5' t6' t7' (IntKind.u64.wrap ((IntKind.u64.wrap (x3 + x6)) + x9)) t20' t21' t22' t27' t28' (IntKind.i64.wrap (t29' + 1)) w9 ∧
          m2 t1 t5 t20 t21 t22 w_ t1' t5' t6' t7' (IntKind.u64.wrap ((IntKind.u64.wrap (x3 + x6)) + x9)) t20' t21' t22' t27' t28' (IntKind.i64.wrap (t29' + 1)) w9 < m2 t1 t5 t20 t21 t22 w_ t1' t5' t6' t7' t8' t20' t21' t22' t27' t28' t29' w__)) (fun _ _ => False) w6)) (fun _ _ => False) w4))
    (semA Tryd.prog (Instr.indexAt 35 t5'.v (Value.int .i64 (IntKind.i64.wrap (t6' + (t1'.n : Int))))) w__ fun ad5 w10 =>
     stC ad5 (Value.int .u64 t8') w10 fun w11 =>
     J0 t1' t5' t20' t21' (IntKind.i64.wrap (t22' + 1)) w11 ∧
     m0 t1' t5' t20' t21' (IntKind.i64.wrap (t22' + 1)) w11 < m0 t1 t5 t20 t21 t22 w_)) :
    Calls Tryd.prog 112 #[a0.v, a1.v] w R := by
  refine calls_of_vc (mul_school_cut J0 m0 J2 m2) (by kernel_rfl) Tryd.func112 rfl ?_ ?_
  · refine kcast h ?_; kernel_rfl
  · exact (obl_seq rfl (obl_reg (obl_seq rfl (obl_reg (obl_seq rfl (obl_seq rfl (obl_reg (obl_loop _ rfl (fun a_ w_ hL_ => (by
    obtain ⟨hz_, hd_, hL_⟩ := atSz_out hL_
    obtain ⟨t1, h1_, hL_⟩ := atS_out hL_
    obtain ⟨t5, h5_, hL_⟩ := atS_out hL_
    obtain ⟨t20, h20_, hL_⟩ := atS_out hL_
    obtain ⟨t21, h21_, hL_⟩ := atI_out hL_
    obtain ⟨t22, h22_, hL_⟩ := atI_out hL_
    obtain ⟨g0, rfl⟩ : ∃ g, a_ = Fr 78 [(1, t1.v), (5, t5.v), (20, t20.v), (21, Value.int .i64 t21), (22, Value.int .i64 t22)] g := ⟨_, fr_of hz_ hd_ [(1, t1.v), (5, t5.v), (20, t20.v), (21, Value.int .i64 t21), (22, Value.int .i64 t22)] (sel_cons h1_ (sel_cons h5_ (sel_cons h20_ (sel_cons h21_ (sel_cons h22_ sel_nil)))))⟩
    clear hz_ hd_ h1_ h5_ h20_ h21_ h22_
    have hJ0_ := hL_
    refine ⟨(mul_school_cut_0 J0 m0 J2 m2 t1 t5 t20 t21 t22 w_), kcast (h0 t1 t5 t20 t21 t22 w_ hJ0_) ?_, ?_⟩
    · kernel_rfl
    · exact (obl_seq rfl (obl_reg (obl_seq rfl (obl_cond (obl_skip (obl_exit (obl_seq rfl (obl_blk rfl (obl_seq rfl (obl_reg (obl_seq rfl (obl_reg (obl_seq rfl (obl_seq rfl (obl_reg (obl_loop _ rfl (fun a_ w__ hL_ => (by
      obtain ⟨hz_, hd_, hL_⟩ := atSz_out hL_
      obtain ⟨t1', h1_, hL_⟩ := atS_out hL_
      obtain ⟨t5', h5_, hL_⟩ := atS_out hL_
      obtain ⟨t6', h6_, hL_⟩ := atI_out hL_
      obtain ⟨t7', h7_, hL_⟩ := atI_out hL_
      obtain ⟨t8', h8_, hL_⟩ := atI_out hL_
      obtain ⟨t20', h20_, hL_⟩ := atS_out hL_
      obtain ⟨t21', h21_, hL_⟩ := atI_out hL_
      obtain ⟨t22', h22_, hL_⟩ := atI_out hL_
      obtain ⟨t27', h27_, hL_⟩ := atS_out hL_
      obtain ⟨t28', h28_, hL_⟩ := atI_out hL_
      obtain ⟨t29', h29_, hL_⟩ := atI_out hL_
      obtain ⟨g2, rfl⟩ : ∃ g, a_ = Fr 78 [(1, t1'.v), (5, t5'.v), (6, Value.int .i64 t6'), (7, Value.int .u64 t7'), (8, Value.int .u64 t8'), (20, t20'.v), (21, Value.int .i64 t21'), (22, Value.int .i64 t22'), (27, t27'.v), (28, Value.int .i64 t28'), (29, Value.int .i64 t29')] g := ⟨_, fr_of hz_ hd_ [(1, t1'.v), (5, t5'.v), (6, Value.int .i64 t6'), (7, Value.int .u64 t7'), (8, Value.int .u64 t8'), (20, t20'.v), (21, Value.int .i64 t21'), (22, Value.int .i64 t22'), (27, t27'.v), (28, Value.int .i64 t28'), (29, Value.int .i64 t29')] (sel_cons h1_ (sel_cons h5_ (sel_cons h6_ (sel_cons h7_ (sel_cons h8_ (sel_cons h20_ (sel_cons h21_ (sel_cons h22_ (sel_cons h27_ (sel_cons h28_ (sel_cons h29_ sel_nil)))))))))))⟩
      clear hz_ hd_ h1_ h5_ h6_ h7_ h8_ h20_ h21_ h22_ h27_ h28_ h29_
      have hJ2_ := hL_
      refine ⟨(fun _ => none), kcast (h2 t1 t5 t20 t21 t22 w_ hJ0_ t1' t5' t6' t7' t8' t20' t21' t22' t27' t28' t29' w__ hJ2_) ?_, ?_⟩
      · kernel_rfl
      · exact (obl_seq rfl (obl_reg (obl_seq rfl (obl_cond (obl_skip (obl_exit (obl_seq rfl (obl_blk rfl (obl_seq rfl (obl_reg (obl_seq rfl (obl_reg (obl_seq rfl (obl_reg (obl_seq rfl (obl_reg (obl_seq rfl (obl_reg (obl_seq rfl (obl_reg (obl_reg (obl_reg trivial)))))))))))))))))))))))) (obl_reg (obl_reg trivial)))))))))))))))))))) (obl_seq rfl (obl_reg (obl_ret trivial)))))))))))

def mul_addAt_cut (J0 : Slc → Slc → Int → Int → Int → World → Prop) (m0 : Slc → Slc → Int → Int → Int → World → Nat) : Nat → Option ((Act → World → Prop) × (Act → World → Nat))
  | 0 => some (fun a_ w_ => atSz a_ 53 (atS a_ 0 fun t0_a => atS a_ 1 fun t1_b => atI .i64 a_ 2 fun t2_at => atI .u64 a_ 6 fun t6_carry => atI .i64 a_ 7 fun t7_i => J0 t0_a t1_b t2_at t6_carry t7_i w_), fun a_ w_ => mS a_ 0 fun t0_a => mS a_ 1 fun t1_b => mI a_ 2 fun t2_at => mI a_ 6 fun t6_carry => mI a_ 7 fun t7_i => m0 t0_a t1_b t2_at t6_carry t7_i w_)
  | _ => none

set_option maxRecDepth 100000 in
/-- surd/mul.addAt: function 113. -/
theorem mul_addAt_vc (a0_a : Slc) (a1_b : Slc) (a2_at : Int) (w : World) (R : Ending → World → Prop)
    (J0 : Slc → Slc → Int → Int → Int → World → Prop) (m0 : Slc → Slc → Int → Int → Int → World → Nat)
    (h : J0 a0_a a1_b a2_at 0 a2_at w)
    (h0 : ∀ (t0_a : Slc) (t1_b : Slc) (t2_at : Int) (t6_carry : Int) (t7_i : Int) (w_ : World), J0 t0_a t1_b t2_at t6_carry t7_i w_ → 
    br (decide (t7_i < (t0_a.n : Int)))
    (br (decide ((IntKind.i64.wrap (t7_i - t2_at)) < (t1_b.n : Int)))
     (br (decide ((IntKind.i64.wrap (t7_i - t2_at)) < (t1_b.n : Int)))
      (semA Tryd.prog (Instr.indexAt 35 t1_b.v (Value.int .i64 (IntKind.i64.wrap (t7_i - t2_at)))) w_ fun ad1 w1 =>
       ldI .u64 ad1 w1 fun x1 =>
       semA Tryd.prog (Instr.indexAt 35 t0_a.v (Value.int .i64 t7_i)) w1 fun ad2 w2 =>
       ldI .u64 ad2 w2 fun x2 =>
       Sem.wp Tryd.prog (callFunc 117 #[Value.int .u64 x2, Value.int .u64 x1, Value.int .u64 t6_carry]) (fun n1 w3 =>
        ∃ x3 : Int, ∃ x4 : Int, n1 = .value (Value.tuple #[Value.int .u64 x3, Value.int .u64 x4]) ∧
        (semA Tryd.prog (Instr.indexAt 35 t0_a.v (Value.int .i64 t7_i)) w3 fun ad3 w4 =>
         stC ad3 (Value.int .u64 x3) w4 fun w5 =>
         J0 t0_a t1_b t2_at x4 (IntKind.i64.wrap (t7_i + 1)) w5 ∧
         m0 t0_a t1_b t2_at x4 (IntKind.i64.wrap (t7_i + 1)) w5 < m0 t0_a t1_b t2_at t6_carry t7_i w_)) (fun _ _ => False) w2)
      (semA Tryd.prog (Instr.indexAt 35 t0_a.v (Value.int .i64 t7_i)) w_ fun ad4 w6 =>
       ldI .u64 ad4 w6 fun x5 =>
       Sem.wp Tryd.prog (callFunc 117 #[Value.int .u64 x5, Value.int .u64 0, Value.int .u64 t6_carry]) (fun n2 w7 =>
        ∃ x6 : Int, ∃ x7 : Int, n2 = .value (Value.tuple #[Value.int .u64 x6, Value.int .u64 x7]) ∧
        (semA Tryd.prog (Instr.indexAt 35 t0_a.v (Value.int .i64 t7_i)) w7 fun ad5 w8 =>
         stC ad5 (Value.int .u64 x6) w8 fun w9 =>
         J0 t0_a t1_b t2_at x7 (IntKind.i64.wrap (t7_i + 1)) w9 ∧
         m0 t0_a t1_b t2_at x7 (IntKind.i64.wrap (t7_i + 1)) w9 < m0 t0_a t1_b t2_at t6_carry t7_i w_)) (fun _ _ => False) w6))
     (br (decide (t6_carry > 0))
      (br (decide ((IntKind.i64.wrap (t7_i - t2_at)) < (t1_b.n : Int)))
       (semA Tryd.prog (Instr.indexAt 35 t1_b.v (Value.int .i64 (IntKind.i64.wrap (t7_i - t2_at)))) w_ fun ad6 w10 =>
        ldI .u64 ad6 w10 fun x8 =>
        semA Tryd.prog (Instr.indexAt 35 t0_a.v (Value.int .i64 t7_i)) w10 fun ad7 w11 =>
        ldI .u64 ad7 w11 fun x9 =>
        Sem.wp Tryd.prog (callFunc 117 #[Value.int .u64 x9, Value.int .u64 x8, Value.int .u64 t6_carry]) (fun n3 w12 =>
         ∃ x10 : Int, ∃ x11 : Int, n3 = .value (Value.tuple #[Value.int .u64 x10, Value.int .u64 x11]) ∧
         (semA Tryd.prog (Instr.indexAt 35 t0_a.v (Value.int .i64 t7_i)) w12 fun ad8 w13 =>
          stC ad8 (Value.int .u64 x10) w13 fun w14 =>
          J0 t0_a t1_b t2_at x11 (IntKind.i64.wrap (t7_i + 1)) w14 ∧
          m0 t0_a t1_b t2_at x11 (IntKind.i64.wrap (t7_i + 1)) w14 < m0 t0_a t1_b t2_at t6_carry t7_i w_)) (fun _ _ => False) w11)
       (semA Tryd.prog (Instr.indexAt 35 t0_a.v (Value.int .i64 t7_i)) w_ fun ad9 w15 =>
        ldI .u64 ad9 w15 fun x12 =>
        Sem.wp Tryd.prog (callFunc 117 #[Value.int .u64 x12, Value.int .u64 0, Value.int .u64 t6_carry]) (fun n4 w16 =>
         ∃ x13 : Int, ∃ x14 : Int, n4 = .value (Value.tuple #[Value.int .u64 x13, Value.int .u64 x14]) ∧
         (semA Tryd.prog (Instr.indexAt 35 t0_a.v (Value.int .i64 t7_i)) w16 fun ad10 w17 =>
          stC ad10 (Value.int .u64 x13) w17 fun w18 =>
          J0 t0_a t1_b t2_at x14 (IntKind.i64.wrap (t7_i + 1)) w18 ∧
          m0 t0_a t1_b t2_at x14 (IntKind.i64.wrap (t7_i + 1)) w18 < m0 t0_a t1_b t2_at t6_carry t7_i w_)) (fun _ _ => False) w15))
      (R (.returned (Value.tuple #[])) w_)))
    (R (.returned (Value.tuple #[])) w_)) :
    Calls Tryd.prog 113 #[a0_a.v, a1_b.v, Value.int .i64 a2_at] w R := by
  refine calls_of_vc (mul_addAt_cut J0 m0) (by kernel_rfl) Tryd.func113 rfl ?_ ?_
  · refine kcast h ?_; kernel_rfl
  · exact (obl_seq rfl (obl_reg (obl_seq rfl (obl_reg (obl_loop _ rfl (fun a_ w_ hL_ => (by
    obtain ⟨hz_, hd_, hL_⟩ := atSz_out hL_
    obtain ⟨t0_a, h0_, hL_⟩ := atS_out hL_
    obtain ⟨t1_b, h1_, hL_⟩ := atS_out hL_
    obtain ⟨t2_at, h2_, hL_⟩ := atI_out hL_
    obtain ⟨t6_carry, h6_, hL_⟩ := atI_out hL_
    obtain ⟨t7_i, h7_, hL_⟩ := atI_out hL_
    obtain ⟨g0, rfl⟩ : ∃ g, a_ = Fr 53 [(0, t0_a.v), (1, t1_b.v), (2, Value.int .i64 t2_at), (6, Value.int .u64 t6_carry), (7, Value.int .i64 t7_i)] g := ⟨_, fr_of hz_ hd_ [(0, t0_a.v), (1, t1_b.v), (2, Value.int .i64 t2_at), (6, Value.int .u64 t6_carry), (7, Value.int .i64 t7_i)] (sel_cons h0_ (sel_cons h1_ (sel_cons h2_ (sel_cons h6_ (sel_cons h7_ sel_nil)))))⟩
    clear hz_ hd_ h0_ h1_ h2_ h6_ h7_
    have hJ0_ := hL_
    refine ⟨(fun _ => none), kcast (h0 t0_a t1_b t2_at t6_carry t7_i w_ hJ0_) ?_, ?_⟩
    · kernel_rfl
    · exact (obl_seq rfl (obl_seq rfl (obl_reg (obl_cond (obl_skip (obl_exit (obl_seq rfl (obl_blk rfl (obl_seq rfl (obl_reg (obl_seq rfl (obl_seq rfl (obl_reg (obl_cond (obl_reg (obl_skip (obl_reg (obl_reg trivial)))))))))))))))))))) trivial)))))

def mul_part_cut (J0 : Slc → Int → Int → World → Prop) (m0 : Slc → Int → Int → World → Nat) : Nat → Option ((Act → World → Prop) × (Act → World → Nat))
  | 0 => some (fun a_ w_ => atSz a_ 32 (atS a_ 0 fun t0_a => atI .i64 a_ 1 fun t1_from => atI .i64 a_ 2 fun t2_to => J0 t0_a t1_from t2_to w_), fun a_ w_ => mS a_ 0 fun t0_a => mI a_ 1 fun t1_from => mI a_ 2 fun t2_to => m0 t0_a t1_from t2_to w_)
  | _ => none

set_option maxRecDepth 100000 in
/-- surd/mul.part: function 114. -/
theorem mul_part_vc (a0_a : Slc) (a1_from : Int) (a2_to : Int) (w : World) (R : Ending → World → Prop)
    (J0 : Slc → Int → Int → World → Prop) (m0 : Slc → Int → Int → World → Nat)
    (h : J0 a0_a (minI a1_from (a0_a.n : Int)) (minI a2_to (a0_a.n : Int)) w)
    (h0 : ∀ (t0_a : Slc) (t1_from : Int) (t2_to : Int) (w_ : World), J0 t0_a t1_from t2_to w_ → 
    br (decide (t2_to > t1_from))
    (semA Tryd.prog (Instr.indexAt 35 t0_a.v (Value.int .i64 (IntKind.i64.wrap (t2_to - 1)))) w_ fun ad1 w1 =>
     ldI .u64 ad1 w1 fun x1 =>
     br (x1 == 0)
     (J0 t0_a t1_from (IntKind.i64.wrap (t2_to - 1)) w1 ∧
      m0 t0_a t1_from (IntKind.i64.wrap (t2_to - 1)) w1 < m0 t0_a t1_from t2_to w_)
     (semS Tryd.prog (Instr.sliceAt 35 t0_a.v (some (Value.int .i64 t1_from)) (some (Value.int .i64 t2_to)) none) w1 fun s1 w2 =>
      R (.returned s1.v) w2))
    (semS Tryd.prog (Instr.sliceAt 35 t0_a.v (some (Value.int .i64 t1_from)) (some (Value.int .i64 t2_to)) none) w_ fun s2 w3 =>
     R (.returned s2.v) w3)) :
    Calls Tryd.prog 114 #[a0_a.v, Value.int .i64 a1_from, Value.int .i64 a2_to] w R := by
  refine calls_of_vc (mul_part_cut J0 m0) (by kernel_rfl) Tryd.func114 rfl ?_ ?_
  · refine kcast h ?_; kernel_rfl
  · exact (obl_seq rfl (obl_reg (obl_seq rfl (obl_reg (obl_seq rfl (obl_loop _ rfl (fun a_ w_ hL_ => (by
    obtain ⟨hz_, hd_, hL_⟩ := atSz_out hL_
    obtain ⟨t0_a, h0_, hL_⟩ := atS_out hL_
    obtain ⟨t1_from, h1_, hL_⟩ := atI_out hL_
    obtain ⟨t2_to, h2_, hL_⟩ := atI_out hL_
    obtain ⟨g0, rfl⟩ : ∃ g, a_ = Fr 32 [(0, t0_a.v), (1, Value.int .i64 t1_from), (2, Value.int .i64 t2_to)] g := ⟨_, fr_of hz_ hd_ [(0, t0_a.v), (1, Value.int .i64 t1_from), (2, Value.int .i64 t2_to)] (sel_cons h0_ (sel_cons h1_ (sel_cons h2_ sel_nil)))⟩
    clear hz_ hd_ h0_ h1_ h2_
    have hJ0_ := hL_
    refine ⟨(fun _ => none), kcast (h0 t0_a t1_from t2_to w_ hJ0_) ?_, ?_⟩
    · kernel_rfl
    · exact (obl_seq rfl (obl_seq rfl (obl_reg (obl_cond (obl_skip (obl_exit (obl_blk rfl (obl_reg trivial)))))))))) (obl_seq rfl (obl_reg (obl_ret trivial)))))))))

def mul_less_cut (J0 : Slc → Slc → Int → Int → Int → World → Prop) (m0 : Slc → Slc → Int → Int → Int → World → Nat) : Nat → Option ((Act → World → Prop) × (Act → World → Nat))
  | 0 => some (fun a_ w_ => atSz a_ 43 (atS a_ 1 fun t1_b => atS a_ 5 fun t5_out => atI .u64 a_ 6 fun t6_borrow => atI .i64 a_ 16 fun t16 => atI .i64 a_ 17 fun t17 => J0 t1_b t5_out t6_borrow t16 t17 w_), fun a_ w_ => mS a_ 1 fun t1_b => mS a_ 5 fun t5_out => mI a_ 6 fun t6_borrow => mI a_ 16 fun t16 => mI a_ 17 fun t17 => m0 t1_b t5_out t6_borrow t16 t17 w_)
  | _ => none

set_option maxRecDepth 100000 in
/-- surd/mul.less: function 115. -/
theorem mul_less_vc (a0_a : Slc) (a1_b : Slc) (w : World) (R : Ending → World → Prop)
    (J0 : Slc → Slc → Int → Int → Int → World → Prop) (m0 : Slc → Slc → Int → Int → Int → World → Nat)
    (h : semS Tryd.prog (Instr.makeSlice 35 (Value.int .i64 (a0_a.n : Int)) (Value.int .i64 (a0_a.n : Int))) w fun s1 w1 =>
    semI Tryd.prog .i64 (Builtin.copy_ #[35, 35] 3 #[s1.v, a0_a.v]) w1 fun x1 w2 =>
    J0 a1_b s1 0 (s1.n : Int) 0 w2)
    (h0 : ∀ (t1_b : Slc) (t5_out : Slc) (t6_borrow : Int) (t16 : Int) (t17 : Int) (w_ : World), J0 t1_b t5_out t6_borrow t16 t17 w_ → 
    br (decide (t17 < t16))
    (br (decide (t17 < (t1_b.n : Int)))
     (semA Tryd.prog (Instr.indexAt 35 t1_b.v (Value.int .i64 t17)) w_ fun ad1 w3 =>
      ldI .u64 ad1 w3 fun x2 =>
      semA Tryd.prog (Instr.indexAt 35 t5_out.v (Value.int .i64 t17)) w3 fun ad2 w4 =>
      ldI .u64 ad2 w4 fun x3 =>
      Sem.wp Tryd.prog (callFunc 119 #[Value.int .u64 x3, Value.int .u64 x2, Value.int .u64 t6_borrow]) (fun n1 w5 =>
       ∃ x4 : Int, ∃ x5 : Int, n1 = .value (Value.tuple #[Value.int .u64 x4, Value.int .u64 x5]) ∧
       (semA Tryd.prog (Instr.indexAt 35 t5_out.v (Value.int .i64 t17)) w5 fun ad3 w6 =>
        stC ad3 (Value.int .u64 x4) w6 fun w7 =>
        J0 t1_b t5_out x5 t16 (IntKind.i64.wrap (t17 + 1)) w7 ∧
        m0 t1_b t5_out x5 t16 (IntKind.i64.wrap (t17 + 1)) w7 < m0 t1_b t5_out t6_borrow t16 t17 w_)) (fun _ _ => False) w4)
     (semA Tryd.prog (Instr.indexAt 35 t5_out.v (Value.int .i64 t17)) w_ fun ad4 w8 =>
      ldI .u64 ad4 w8 fun x6 =>
      Sem.wp Tryd.prog (callFunc 119 #[Value.int .u64 x6, Value.int .u64 0, Value.int .u64 t6_borrow]) (fun n2 w9 =>
       ∃ x7 : Int, ∃ x8 : Int, n2 = .value (Value.tuple #[Value.int .u64 x7, Value.int .u64 x8]) ∧
       (semA Tryd.prog (Instr.indexAt 35 t5_out.v (Value.int .i64 t17)) w9 fun ad5 w10 =>
        stC ad5 (Value.int .u64 x7) w10 fun w11 =>
        J0 t1_b t5_out x8 t16 (IntKind.i64.wrap (t17 + 1)) w11 ∧
        m0 t1_b t5_out x8 t16 (IntKind.i64.wrap (t17 + 1)) w11 < m0 t1_b t5_out t6_borrow t16 t17 w_)) (fun _ _ => False) w8))
    (R (.returned t5_out.v) w_)) :
    Calls Tryd.prog 115 #[a0_a.v, a1_b.v] w R := by
  refine calls_of_vc (mul_less_cut J0 m0) (by kernel_rfl) Tryd.func115 rfl ?_ ?_
  · refine kcast h ?_; kernel_rfl
  · exact (obl_seq rfl (obl_reg (obl_seq rfl (obl_reg (obl_seq rfl (obl_reg (obl_seq rfl (obl_reg (obl_seq rfl (obl_seq rfl (obl_reg (obl_loop _ rfl (fun a_ w_ hL_ => (by
    obtain ⟨hz_, hd_, hL_⟩ := atSz_out hL_
    obtain ⟨t1_b, h1_, hL_⟩ := atS_out hL_
    obtain ⟨t5_out, h5_, hL_⟩ := atS_out hL_
    obtain ⟨t6_borrow, h6_, hL_⟩ := atI_out hL_
    obtain ⟨t16, h16_, hL_⟩ := atI_out hL_
    obtain ⟨t17, h17_, hL_⟩ := atI_out hL_
    obtain ⟨g0, rfl⟩ : ∃ g, a_ = Fr 43 [(1, t1_b.v), (5, t5_out.v), (6, Value.int .u64 t6_borrow), (16, Value.int .i64 t16), (17, Value.int .i64 t17)] g := ⟨_, fr_of hz_ hd_ [(1, t1_b.v), (5, t5_out.v), (6, Value.int .u64 t6_borrow), (16, Value.int .i64 t16), (17, Value.int .i64 t17)] (sel_cons h1_ (sel_cons h5_ (sel_cons h6_ (sel_cons h16_ (sel_cons h17_ sel_nil)))))⟩
    clear hz_ hd_ h1_ h5_ h6_ h16_ h17_
    have hJ0_ := hL_
    refine ⟨(fun _ => none), kcast (h0 t1_b t5_out t6_borrow t16 t17 w_ hJ0_) ?_, ?_⟩
    · kernel_rfl
    · exact (obl_seq rfl (obl_reg (obl_seq rfl (obl_cond (obl_skip (obl_exit (obl_seq rfl (obl_blk rfl (obl_seq rfl (obl_reg (obl_seq rfl (obl_reg (obl_seq rfl (obl_seq rfl (obl_reg (obl_cond (obl_reg (obl_skip (obl_reg (obl_reg trivial)))))))))))))))))))))) (obl_seq rfl (obl_reg (obl_ret trivial)))))))))))))))

set_option maxRecDepth 100000 in
/-- surd/mul.sum: function 116. -/
theorem mul_sum_vc (a0_a : Slc) (a1_b : Slc) (w : World) (R : Ending → World → Prop)
    
    (h : semS Tryd.prog (Instr.makeSlice 35 (Value.int .i64 (IntKind.i64.wrap ((maxI (a0_a.n : Int) (a1_b.n : Int)) + 1))) (Value.int .i64 (IntKind.i64.wrap ((maxI (a0_a.n : Int) (a1_b.n : Int)) + 1)))) w fun s1 w1 =>
    semI Tryd.prog .i64 (Builtin.copy_ #[35, 35] 3 #[s1.v, a0_a.v]) w1 fun x1 w2 =>
    Calls Tryd.prog 113 #[s1.v, a1_b.v, Value.int .i64 0] w2 fun e1 w3 =>
    e1 = .returned (Value.tuple #[]) ∧
    (R (.returned s1.v) w3)) :
    Calls Tryd.prog 116 #[a0_a.v, a1_b.v] w R := by
  refine calls_of_vc (fun _ => none) (by kernel_rfl) Tryd.func116 rfl ?_ ?_
  · refine kcast h ?_; kernel_rfl
  · exact (obl_seq rfl (obl_reg (obl_seq rfl (obl_reg (obl_seq rfl (obl_reg (obl_seq rfl (obl_reg (obl_seq rfl (obl_reg (obl_ret trivial)))))))))))

end Go.Proofs.YtahbekmnphkiiaaDoor
namespace Go.Proofs.YtahbekmnphkiiaaDoor
open Go Go.RowKit Eng Sp Dg
set_option linter.unusedVariables false
set_option linter.unusedSimpArgs false
set_option maxRecDepth 100000
namespace Mul
open _root_.Go.Proofs.YtahbekmnphkiiaaDoor.Nat (ldN ldNf stN mkN Fill mkF stF stFf Num OwnNil add64 sub64)

/-- No block but k has changed. -/
def Only (k : Nat) (w w' : World) : Prop := w'.os = w.os ∧ w'.tape = w.tape ∧ w'.output = w.output ∧ w'.heap.size = w.heap.size ∧ ∀ j, j ≠ k → w'.heap[j]? = w.heap[j]?
theorem Only.refl (k : Nat) (w : World) : Only k w w := ⟨rfl, rfl, rfl, rfl, fun _ _ => rfl⟩
theorem Only.trans {k : Nat} {a b c : World} (h : Only k a b) (h' : Only k b c) : Only k a c :=
  ⟨h'.1.trans h.1, h'.2.1.trans h.2.1, h'.2.2.1.trans h.2.2.1, h'.2.2.2.1.trans h.2.2.2.1, fun j hj => (h'.2.2.2.2 j hj).trans (h.2.2.2.2 j hj)⟩
theorem Only.setCell (k i : Nat) (w : World) (v : Value) : Only k w (w.setCell ⟨k, i, none⟩ v) :=
  ⟨rfl, rfl, rfl, by simp [World.setCell], fun j hj => Below.heap_setCell _ _ _ _ (by simpa using hj)⟩
theorem Only.setRow (k : Nat) (w : World) (c : Array Value) : Only k w (w.setRow k c) :=
  ⟨rfl, rfl, rfl, by simp [World.setRow], fun j hj => setRow_other w k j _ hj⟩
theorem Only.ahead {k : Nat} {w0 w w' : World} (h : Only k w w') (ha : Ahead w0 w) (hk : w0.heap.size ≤ k) : Ahead w0 w' :=
  Below.trans ha ⟨h.1, h.2.1, h.2.2.1, by rw [h.2.2.2.1]; exact Nat.le_refl _, fun j hj => h.2.2.2.2 j (by omega)⟩
/-- The slice's cells lie outside the block. -/
def Off (k : Nat) (s : Slc) : Prop := ∀ ad, s.A = some ad → 0 < s.n → ad.block ≠ k
theorem add_block (a : Addr) (i : Nat) : (a.add i).block = a.block := by unfold Addr.add; split <;> rfl
theorem Only.rd {k : Nat} {w w' : World} (h : Only k w w') {s : Slc} {l : List Int} {kd : IntKind} (hr : Rd kd w s l) (ho : Off k s) : Rd kd w' s l :=
  ⟨hr.n, hr.c, fun i hi => by
    obtain ⟨ad, e, hc⟩ := hr.get i hi
    refine ⟨ad, e, ?_⟩
    rw [World.cell?_of_block (w := w)]
    · exact hc
    · rw [add_block]; exact h.2.2.2.2 _ (ho ad e (by rw [hr.n]; omega))⟩
theorem Only.own {k : Nat} {w w' : World} (h : Only k w w') {s : Slc} {l : List Int} {kd : IntKind} {t : TypeId} {b : Nat} (hr : Owr kd t w s l b) (ho : b ≠ k) : Owr kd t w' s l b := by
  obtain ⟨sp, hc, hm⟩ := hr.mem
  exact ⟨hr.hd, sp, hc, by rw [h.2.2.2.2 b ho]; exact hm⟩
theorem Only.ownNil {k base : Nat} {w w' : World} (h : Only k w w') {s : Slc} {l : List Nat} (hr : OwnNil base w s l) (ho : k < base) : OwnNil base w' s l := by
  rcases hr with h1 | ⟨b, h1, h2, h3⟩
  · exact .inl h1
  · exact .inr ⟨b, h1, h2, h.own h3 (by omega)⟩
theorem off_new {k base : Nat} {w : World} {s : Slc} {l : List Nat} (hr : OwnNil base w s l) (ho : k < base) : Off k s := by
  intro ad e _
  rcases hr with ⟨rfl, _⟩ | ⟨b, h1, _, h3⟩
  · cases e
  · have := Option.some.inj (h3.A.symm.trans e)
    rw [← this]; simp only; omega

theorem stO {t : TypeId} {w : World} {s : Slc} {l : List Nat} {b : Nat} (h : Owr .u64 tU64 w s (nn l) b) {i : Int} (h0 : 0 ≤ i) (h1 : i < l.length) {x : Nat} {K : World → Prop}
    (hk : ∀ w', Owr .u64 tU64 w' s (nn (l.set i.toNat x)) b → Only b w w' → K w')
    (hT : isSl pr t .u64 = some tU64 := by kernel_rfl) : semA pr (Instr.indexAt t s.v (.int .i64 i)) w fun ad w1 => stC ad (.int .u64 (x : Int)) w1 fun w2 => K w2 := by
  have hi : i.toNat < (nn l).length := by rw [nn_length]; omega
  unfold semA
  rw [Sem.wp_iff_run, run_indexAt hT w s i _ h.A h0 (by rw [h.n, nn_length]; exact h1)]
  refine ⟨_, rfl, ?_⟩
  rw [add_off]
  have := h.set hi (x : Int)
  rw [nn_set] at this
  exact ⟨⟨_, h.cell hi⟩, h.frozen _, hk _ this (Only.setCell b _ w _)⟩

/-- What is read at a place: an addition with a carry stays within the limbs. -/
theorem addAt_spec {w : World} {c b : Slc} {l m : List Nat} {k at_ : Nat} (hc : Owr .u64 tU64 w c (nn l) k) (hb : Rd .u64 w b (nn m)) (ho : Off k b) (ol : ok B64 l) (om : ok B64 m) (ll : l.length ≤ 2 ^ 46) (lm : m.length ≤ 2 ^ 46)
    (hat : at_ ≤ l.length) (hfit : val B64 l + val B64 m * B64 ^ at_ < B64 ^ l.length) :
    Calls pr mul_addAt_id #[c.v, b.v, .int .i64 (at_ : Int)] w fun e w' => e = .returned (.tuple #[]) ∧ Only k w w' ∧ ∃ l', Owr .u64 tU64 w' c (nn l') k ∧ l'.length = l.length ∧ ok B64 l' ∧ val B64 l' = val B64 l + val B64 m * B64 ^ at_ := by
  have hB := B64v
  have hcn : c.n = l.length := by rw [hc.n, nn_length]
  have hbn : b.n = m.length := by rw [hb.n, nn_length]
  refine mul_addAt_vc c b at_ w _ (fun t0 t1 t2 t6 t7 w' => t0 = c ∧ t1 = b ∧ t2 = (at_ : Int) ∧ ∃ (j cr : Nat) (l' : List Nat), t7 = ((at_ + j : Nat) : Int) ∧ at_ + j ≤ l.length ∧ t6 = (cr : Int) ∧ cr ≤ 1 ∧ Only k w w' ∧ Owr .u64 tU64 w' c (nn l') k ∧ l'.length = l.length ∧ ok B64 l' ∧
    val B64 l' + cr * B64 ^ (at_ + j) = val B64 l + val B64 (m.take j) * B64 ^ at_) (fun t0 _ _ _ i _ => ((t0.n : Int) - i).toNat)
    ⟨rfl, rfl, rfl, 0, 0, l, rfl, hat, rfl, by omega, Only.refl _ _, hc, rfl, ol, by simp [val]⟩ ?_
  rintro t0 t1 t2 t6 t7 w1 ⟨rfl, rfl, rfl, j, cr, l', rfl, hj, rfl, hcr, hon, hc1, hl', ol', hv⟩
  have hb1 := hon.rd hb ho
  have ei : IntKind.i64.wrap (((at_ + j : Nat) : Int) - (at_ : Int)) = (j : Int) := by rw [wrap_i64 (by omega) (by omega)]; omega
  have e8 : IntKind.i64.wrap (((at_ + j : Nat) : Int) + 1) = ((at_ + (j + 1) : Nat) : Int) := by rw [wrap_i64 (by omega) (by omega)]; omega
  rw [ei, e8]
  -- a round
  have round : ∀ y : Nat, y < B64 → y = m.getD j 0 → at_ + j < l.length → ∀ w2, w2 = w1 → semA pr (Instr.indexAt 35 t0.v (.int .i64 ((at_ + j : Nat) : Int))) w2 fun ad2 w2 => ldI .u64 ad2 w2 fun x2 =>
      Sem.wp pr (callFunc bits_Add64_id #[.int .u64 x2, .int .u64 (y : Int), .int .u64 (cr : Int)]) (fun n1 w3 => ∃ x3 : Int, ∃ x4 : Int, n1 = .value (.tuple #[.int .u64 x3, .int .u64 x4]) ∧
        (semA pr (Instr.indexAt 35 t0.v (.int .i64 ((at_ + j : Nat) : Int))) w3 fun ad3 w4 => stC ad3 (.int .u64 x3) w4 fun w5 =>
          (t0 = t0 ∧ t1 = t1 ∧ (at_ : Int) = (at_ : Int) ∧ ∃ (j' cr : Nat) (l' : List Nat), ((at_ + (j + 1) : Nat) : Int) = ((at_ + j' : Nat) : Int) ∧ at_ + j' ≤ l.length ∧ x4 = (cr : Int) ∧ cr ≤ 1 ∧ Only k w w5 ∧ Owr .u64 tU64 w5 t0 (nn l') k ∧ l'.length = l.length ∧ ok B64 l' ∧
    val B64 l' + cr * B64 ^ (at_ + j') = val B64 l + val B64 (m.take j') * B64 ^ at_) ∧ ((t0.n : Int) - ((at_ + (j + 1) : Nat) : Int)).toNat < ((t0.n : Int) - ((at_ + j : Nat) : Int)).toNat)) (fun _ _ => False) w2 := by
    rintro y hy hym hlt w2 rfl
    refine ldN hc1.rd (by omega) (by omega) ?_
    rw [Int.toNat_natCast]
    have hx := ok_getD ol' (by omega : 0 < B64) (at_ + j)
    refine add64 hcr ?_
    refine stO hc1 (by omega) (by omega) ?_
    intro w5 ho5 hon5
    rw [Int.toNat_natCast] at ho5
    have hq1 : (l'.getD (at_ + j) 0 + y + cr) / B64 ≤ 1 := by
      have : l'.getD (at_ + j) 0 + y + cr < 2 * B64 := by omega
      have := (Nat.div_lt_iff_lt_mul (by omega : 0 < B64)).2 this
      omega
    refine ⟨⟨rfl, rfl, rfl, j + 1, _, _, rfl, by omega, rfl, hq1, hon.trans hon5, ho5, by simpa using hl', ok_set ol' (Nat.mod_lt _ (by omega)), ?_⟩, by omega⟩
    have vs := val_set (B := B64) l' (at_ + j) ((l'.getD (at_ + j) 0 + y + cr) % B64) (by omega)
    have dm := Nat.mod_add_div (l'.getD (at_ + j) 0 + y + cr) B64
    rw [val_take_succ', ← hym, Nat.add_mul, show at_ + (j + 1) = at_ + j + 1 by omega, Nat.pow_succ, show B64 ^ j * y * B64 ^ at_ = B64 ^ (at_ + j) * y by rw [Nat.pow_add]; ac_rfl]
    generalize (l'.getD (at_ + j) 0 + y + cr) % B64 = s at *
    generalize (l'.getD (at_ + j) 0 + y + cr) / B64 = q at *
    generalize l'.getD (at_ + j) 0 = x at *
    generalize B64 ^ (at_ + j) = P at *
    have e : P * s + q * (P * B64) = P * x + P * y + cr * P := by
      have : P * (s + B64 * q) = P * (x + y + cr) := by rw [dm]
      rw [Nat.mul_add, Nat.mul_add, Nat.mul_add] at this
      rw [Nat.mul_comm cr P, ← this]
      ac_rfl
    omega
  -- at the end nothing is left
  have fin : (¬ (at_ + j < l.length)) ∨ (m.length ≤ j ∧ cr = 0) → (Ending.returned (Value.tuple #[]) = .returned (.tuple #[]) ∧ Only k w w1 ∧ ∃ l'', Owr .u64 tU64 w1 t0 (nn l'') k ∧ l''.length = l.length ∧ ok B64 l'' ∧ val B64 l'' = val B64 l + val B64 m * B64 ^ at_) := by
    intro h
    refine ⟨rfl, hon, l', hc1, hl', ol', ?_⟩
    have hle : val B64 (m.take j) ≤ val B64 m := by rw [val_take_drop m (min j m.length) (Nat.min_le_right _ _)]; rw [show m.take (min j m.length) = m.take j by rw [Nat.min_def]; split; rfl; rw [List.take_of_length_le (Nat.le_refl _), List.take_of_length_le (by omega)]]; omega
    rcases h with h | ⟨h, rfl⟩
    · have he : at_ + j = l.length := by omega
      rw [he] at hv
      have h2 : val B64 (m.take j) * B64 ^ at_ ≤ val B64 m * B64 ^ at_ := Nat.mul_le_mul_right _ hle
      have h3 : cr = 0 := by
        rcases Nat.lt_or_ge cr 1 with h4 | h4
        · omega
        · have : cr = 1 := by omega
          subst this
          omega
      subst h3
      have h5 : val B64 m = val B64 (m.take j) := by
        rcases Nat.lt_or_ge j m.length with hjm | hjm
        · -- the limbs behind j are worth at least B^(at+j)
          rw [val_take_drop m j (by omega)] at hfit ⊢
          rcases Nat.eq_zero_or_pos (val B64 (m.drop j)) with hz | hp
          · rw [hz]; simp
          · exfalso
            have : B64 ^ l.length ≤ B64 ^ j * val B64 (m.drop j) * B64 ^ at_ := by
              rw [← he, Nat.pow_add, Nat.mul_comm (B64 ^ at_)]
              exact Nat.mul_le_mul_right _ (Nat.le_mul_of_pos_right _ hp)
            rw [Nat.add_mul] at hfit
            omega
        · rw [List.take_of_length_le hjm]
      rw [h5]; omega
    · rw [List.take_of_length_le h] at hv
      omega
  refine br_intro (fun hlt => ?_) (fun hge => ?_)
  · have hlt' : at_ + j < l.length := by simp at hlt; omega
    refine br_intro (fun hin => ?_) (fun hin => ?_)
    · have hin' : j < m.length := by simp at hin; omega
      refine br_true hin ?_
      refine ldN hb1 (by omega) (by omega) ?_
      rw [Int.toNat_natCast]
      exact round _ (ok_getD om (by omega) j) rfl hlt' _ rfl
    · have hin' : m.length ≤ j := by simp at hin; omega
      refine br_intro (fun hp => ?_) (fun hp => ?_)
      · exact br_false hin (round 0 (by omega) (getD_ge _ _ hin').symm hlt' _ rfl)
      · exact fin (.inr ⟨hin', by simp at hp; omega⟩)
  · exact fin (.inl (by simp at hge; omega))

end Mul
end Go.Proofs.YtahbekmnphkiiaaDoor
namespace Go.Proofs.YtahbekmnphkiiaaDoor
open Go Go.RowKit Eng Sp Dg
set_option linter.unusedVariables false
set_option linter.unusedSimpArgs false
set_option maxRecDepth 100000
namespace Mul
open _root_.Go.Proofs.YtahbekmnphkiiaaDoor.Nat (ldN ldNf stN mkN Fill mkF stF stFf Num OwnNil add64 sub64)

theorem rd_off {w : World} {s : Slc} {l : List Int} {kd : IntKind} (hr : Rd kd w s l) {k : Nat} (hk : w.heap.size ≤ k) : Off k s := by
  intro ad e hp
  obtain ⟨ad', e', hc⟩ := hr.get 0 (by have := hr.n; omega)
  rw [e] at e'
  obtain rfl := Option.some.inj e'
  intro hb
  have hnone : w.heap[k]? = none := by simp [hk]
  have : (ad.add 0).block = k := by rw [add_block]; exact hb
  simp [World.cell?, this, hnone] at hc

/-- copy, onto a row of the call's own, of what is no longer. -/
theorem cpO {t : TypeId} {w : World} {s x : Slc} {l ys : List Nat} {b : Nat} {ty : TypeId} (h : Owr .u64 tU64 w s (nn l) b) (hx : Rd .u64 w x (nn ys)) (hle : ys.length ≤ l.length) {K : Int → World → Prop}
    (hk : ∀ n w', Owr .u64 tU64 w' s (nn (ys ++ l.drop ys.length)) b → Only b w w' → K n w')
    (hT : isSl pr t .u64 = some tU64 := by kernel_rfl) : semI pr .i64 (Builtin.copy_ #[t, t] ty #[s.v, x.v]) w K := by
  obtain ⟨hu, he, inf, hi, hs1, hb8, hz⟩ := isSl_out hT
  obtain ⟨sp, hc, hh⟩ := h.mem
  have hsv : s.v = .slice (some ⟨b, 0, none⟩) l.length s.c := by rw [Slc.v, h.A, h.n, nn_length]
  have hxn : x.n = ys.length := by rw [hx.n, nn_length]
  unfold semI
  rw [Sem.wp_iff_run, hsv]
  obtain ⟨A, n, c⟩ := x
  simp only at hxn
  subst hxn
  cases A with
  | none =>
    have hnil : ys = [] := by
      cases ys with
      | nil => rfl
      | cons y ys =>
        obtain ⟨ad, e, _⟩ := hx.get 0 (by simp)
        cases e
    subst hnil
    have hr : (Builtin.copy_ #[t, t] ty #[.slice (some ⟨b, 0, none⟩) l.length s.c, Slc.v ⟨none, 0, c⟩]).run pr w = .ok (goInt 0) w := by
      simp [Builtin.copy_, Slc.v, run_underlying hu, Builtin.lenOf, Builtin.firstCells, sizeOf, typeInfo, hi, storeCells]
    simp only [List.length_nil]
    rw [hr]
    exact ⟨_, rfl, hk _ _ (by simpa using h) (Only.refl _ _)⟩
  | some ad =>
    have hr := run_copy_row (P := pr) w t t ty tU64 b 0 l.length s.c ad ys.length c (ints .u64 (nn l) ++ sp).toArray tU64 (ints .u64 (nn ys)) hu (by rw [hi]; simp [hs1]) hh (by simp [ints, Nat.min_eq_left hle])
      (fun j v hj => by
        have hj' : j < (nn ys).length := by
          have := (List.getElem?_eq_some_iff.1 hj).1
          simpa [ints] using this
        obtain ⟨ad', e', hcc⟩ := hx.get j hj'
        obtain rfl := Option.some.inj e'
        rw [ints_get hj'] at hj
        obtain rfl := Option.some.inj hj
        exact hcc) (by simp [ints]; omega) (by simp [ints, Value.oneCell'])
    have hxv : Slc.v ⟨some ad, ys.length, c⟩ = .slice (some ad) ys.length c := rfl
    rw [hxv, hr]
    refine ⟨_, rfl, hk _ _ ⟨?_, sp, ?_, ?_⟩ (Only.setRow _ _ _)⟩
    · rw [h.hd]; simp; omega
    · rw [hc]; simp; omega
    · rw [setRow_heap w b _ _ tU64 (0, 0) hh]
      congr 2
      simp [ints, nn, List.drop_append, show ys.length - l.length = 0 by omega]

theorem part_spec {w : World} {a : Slc} {l : List Nat} (h : Rd .u64 w a (nn l)) (ol : ok B64 l) (ll : l.length ≤ 2 ^ 46) {f t : Int} (hf : 0 ≤ f) (h0 : min f.toNat l.length ≤ min t.toNat l.length) (ht : 0 ≤ t) :
    Calls pr mul_part_id #[a.v, .int .i64 f, .int .i64 t] w fun e w' => w' = w ∧ ∃ s, e = .returned (Slc.v s) ∧
      Rd .u64 w s (nn (digs B64 (val B64 ((l.drop (min f.toNat l.length)).take (min t.toNat l.length - min f.toNat l.length))))) := by
  have hn : a.n = l.length := by rw [h.n, nn_length]
  have hc := h.c
  generalize hF : min f.toNat l.length = F at *
  generalize hT : min t.toNat l.length = T at *
  have hTl : T ≤ l.length := by omega
  have eF : minI f (a.n : Int) = (F : Int) := by unfold minI; split <;> omega
  have eT : minI t (a.n : Int) = (T : Int) := by unfold minI; split <;> omega
  refine mul_part_vc a f t w _ (fun t0 t1 t2 w' => t0 = a ∧ w' = w ∧ t1 = (F : Int) ∧ ∃ j : Nat, t2 = (j : Int) ∧ F ≤ j ∧ j ≤ T ∧ ∀ i, j ≤ i → i < T → l.getD i 0 = 0) (fun _ _ t2 _ => t2.toNat)
    ⟨rfl, rfl, eF, T, eT, h0, Nat.le_refl _, fun i h1 h2 => by omega⟩ ?_
  rintro t0 t1 t2 w1 ⟨rfl, rfl, rfl, j, rfl, hj1, hj2, hz⟩
  have fin : (j = F ∨ l.getD (j - 1) 0 ≠ 0) → semS pr (Instr.sliceAt 35 t0.v (some (.int .i64 (F : Int))) (some (.int .i64 (j : Int))) none) w1 fun s1 w2 =>
      w2 = w1 ∧ ∃ s, Ending.returned s1.v = .returned (Slc.v s) ∧ Rd .u64 w1 s (nn (digs B64 (val B64 ((l.drop F).take (T - F))))) := by
    intro hlast
    have e := run_slice_both (t := 35) (e := tU64) (k := .u64) (P := pr) (by kernel_rfl) w1 t0 (l := (F : Int)) (h := (j : Int)) (by omega) (by omega) (by omega)
    unfold semS
    rw [Sem.wp_iff_run, e]
    refine ⟨_, rfl, rfl, _, rfl, ?_⟩
    have hd : digs B64 (val B64 ((l.drop F).take (T - F))) = ((l.drop F).take (T - F)).take (j - F) := by
      refine digs_take two64 (ok_take (ok_drop ol F) _) (by simp; omega) (fun i h1 h2 => ?_) ?_
      · have h3 : i < T - F := by simp at h2; omega
        rw [getD_take _ h3, getD_drop]
        exact hz (F + i) (by omega) (by omega)
      · rcases hlast with h1 | h1
        · left; omega
        · by_cases hjF : j = F
          · left; omega
          · right
            rw [getD_take _ (by omega), getD_drop, show F + (j - F - 1) = j - 1 by omega]
            exact h1
    rw [hd, List.take_take, Nat.min_eq_left (by omega), ← nn_take, ← nn_drop]
    have h2 := (Rd.drop h (m := F) (by rw [nn_length]; omega)).take (m := j - F) (c := t0.c - F) (by simp; omega) (by omega)
    simp only [Int.toNat_natCast]
    exact h2
  refine br_intro (fun hp => ?_) (fun hp => ?_)
  · have hp' : F < j := by simp at hp; omega
    rw [wrap_i64 (x := (j : Int) - 1) (by omega) (by omega)]
    refine ldN h (by omega) (by omega) ?_
    rw [show ((j : Int) - 1).toNat = j - 1 by omega]
    refine br_intro (fun hx => ?_) (fun hx => ?_)
    · refine ⟨⟨rfl, rfl, rfl, j - 1, by omega, by omega, by omega, fun i h1 h2 => ?_⟩, by omega⟩
      by_cases hi : i = j - 1
      · subst hi; simpa using hx
      · exact hz i (by omega) h2
    · exact fin (.inr (by simpa using hx))
  · exact fin (.inl (by simp at hp; omega))

theorem val_append_zeros (l : List Nat) (n : Nat) : val B64 (l ++ List.replicate n 0) = val B64 l := by rw [val_append, val_replicate, Nat.mul_zero, Nat.add_zero]

theorem sum_spec {w : World} {a b : Slc} {la lb : List Nat} (ha : Rd .u64 w a (nn la)) (hb : Rd .u64 w b (nn lb)) (oa : ok B64 la) (ob : ok B64 lb) (na : la.length + 1 ≤ 2 ^ 45) (nb : lb.length + 1 ≤ 2 ^ 45) :
    Calls pr mul_sum_id #[a.v, b.v] w fun e w' => Ahead w w' ∧ ∃ s l, e = .returned (Slc.v s) ∧ OwnNil w.heap.size w' s l ∧ l.length = max la.length lb.length + 1 ∧ ok B64 l ∧ val B64 l = val B64 la + val B64 lb := by
  have hB := B64v
  have hna : a.n = la.length := by rw [ha.n, nn_length]
  have hnb : b.n = lb.length := by rw [hb.n, nn_length]
  have em : maxI (a.n : Int) (b.n : Int) = ((max la.length lb.length : Nat) : Int) := by unfold maxI; split <;> omega
  refine mul_sum_vc a b w _ ?_
  rw [em, wrap_i64 (x := ((max la.length lb.length : Nat) : Int) + 1) (by omega) (by omega)]
  refine mkN (by omega) (by omega) ?_
  intro c w1 hc ho h1 hs1
  have hr := ha.ahead h1
  refine cpO ho hr (by simp; omega) ?_
  intro n w2 ho2 hon2
  have hlen : (la ++ (List.replicate ((max la.length lb.length : Nat) + 1 : Int).toNat 0).drop la.length).length = max la.length lb.length + 1 := by simp; omega
  have hval : val B64 (la ++ (List.replicate ((max la.length lb.length : Nat) + 1 : Int).toNat 0).drop la.length) = val B64 la := by rw [List.drop_replicate]; exact val_append_zeros _ _
  have hok : ok B64 (la ++ (List.replicate ((max la.length lb.length : Nat) + 1 : Int).toNat 0).drop la.length) := ok_append.2 ⟨oa, ok_drop (ok_replicate (by omega) _) _⟩
  generalize la ++ (List.replicate ((max la.length lb.length : Nat) + 1 : Int).toNat 0).drop la.length = L at *
  have hfit : val B64 L + val B64 lb * B64 ^ 0 < B64 ^ L.length := by
    rw [hval, hlen, Nat.pow_zero, Nat.mul_one, Nat.pow_succ]
    have h2 := Nat.lt_of_lt_of_le (val_lt oa) (Nat.pow_le_pow_right (by omega) (Nat.le_max_left la.length lb.length))
    have h3 := Nat.lt_of_lt_of_le (val_lt ob) (Nat.pow_le_pow_right (by omega) (Nat.le_max_right la.length lb.length))
    have := Nat.mul_le_mul_left (B64 ^ max la.length lb.length) two64
    omega
  refine Calls.mono (addAt_spec (at_ := 0) ho2 (hon2.rd (hb.ahead h1) (rd_off hb (Nat.le_refl _))) (rd_off hb (Nat.le_refl _)) hok ob (by omega) (by omega) (Nat.zero_le _) hfit) ?_
  rintro e w3 ⟨rfl, hon3, l', ho3, hl', ol', hv'⟩
  refine ⟨rfl, (hon2.trans hon3).ahead h1 (Nat.le_refl _), c, l', rfl, .inr ⟨_, Nat.le_refl _, by rw [hc]; unfold maxLen; omega, ho3⟩, by rw [hl', hlen], ol', by rw [hv', hval, Nat.pow_zero, Nat.mul_one]⟩

theorem less_spec {w : World} {a b : Slc} {la lb : List Nat} (ha : Rd .u64 w a (nn la)) (hb : Rd .u64 w b (nn lb)) (oa : ok B64 la) (ob : ok B64 lb) (na : la.length + 1 ≤ 2 ^ 45) (nb : lb.length ≤ 2 ^ 46) (hle : val B64 lb ≤ val B64 la) :
    Calls pr mul_less_id #[a.v, b.v] w fun e w' => Ahead w w' ∧ ∃ s l, e = .returned (Slc.v s) ∧ OwnNil w.heap.size w' s l ∧ l.length = la.length ∧ ok B64 l ∧ val B64 l = val B64 la - val B64 lb := by
  have hB := B64v
  have hna : a.n = la.length := by rw [ha.n, nn_length]
  have hnb : b.n = lb.length := by rw [hb.n, nn_length]
  refine mul_less_vc a b w _ (fun t1 out t6 t16 t17 w' => t1 = b ∧ t16 = (la.length : Int) ∧ Ahead w w' ∧ ∃ (j cr : Nat) (l : List Nat), t17 = (j : Int) ∧ j ≤ la.length ∧ t6 = (cr : Int) ∧ cr ≤ 1 ∧ Owr .u64 tU64 w' out (nn l) w.heap.size ∧ out.c ≤ maxLen ∧
    l.length = la.length ∧ ok B64 l ∧ l.drop j = la.drop j ∧ val B64 (l.take j) + val B64 (lb.take j) = val B64 (la.take j) + cr * B64 ^ j) (fun _ _ _ n i _ => (n - i).toNat) ?_ ?_
  · rw [hna]
    refine mkN (by omega) (by omega) ?_
    intro c w1 hc ho h1 hs1
    refine cpO ho (ha.ahead h1) (by simp) ?_
    intro n w2 ho2 hon2
    have e : la ++ (List.replicate ((la.length : Nat) : Int).toNat 0).drop la.length = la := by simp
    rw [e] at ho2
    exact ⟨rfl, by rw [ho2.n, nn_length], hon2.ahead h1 (Nat.le_refl _), 0, 0, la, rfl, Nat.zero_le _, rfl, by omega, ho2, by rw [hc]; unfold maxLen; omega, rfl, oa, rfl, by simp [val]⟩
  · rintro t1 out t6 t16 t17 w1 ⟨rfl, rfl, h1, j, cr, l, rfl, hj, rfl, hcr, ho, hoc, hl, ol, hdr, hv⟩
    have e8 : IntKind.i64.wrap ((j : Int) + 1) = ((j + 1 : Nat) : Int) := by rw [wrap_i64 (by omega) (by omega)]; omega
    rw [e8]
    have round : ∀ y : Nat, y < B64 → y = lb.getD j 0 → j < la.length → semA pr (Instr.indexAt 35 out.v (.int .i64 (j : Int))) w1 fun ad2 w4 => ldI .u64 ad2 w4 fun x3 =>
        Sem.wp pr (callFunc bits_Sub64_id #[.int .u64 x3, .int .u64 (y : Int), .int .u64 (cr : Int)]) (fun n1 w5 => ∃ x4 : Int, ∃ x5 : Int, n1 = .value (.tuple #[.int .u64 x4, .int .u64 x5]) ∧
          (semA pr (Instr.indexAt 35 out.v (.int .i64 (j : Int))) w5 fun ad3 w6 => stC ad3 (.int .u64 x4) w6 fun w7 =>
            (t1 = t1 ∧ (la.length : Int) = (la.length : Int) ∧ Ahead w w7 ∧ ∃ (j' cr : Nat) (l : List Nat), ((j + 1 : Nat) : Int) = (j' : Int) ∧ j' ≤ la.length ∧ x5 = (cr : Int) ∧ cr ≤ 1 ∧ Owr .u64 tU64 w7 out (nn l) w.heap.size ∧ out.c ≤ maxLen ∧
    l.length = la.length ∧ ok B64 l ∧ l.drop j' = la.drop j' ∧ val B64 (l.take j') + val B64 (lb.take j') = val B64 (la.take j') + cr * B64 ^ j') ∧ ((la.length : Int) - ((j + 1 : Nat) : Int)).toNat < ((la.length : Int) - (j : Int)).toNat)) (fun _ _ => False) w4 := by
      intro y hy hyb hjl
      refine ldN ho.rd (by omega) (by omega) ?_
      rw [Int.toNat_natCast]
      have hx : l.getD j 0 = la.getD j 0 := by
        have e1 := getD_drop l 0 j
        have e2 := getD_drop la 0 j
        rw [Nat.add_zero] at e1 e2
        rw [← e1, hdr, e2]
      have hxB := ok_getD oa (by omega : 0 < B64) j
      rw [hx]
      refine sub64 hcr ?_
      refine stO ho (by omega) (by omega) ?_
      intro w7 ho7 hon7
      rw [Int.toNat_natCast] at ho7
      have hst : (la.getD j 0 + B64 - y - cr) % B64 + y + cr = la.getD j 0 + B64 * (if la.getD j 0 < y + cr then 1 else 0) := by
        generalize la.getD j 0 = x at *
        split
        · rename_i h
          rw [Nat.mod_eq_of_lt (by omega)]; omega
        · rename_i h
          have : x + B64 - y - cr = (x - y - cr) + B64 := by omega
          rw [this, Nat.add_mod_right, Nat.mod_eq_of_lt (by omega)]; omega
      refine ⟨⟨rfl, rfl, hon7.ahead h1 (Nat.le_refl _), j + 1, _, _, rfl, hjl, rfl, by split <;> omega, ho7, hoc, by simpa using hl, ok_set ol (Nat.mod_lt _ (by omega)), ?_, ?_⟩, by omega⟩
      · rw [List.drop_set_of_lt (by omega), ← List.drop_drop, ← List.drop_drop, hdr]
      · rw [val_take_set _ _ _ (by omega), val_take_succ', val_take_succ', Nat.pow_succ, ← hyb]
        exact sub_step hst hv
    refine br_intro (fun hlt => ?_) (fun hge => ?_)
    · have hjl : j < la.length := by simp at hlt; omega
      refine br_intro (fun hin => ?_) (fun hin => ?_)
      · have hin' : j < lb.length := by simp at hin; omega
        refine ldN (hb.ahead h1) (by omega) (by omega) ?_
        rw [Int.toNat_natCast]
        exact round _ (ok_getD ob (by omega) j) rfl hjl
      · have hin' : lb.length ≤ j := by simp at hin; omega
        exact round 0 (by omega) (getD_ge _ _ hin').symm hjl
    · have hjl : j = la.length := by simp at hge; omega
      subst hjl
      refine ⟨h1, out, l, rfl, .inr ⟨_, Nat.le_refl _, hoc, ho⟩, hl, ol, ?_⟩
      have hlt := val_lt ol
      rw [hl] at hlt
      rw [val_take_all l (by omega), val_take_all la (Nat.le_refl _)] at hv
      have hlb : val B64 (lb.take la.length) = val B64 lb := by
        rw [take_val (by omega) ob, Nat.mod_eq_of_lt (Nat.lt_of_le_of_lt hle (val_lt oa))]
      rw [hlb] at hv
      have h3 : cr = 0 := by
        rcases Nat.lt_or_ge cr 1 with h4 | h4
        · omega
        · have : cr = 1 := by omega
          subst this
          omega
      subst h3
      omega

end Mul
end Go.Proofs.YtahbekmnphkiiaaDoor
namespace Go.Proofs.YtahbekmnphkiiaaDoor
open Go Go.RowKit Eng Sp Dg
set_option linter.unusedVariables false
set_option linter.unusedSimpArgs false
set_option maxRecDepth 100000
namespace Sb
open _root_.Go.Proofs.YtahbekmnphkiiaaDoor.Nat (OwnNil)
open _root_.Go.Proofs.YtahbekmnphkiiaaDoor.Mul (Only Off)

/-- The block's cells. -/
def Blk (w : World) (b : Nat) (cs : Array Value) : Prop := ∃ t, w.heap[b]? = some (.cells cs t (0, 0))
theorem Blk.lt {w : World} {b : Nat} {cs : Array Value} (h : Blk w b cs) : b < w.heap.size := by
  obtain ⟨t, h⟩ := h; exact (Array.getElem?_eq_some_iff.1 h).1
theorem Blk.ahead {w w' : World} {b : Nat} {cs : Array Value} (h : Blk w b cs) (ha : Ahead w w') : Blk w' b cs := by
  have hl := h.lt
  obtain ⟨t, h⟩ := h; exact ⟨t, by rw [Below.block ha b hl]; exact h⟩
theorem Blk.only {w w' : World} {b k : Nat} {cs : Array Value} (h : Blk w b cs) (ho : Only k w w') (hne : b ≠ k) : Blk w' b cs := by
  obtain ⟨t, h⟩ := h; exact ⟨t, by rw [ho.2.2.2.2 b hne]; exact h⟩
theorem Blk.cell {w : World} {b i : Nat} {cs : Array Value} {v : Value} (h : Blk w b cs) (hc : cs[i]? = some v) : w.cell? ⟨b, i, none⟩ = some v := by
  obtain ⟨t, h⟩ := h
  simp [World.cell?, h, hc]

theorem newC_b {w : World} {cs : Array Value} {t : TypeId} {K : Addr → World → Prop} (h : ∀ b w', b = w.heap.size → Ahead w w' → w'.heap.size = b + 1 → Blk w' b cs → K ⟨b, 0, none⟩ w') : newC w cs t K :=
  h _ _ rfl (Ahead.alloc _ _) (size_alloc _ _) ⟨t, get_alloc _ _⟩

/-- Nothing but the block, which holds no limb, has changed. -/
structure Upd (b : Nat) (w w' : World) : Prop where
  only : Only b w w'
  rd : ∀ s l, Rd .u64 w s l → Rd .u64 w' s l
theorem Upd.trans {b : Nat} {w w' w'' : World} (h : Upd b w w') (h' : Upd b w' w'') : Upd b w w'' := ⟨h.only.trans h'.only, fun s l hr => h'.rd s l (h.rd s l hr)⟩
theorem Upd.ahead {b : Nat} {w0 w w' : World} (h : Upd b w w') (ha : Ahead w0 w) (hb : w0.heap.size ≤ b) : Ahead w0 w' := h.only.ahead ha hb
theorem Upd.size {b : Nat} {w w' : World} (h : Upd b w w') : w'.heap.size = w.heap.size := h.only.2.2.2.1
theorem Upd.own {b base : Nat} {w w' : World} (h : Upd b w w') {s : Slc} {l : List Nat} (hr : OwnNil base w s l) (ho : b < base) : OwnNil base w' s l := h.only.ownNil hr ho
/-- What lay in memory that was there before the block. -/
theorem Upd.own2 {k base : Nat} {w0 w w' : World} (u : Upd k w w') {s : Slc} {l : List Nat} (h : OwnNil base w0 s l) (ha : Ahead w0 w) (hk : w0.heap.size ≤ k) : OwnNil base w' s l := by
  rcases h with h1 | ⟨b, h1, h2, h3⟩
  · exact .inl h1
  · have := h3.lt
    exact .inr ⟨b, h1, h2, u.only.own (h3.ahead ha) (by omega)⟩
theorem Upd.blk {b k : Nat} {w w' : World} {cs : Array Value} (h : Upd k w w') (hr : Blk w b cs) (hne : b ≠ k) : Blk w' b cs := hr.only h.only hne

def noU (cs : Array Value) : Bool := cs.toList.all fun v => match v with
  | .int .u64 _ => false
  | _ => true
theorem off_blk {w : World} {b : Nat} {cs : Array Value} {s : Slc} {l : List Int} (h : Blk w b cs) (hn : noU cs = true) (hr : Rd .u64 w s l) : Off b s := by
  intro ad e hp hb
  obtain ⟨ad', e', hc⟩ := hr.get 0 (by have := hr.n; omega)
  rw [e] at e'
  obtain rfl := Option.some.inj e'
  obtain ⟨t, h⟩ := h
  have hadd : ad.add 0 = ad := by simp [Addr.add]
  rw [hadd, World.cell?, hb, h] at hc
  simp only at hc
  split at hc
  · cases hc
  · have hm := Array.mem_of_getElem? hc
    unfold noU at hn
    have := List.all_eq_true.1 hn _ (Array.mem_toList_iff.2 hm)
    simp at this

theorem stC_b (i : Nat) {w : World} {b : Nat} {cs : Array Value} {ad : Addr} {v : Value} {K : World → Prop} (h : Blk w b cs) (hi : i < cs.size) (hn : noU cs = true)
    (hk : ∀ w', Upd b w w' → Blk w' b (cs.setIfInBounds i v) → K w') (hA : ad = ⟨b, i, none⟩ := by first | rfl | exact add_off) : stC ad v w K := by
  subst hA
  obtain ⟨t, hh⟩ := h
  have ho : Only b w (w.setCell ⟨b, i, none⟩ v) := Only.setCell b i w v
  refine ⟨⟨cs[i], by simp [World.cell?, hh, hi]⟩, by simp [World.frozen?, hh], hk _ ⟨ho, fun s l hr => ho.rd hr (off_blk ⟨t, hh⟩ hn hr)⟩ ⟨t, ?_⟩⟩
  have hlt := (Array.getElem?_eq_some_iff.1 hh).1
  have hget := (Array.getElem?_eq_some_iff.1 hh).2
  simp [World.setCell, Array.getElem?_modify, hh]
theorem ldB_b (i : Nat) {w : World} {b : Nat} {cs : Array Value} {ad : Addr} {x : Bool} {K : Bool → Prop} (h : Blk w b cs) (hc : cs[i]? = some (.bool x)) (hk : K x) (hA : ad = ⟨b, i, none⟩ := by first | rfl | exact add_off) : ldB ad w K := by
  subst hA; exact ⟨x, h.cell hc, hk⟩
theorem ldS_b (i : Nat) {w : World} {b : Nat} {cs : Array Value} {ad : Addr} {x : Slc} {K : Slc → Prop} (h : Blk w b cs) (hc : cs[i]? = some x.v) (hk : K x) (hA : ad = ⟨b, i, none⟩ := by first | rfl | exact add_off) : ldS ad w K := by
  subst hA; exact ⟨x, h.cell hc, hk⟩
theorem ldI_b (i : Nat) {w : World} {b : Nat} {cs : Array Value} {ad : Addr} {k : IntKind} {x : Int} {K : Int → Prop} (h : Blk w b cs) (hc : cs[i]? = some (.int k x)) (hk : K x) (hA : ad = ⟨b, i, none⟩ := by first | rfl | exact add_off) : ldI k ad w K := by
  subst hA; exact ⟨x, h.cell hc, hk⟩

abbrev c3 (x : Bool) (s : Slc) (e : Int) : Array Value := #[.bool x, s.v, .int .i64 e]
abbrev c2 (x : Bool) (s : Slc) : Array Value := #[.bool x, s.v]
theorem get3 {w : World} {b : Nat} {x : Bool} {s : Slc} {e : Int} {K : Bool → Slc → Int → Prop} (h : Blk w b (c3 x s e)) (hk : K x s e) :
    ldB ⟨b, 0, none⟩ w fun x' => ldS ((⟨b, 0, none⟩ : Addr).add 1) w fun s' => ldI .i64 ((⟨b, 0, none⟩ : Addr).add 2) w fun e' => K x' s' e' :=
  ldB_b 0 h rfl (ldS_b 1 h rfl (ldI_b 2 h rfl hk))
theorem get2 {w : World} {b : Nat} {x : Bool} {s : Slc} {cs : Array Value} {K : Bool → Slc → Prop} (h : Blk w b cs) (h0 : cs[0]? = some (.bool x)) (h1 : cs[1]? = some s.v) (hk : K x s) :
    ldB ⟨b, 0, none⟩ w fun x' => ldS ((⟨b, 0, none⟩ : Addr).add 1) w fun s' => K x' s' :=
  ldB_b 0 h h0 (ldS_b 1 h h1 hk)
theorem set3 {w : World} {b : Nat} {x0 x : Bool} {s0 s : Slc} {e0 e : Int} {K : World → Prop} (h : Blk w b (c3 x0 s0 e0)) (hk : ∀ w', Upd b w w' → Blk w' b (c3 x s e) → K w') :
    stC ⟨b, 0, none⟩ (.bool x) w fun w1 => stC ((⟨b, 0, none⟩ : Addr).add 1) s.v w1 fun w2 => stC ((⟨b, 0, none⟩ : Addr).add 2) (.int .i64 e) w2 fun w3 => K w3 :=
  stC_b 0 h (by simp) rfl fun w1 u1 h1 => stC_b 1 (cs := c3 x s0 e0) h1 (by simp) rfl fun w2 u2 h2 => stC_b 2 (cs := c3 x s e0) h2 (by simp) rfl fun w3 u3 h3 => hk w3 ((u1.trans u2).trans u3) h3
theorem set2 {w : World} {b : Nat} {x0 x : Bool} {s0 s : Slc} {K : World → Prop} (h : Blk w b (c2 x0 s0)) (hk : ∀ w', Upd b w w' → Blk w' b (c2 x s) → K w') :
    stC ⟨b, 0, none⟩ (.bool x) w fun w1 => stC ((⟨b, 0, none⟩ : Addr).add 1) s.v w1 fun w2 => K w2 :=
  stC_b 0 h (by simp) rfl fun w1 u1 h1 => stC_b 1 (cs := c2 x s0) h1 (by simp) rfl fun w2 u2 h2 => hk w2 (u1.trans u2) h2
theorem ret3 {w : World} {b : Nat} {x0 x : Bool} {s0 s : Slc} {e0 e : Int} {K : Bool → Slc → Int → World → Prop} (h : Blk w b (c3 x0 s0 e0)) (hk : ∀ w', Upd b w w' → Blk w' b (c3 x s e) → K x s e w') :
    stC ⟨b, 0, none⟩ (.bool x) w fun w1 => stC ((⟨b, 0, none⟩ : Addr).add 1) s.v w1 fun w2 => stC ((⟨b, 0, none⟩ : Addr).add 2) (.int .i64 e) w2 fun w3 =>
      ldB ⟨b, 0, none⟩ w3 fun x' => ldS ((⟨b, 0, none⟩ : Addr).add 1) w3 fun s' => ldI .i64 ((⟨b, 0, none⟩ : Addr).add 2) w3 fun e' => K x' s' e' w3 :=
  set3 h fun w' u h' => get3 h' (hk w' u h')
theorem ret2 {w : World} {b : Nat} {x0 x : Bool} {s0 s : Slc} {K : Bool → Slc → World → Prop} (h : Blk w b (c2 x0 s0)) (hk : ∀ w', Upd b w w' → Blk w' b (c2 x s) → K x s w') :
    stC ⟨b, 0, none⟩ (.bool x) w fun w1 => stC ((⟨b, 0, none⟩ : Addr).add 1) s.v w1 fun w2 =>
      ldB ⟨b, 0, none⟩ w2 fun x' => ldS ((⟨b, 0, none⟩ : Addr).add 1) w2 fun s' => K x' s' w2 :=
  set2 h fun w' u h' => get2 h' rfl rfl (hk w' u h')

end Sb
end Go.Proofs.YtahbekmnphkiiaaDoor
namespace Go.Proofs.YtahbekmnphkiiaaDoor
open Go Go.RowKit Eng
set_option linter.unusedVariables false

def nat_Tail_cut (J0 : Slc → Int → Int → World → Prop) (m0 : Slc → Int → Int → World → Nat) : Nat → Option ((Act → World → Prop) × (Act → World → Nat))
  | 0 => some (fun a_ w_ => atSz a_ 20 (atS a_ 5 fun t5 => atI .i64 a_ 6 fun t6 => atI .i64 a_ 7 fun t7 => J0 t5 t6 t7 w_), fun a_ w_ => mS a_ 5 fun t5 => mI a_ 6 fun t6 => mI a_ 7 fun t7 => m0 t5 t6 t7 w_)
  | _ => none

set_option maxRecDepth 100000 in
/-- surd/nat.Tail: function 87. -/
theorem nat_Tail_vc (a0_a : Slc) (w : World) (R : Ending → World → Prop)
    (J0 : Slc → Int → Int → World → Prop) (m0 : Slc → Int → Int → World → Nat)
    (h : J0 a0_a (a0_a.n : Int) 0 w)
    (h0 : ∀ (t5 : Slc) (t6 : Int) (t7 : Int) (w_ : World), J0 t5 t6 t7 w_ → 
    br (decide (t7 < t6))
    (semA Tryd.prog (Instr.indexAt 35 t5.v (Value.int .i64 t7)) w_ fun ad1 w1 =>
     ldI .u64 ad1 w1 fun x1 =>
     br (x1 != 0)
     (Calls Tryd.prog 107 #[Value.int .u64 x1] w1 fun e1 w2 =>
      ∃ x2 : Int, e1 = .returned (Value.int .i64 x2) ∧
      (R (.returned (Value.int .i64 (IntKind.i64.wrap ((IntKind.i64.wrap (64 * t7)) + x2)))) w2))
     (J0 t5 t6 (IntKind.i64.wrap (t7 + 1)) w1 ∧
      m0 t5 t6 (IntKind.i64.wrap (t7 + 1)) w1 < m0 t5 t6 t7 w_))
    (R (.returned (Value.int .i64 0)) w_)) :
    Calls Tryd.prog 87 #[a0_a.v] w R := by
  refine calls_of_vc (nat_Tail_cut J0 m0) (by kernel_rfl) Tryd.func87 rfl ?_ ?_
  · refine kcast h ?_; kernel_rfl
  · exact (obl_seq rfl (obl_reg (obl_seq rfl (obl_seq rfl (obl_reg (obl_loop _ rfl (fun a_ w_ hL_ => (by
    obtain ⟨hz_, hd_, hL_⟩ := atSz_out hL_
    obtain ⟨t5, h5_, hL_⟩ := atS_out hL_
    obtain ⟨t6, h6_, hL_⟩ := atI_out hL_
    obtain ⟨t7, h7_, hL_⟩ := atI_out hL_
    obtain ⟨g0, rfl⟩ : ∃ g, a_ = Fr 20 [(5, t5.v), (6, Value.int .i64 t6), (7, Value.int .i64 t7)] g := ⟨_, fr_of hz_ hd_ [(5, t5.v), (6, Value.int .i64 t6), (7, Value.int .i64 t7)] (sel_cons h5_ (sel_cons h6_ (sel_cons h7_ sel_nil)))⟩
    clear hz_ hd_ h5_ h6_ h7_
    have hJ0_ := hL_
    refine ⟨(fun _ => none), kcast (h0 t5 t6 t7 w_ hJ0_) ?_, ?_⟩
    · kernel_rfl
    · exact (obl_seq rfl (obl_reg (obl_seq rfl (obl_cond (obl_skip (obl_exit (obl_seq rfl (obl_blk rfl (obl_seq rfl (obl_reg (obl_seq rfl (obl_reg (obl_cond (obl_seq rfl (obl_reg (obl_ret (obl_skip (obl_reg trivial)))))))))))))))))))) (obl_seq rfl (obl_reg (obl_ret trivial)))))))))

set_option maxRecDepth 100000 in
/-- surd/dyadic.odd: function 63. -/
theorem dyadic_odd_vc (a0_m_0 : Bool) (a0_m_1 : Slc) (a1_e : Int) (w : World) (R : Ending → World → Prop)
    
    (h : newC w #[Value.bool a0_m_0, a0_m_1.v] 37 fun ad1 w1 =>
    newC w1 #[Value.bool false, (⟨none, 0, 0⟩ : Slc).v, Value.int .i64 0] 76 fun ad2 w2 =>
    ldB ad1 w2 fun b1 =>
    ldS (ad1.add 1) w2 fun s1 =>
    Calls Tryd.prog 60 #[Value.agg #[Value.bool b1, s1.v]] w2 fun e1 w3 =>
    ∃ x1 : Int, e1 = .returned (Value.int .i64 x1) ∧
    (br (x1 == 0)
     (stC ad2 (Value.bool false) w3 fun w4 =>
      stC (ad2.add 1) ((⟨none, 0, 0⟩ : Slc).v) w4 fun w5 =>
      stC (ad2.add 2) (Value.int .i64 0) w5 fun w6 =>
      ldB ad2 w6 fun b2 =>
      ldS (ad2.add 1) w6 fun s2 =>
      ldI .i64 (ad2.add 2) w6 fun x2 =>
      R (.returned (Value.agg #[Value.bool b2, s2.v, Value.int .i64 x2])) w6)
     (ldS (ad1.add 1) w3 fun s3 =>
      Calls Tryd.prog 86 #[s3.v] w3 fun e2 w7 =>
      ∃ s4 : Slc, e2 = .returned s4.v ∧
      (stC (ad1.add 1) s4.v w7 fun w8 =>
       ldS (ad1.add 1) w8 fun s5 =>
       Calls Tryd.prog 87 #[s5.v] w8 fun e3 w9 =>
       ∃ x3 : Int, e3 = .returned (Value.int .i64 x3) ∧
       (br (decide (x3 > 0))
        (ldS (ad1.add 1) w9 fun s6 =>
         Calls Tryd.prog 88 #[s6.v, Value.int .i64 x3] w9 fun e4 w10 =>
         ∃ s7 : Slc, e4 = .returned s7.v ∧
         (stC (ad1.add 1) s7.v w10 fun w11 =>
          ldB ad1 w11 fun b3 =>
          ldS (ad1.add 1) w11 fun s8 =>
          stC ad2 (Value.bool b3) w11 fun w12 =>
          stC (ad2.add 1) s8.v w12 fun w13 =>
          stC (ad2.add 2) (Value.int .i64 (IntKind.i64.wrap (a1_e + x3))) w13 fun w14 =>
          ldB ad2 w14 fun b4 =>
          ldS (ad2.add 1) w14 fun s9 =>
          ldI .i64 (ad2.add 2) w14 fun x4 =>
          R (.returned (Value.agg #[Value.bool b4, s9.v, Value.int .i64 x4])) w14))
        (ldB ad1 w9 fun b5 =>
         ldS (ad1.add 1) w9 fun s10 =>
         stC ad2 (Value.bool b5) w9 fun w15 =>
         stC (ad2.add 1) s10.v w15 fun w16 =>
         stC (ad2.add 2) (Value.int .i64 (IntKind.i64.wrap (a1_e + x3))) w16 fun w17 =>
         ldB ad2 w17 fun b6 =>
         ldS (ad2.add 1) w17 fun s11 =>
         ldI .i64 (ad2.add 2) w17 fun x5 =>
         R (.returned (Value.agg #[Value.bool b6, s11.v, Value.int .i64 x5])) w17)))))) :
    Calls Tryd.prog 63 #[Value.agg #[Value.bool a0_m_0, a0_m_1.v], Value.int .i64 a1_e] w R := by
  refine calls_of_vc (fun _ => none) (by kernel_rfl) Tryd.func63 rfl ?_ ?_
  · refine kcast h ?_; kernel_rfl
  · exact (obl_seq rfl (obl_reg (obl_seq rfl (obl_seq rfl (obl_reg (obl_cond (obl_seq rfl (obl_reg (obl_ret (obl_skip (obl_seq rfl (obl_reg (obl_seq rfl (obl_reg (obl_seq rfl (obl_seq rfl (obl_reg (obl_cond (obl_reg (obl_skip (obl_seq rfl (obl_reg (obl_ret trivial)))))))))))))))))))))))

def dyadic_shifted_cut (J0 : Slc → Int → Int → Slc → Int → Int → World → Prop) (m0 : Slc → Int → Int → Slc → Int → Int → World → Nat) : Nat → Option ((Act → World → Prop) × (Act → World → Nat))
  | 0 => some (fun a_ w_ => atSz a_ 76 (atS a_ 0 fun t0 => atI .i64 a_ 7 fun t7 => atI .u64 a_ 8 fun t8 => atS a_ 9 fun t9 => atI .i64 a_ 31 fun t31 => atI .i64 a_ 32 fun t32 => J0 t0 t7 t8 t9 t31 t32 w_), fun a_ w_ => mS a_ 0 fun t0 => mI a_ 7 fun t7 => mI a_ 8 fun t8 => mS a_ 9 fun t9 => mI a_ 31 fun t31 => mI a_ 32 fun t32 => m0 t0 t7 t8 t9 t31 t32 w_)
  | _ => none

set_option maxRecDepth 100000 in
/-- surd/dyadic.shifted: function 88. -/
theorem dyadic_shifted_vc (a0 : Slc) (a1 : Int) (w : World) (R : Ending → World → Prop)
    (J0 : Slc → Int → Int → Slc → Int → Int → World → Prop) (m0 : Slc → Int → Int → Slc → Int → Int → World → Nat)
    (h : Calls Tryd.prog 108 #[a0.v, Value.int .i64 a1] w fun e1 w1 =>
    ∃ s1 : Slc, ∃ x1 : Int, e1 = .returned (Value.tuple #[s1.v, Value.int .i64 x1]) ∧
    (br (x1 == 0)
     (R (.returned s1.v) w1)
     (semS Tryd.prog (Instr.makeSlice 35 (Value.int .i64 (IntKind.i64.wrap ((a0.n : Int) - (IntKind.i64.wrap (Int.tdiv a1 64))))) (Value.int .i64 (IntKind.i64.wrap ((a0.n : Int) - (IntKind.i64.wrap (Int.tdiv a1 64)))))) w1 fun s2 w2 =>
      J0 a0 (IntKind.i64.wrap (Int.tdiv a1 64)) (IntKind.u64.wrap (Int.tmod a1 64)) s2 (s2.n : Int) 0 w2)))
    (h0 : ∀ (t0 : Slc) (t7 : Int) (t8 : Int) (t9 : Slc) (t31 : Int) (t32 : Int) (w_ : World), J0 t0 t7 t8 t9 t31 t32 w_ → 
    br (decide (t32 < t31))
    (semA Tryd.prog (Instr.indexAt 35 t0.v (Value.int .i64 (IntKind.i64.wrap (t32 + t7)))) w_ fun ad1 w3 =>
     ldI .u64 ad1 w3 fun x2 =>
     semI Tryd.prog .u64 (binOp .shr 47 (Value.int .u64 x2) (Value.int .u64 t8)) w3 fun x3 w4 =>
     semA Tryd.prog (Instr.indexAt 35 t9.v (Value.int .i64 t32)) w4 fun ad2 w5 =>
     stC ad2 (Value.int .u64 x3) w5 fun w6 =>
     br (decide (t8 > 0))
     (br (decide ((IntKind.i64.wrap ((IntKind.i64.wrap (t32 + t7)) + 1)) < (t0.n : Int)))
      (fixA Tryd.prog (Instr.indexAt 35 t9.v (Value.int .i64 t32)) w6 fun ad3 =>
       ldI .u64 ad3 w6 fun x4 =>
       fixA Tryd.prog (Instr.indexAt 35 t0.v (Value.int .i64 (IntKind.i64.wrap ((IntKind.i64.wrap (t32 + t7)) + 1)))) w6 fun ad4 =>
       ldI .u64 ad4 w6 fun x5 =>
       fixI Tryd.prog .u64 (binOp .shl 47 (Value.int .u64 x5) (Value.int .u64 (IntKind.u64.wrap (64 - t8)))) w6 fun x6 =>
       fixA Tryd.prog (Instr.indexAt 35 t9.v (Value.int .i64 t32)) w6 fun ad5 =>
       stC ad5 (Value.int .u64 (orI .u64 x4 x6)) w6.drew fun w7 =>
       J0 t0 t7 t8 t9 t31 (IntKind.i64.wrap (t32 + 1)) w7 ∧
       m0 t0 t7 t8 t9 t31 (IntKind.i64.wrap (t32 + 1)) w7 < m0 t0 t7 t8 t9 t31 t32 w_)
      (J0 t0 t7 t8 t9 t31 (IntKind.i64.wrap (t32 + 1)) w6 ∧
       m0 t0 t7 t8 t9 t31 (IntKind.i64.wrap (t32 + 1)) w6 < m0 t0 t7 t8 t9 t31 t32 w_))
     (J0 t0 t7 t8 t9 t31 (IntKind.i64.wrap (t32 + 1)) w6 ∧
      m0 t0 t7 t8 t9 t31 (IntKind.i64.wrap (t32 + 1)) w6 < m0 t0 t7 t8 t9 t31 t32 w_))
    (Calls Tryd.prog 86 #[t9.v] w_ fun e2 w8 =>
     ∃ s3 : Slc, e2 = .returned s3.v ∧
     (R (.returned s3.v) w8))) :
    Calls Tryd.prog 88 #[a0.v, Value.int .i64 a1] w R := by
  refine calls_of_vc (dyadic_shifted_cut J0 m0) (by kernel_rfl) Tryd.func88 rfl ?_ ?_
  · refine kcast h ?_; kernel_rfl
  · exact (obl_seq rfl (obl_reg (obl_seq rfl (obl_reg (obl_seq rfl (obl_seq rfl (obl_reg (obl_cond (obl_seq rfl (obl_reg (obl_ret (obl_skip (obl_seq rfl (obl_reg (obl_seq rfl (obl_reg (obl_seq rfl (obl_seq rfl (obl_reg (obl_loop _ rfl (fun a_ w_ hL_ => (by
    obtain ⟨hz_, hd_, hL_⟩ := atSz_out hL_
    obtain ⟨t0, h0_, hL_⟩ := atS_out hL_
    obtain ⟨t7, h7_, hL_⟩ := atI_out hL_
    obtain ⟨t8, h8_, hL_⟩ := atI_out hL_
    obtain ⟨t9, h9_, hL_⟩ := atS_out hL_
    obtain ⟨t31, h31_, hL_⟩ := atI_out hL_
    obtain ⟨t32, h32_, hL_⟩ := atI_out hL_
    obtain ⟨g0, rfl⟩ : ∃ g, a_ = Fr 76 [(0, t0.v), (7, Value.int .i64 t7), (8, Value.int .u64 t8), (9, t9.v), (31, Value.int .i64 t31), (32, Value.int .i64 t32)] g := ⟨_, fr_of hz_ hd_ [(0, t0.v), (7, Value.int .i64 t7), (8, Value.int .u64 t8), (9, t9.v), (31, Value.int .i64 t31), (32, Value.int .i64 t32)] (sel_cons h0_ (sel_cons h7_ (sel_cons h8_ (sel_cons h9_ (sel_cons h31_ (sel_cons h32_ sel_nil))))))⟩
    clear hz_ hd_ h0_ h7_ h8_ h9_ h31_ h32_
    have hJ0_ := hL_
    refine ⟨(fun _ => none), kcast (h0 t0 t7 t8 t9 t31 t32 w_ hJ0_) ?_, ?_⟩
    · kernel_rfl
    · exact (obl_seq rfl (obl_reg (obl_seq rfl (obl_cond (obl_skip (obl_exit (obl_seq rfl (obl_blk rfl (obl_seq rfl (obl_reg (obl_seq rfl (obl_reg (obl_seq rfl (obl_reg (obl_cond (obl_tail 16 (by kernel_rfl) (by kernel_rfl) (by kernel_rfl) (by kernel_rfl) (by kernel_rfl) (obl_skip (obl_reg trivial)))))))))))))))))))) (obl_seq rfl (obl_reg (obl_ret trivial)))))))))))))))))))))))

set_option maxRecDepth 100000 in
/-- surd/dyadic.told: function 42. -/
theorem dyadic_told_vc (a0_m_0 : Bool) (a0_m_1 : Slc) (a1_e : Int) (w : World) (R : Ending → World → Prop)
    
    (h : newC w #[Value.bool a0_m_0, a0_m_1.v] 37 fun ad1 w1 =>
    newC w1 #[Value.bool false, (⟨none, 0, 0⟩ : Slc).v, Value.int .i64 0] 39 fun ad2 w2 =>
    ldB ad1 w2 fun b1 =>
    ldS (ad1.add 1) w2 fun s1 =>
    Calls Tryd.prog 63 #[Value.agg #[Value.bool b1, s1.v], Value.int .i64 a1_e] w2 fun e1 w3 =>
    ∃ b2 : Bool, ∃ s2 : Slc, ∃ x1 : Int, e1 = .returned (Value.agg #[Value.bool b2, s2.v, Value.int .i64 x1]) ∧
    (newC w3 #[Value.bool false, (⟨none, 0, 0⟩ : Slc).v, Value.int .i64 0] 76 fun ad3 w4 =>
     stC ad3 (Value.bool b2) w4 fun w5 =>
     stC (ad3.add 1) s2.v w5 fun w6 =>
     stC (ad3.add 2) (Value.int .i64 x1) w6 fun w7 =>
     ldB ad3 w7 fun b3 =>
     ldS (ad3.add 1) w7 fun s3 =>
     Calls Tryd.prog 64 #[Value.agg #[Value.bool b3, s3.v]] w7 fun e2 w8 =>
     ∃ x2 : Int, e2 = .returned (Value.int .i64 x2) ∧
     (br (x2 == 0)
      (stC ad2 (Value.bool false) w8 fun w9 =>
       stC (ad2.add 1) ((⟨none, 0, 0⟩ : Slc).v) w9 fun w10 =>
       stC (ad2.add 2) (Value.int .i64 0) w10 fun w11 =>
       ldB ad2 w11 fun b4 =>
       ldS (ad2.add 1) w11 fun s4 =>
       ldI .i64 (ad2.add 2) w11 fun x3 =>
       R (.returned (Value.tuple #[Value.agg #[Value.bool b4, s4.v, Value.int .i64 x3], Value.int .i64 0])) w11)
      (ldB ad3 w8 fun b5 =>
       ldS (ad3.add 1) w8 fun s5 =>
       Calls Tryd.prog 68 #[Value.agg #[Value.bool b5, s5.v]] w8 fun e3 w12 =>
       ∃ x4 : Int, e3 = .returned (Value.int .i64 x4) ∧
       (br (decide (x4 > 67108864))
        (stC ad2 (Value.bool false) w12 fun w13 =>
         stC (ad2.add 1) ((⟨none, 0, 0⟩ : Slc).v) w13 fun w14 =>
         stC (ad2.add 2) (Value.int .i64 0) w14 fun w15 =>
         ldB ad2 w15 fun b6 =>
         ldS (ad2.add 1) w15 fun s6 =>
         ldI .i64 (ad2.add 2) w15 fun x5 =>
         R (.returned (Value.tuple #[Value.agg #[Value.bool b6, s6.v, Value.int .i64 x5], Value.int .i64 3])) w15)
        (ldI .i64 (ad3.add 2) w12 fun x6 =>
         Calls Tryd.prog 37 #[Value.int .i64 x6] w12 fun e4 w16 =>
         ∃ b7 : Bool, e4 = .returned (Value.bool b7) ∧
         (br (!b7)
          (stC ad2 (Value.bool false) w16 fun w17 =>
           stC (ad2.add 1) ((⟨none, 0, 0⟩ : Slc).v) w17 fun w18 =>
           stC (ad2.add 2) (Value.int .i64 0) w18 fun w19 =>
           ldB ad2 w19 fun b8 =>
           ldS (ad2.add 1) w19 fun s7 =>
           ldI .i64 (ad2.add 2) w19 fun x7 =>
           R (.returned (Value.tuple #[Value.agg #[Value.bool b8, s7.v, Value.int .i64 x7], Value.int .i64 80])) w19)
          (ldB ad3 w16 fun b9 =>
           ldS (ad3.add 1) w16 fun s8 =>
           ldI .i64 (ad3.add 2) w16 fun x8 =>
           stC ad2 (Value.bool b9) w16 fun w20 =>
           stC (ad2.add 1) s8.v w20 fun w21 =>
           stC (ad2.add 2) (Value.int .i64 x8) w21 fun w22 =>
           ldB ad2 w22 fun b10 =>
           ldS (ad2.add 1) w22 fun s9 =>
           ldI .i64 (ad2.add 2) w22 fun x9 =>
           R (.returned (Value.tuple #[Value.agg #[Value.bool b10, s9.v, Value.int .i64 x9], Value.int .i64 0])) w22)))))))) :
    Calls Tryd.prog 42 #[Value.agg #[Value.bool a0_m_0, a0_m_1.v], Value.int .i64 a1_e] w R := by
  refine calls_of_vc (fun _ => none) (by kernel_rfl) Tryd.func42 rfl ?_ ?_
  · refine kcast h ?_; kernel_rfl
  · exact (obl_seq rfl (obl_reg (obl_seq rfl (obl_reg (obl_seq rfl (obl_blk rfl (obl_seq rfl (obl_reg (obl_cond (obl_seq rfl (obl_reg (obl_ret (obl_seq rfl (obl_reg (obl_cond (obl_seq rfl (obl_reg (obl_ret (obl_seq rfl (obl_reg (obl_cond (obl_seq rfl (obl_reg (obl_ret (obl_skip (obl_seq rfl (obl_reg (obl_ret trivial))))))))))))))))))))))))))))

set_option maxRecDepth 100000 in
/-- surd/dyadic.read: function 36. -/
theorem dyadic_read_vc (a0_a_0 : Bool) (a0_a_1 : Slc) (a0_a_2 : Int) (w : World) (R : Ending → World → Prop)
    
    (h : newC w #[Value.bool a0_a_0, a0_a_1.v, Value.int .i64 a0_a_2] 39 fun ad1 w1 =>
    newC w1 #[Value.bool false, (⟨none, 0, 0⟩ : Slc).v, Value.int .i64 0] 76 fun ad2 w2 =>
    ldI .i64 (ad1.add 2) w2 fun x1 =>
    Calls Tryd.prog 37 #[Value.int .i64 x1] w2 fun e1 w3 =>
    ∃ b1 : Bool, e1 = .returned (Value.bool b1) ∧
    (br (!b1)
     (stC ad2 (Value.bool false) w3 fun w4 =>
      stC (ad2.add 1) ((⟨none, 0, 0⟩ : Slc).v) w4 fun w5 =>
      stC (ad2.add 2) (Value.int .i64 0) w5 fun w6 =>
      ldB ad2 w6 fun b2 =>
      ldS (ad2.add 1) w6 fun s1 =>
      ldI .i64 (ad2.add 2) w6 fun x2 =>
      R (.returned (Value.tuple #[Value.agg #[Value.bool b2, s1.v, Value.int .i64 x2], Value.int .i64 80])) w6)
     (ldB ad1 w3 fun b3 =>
      ldS (ad1.add 1) w3 fun s2 =>
      ldI .i64 (ad1.add 2) w3 fun x3 =>
      Calls Tryd.prog 63 #[Value.agg #[Value.bool b3, s2.v], Value.int .i64 x3] w3 fun e2 w7 =>
      ∃ b4 : Bool, ∃ s3 : Slc, ∃ x4 : Int, e2 = .returned (Value.agg #[Value.bool b4, s3.v, Value.int .i64 x4]) ∧
      (stC ad2 (Value.bool b4) w7 fun w8 =>
       stC (ad2.add 1) s3.v w8 fun w9 =>
       stC (ad2.add 2) (Value.int .i64 x4) w9 fun w10 =>
       ldB ad2 w10 fun b5 =>
       ldS (ad2.add 1) w10 fun s4 =>
       ldI .i64 (ad2.add 2) w10 fun x5 =>
       R (.returned (Value.tuple #[Value.agg #[Value.bool b5, s4.v, Value.int .i64 x5], Value.int .i64 0])) w10)))) :
    Calls Tryd.prog 36 #[Value.agg #[Value.bool a0_a_0, a0_a_1.v, Value.int .i64 a0_a_2]] w R := by
  refine calls_of_vc (fun _ => none) (by kernel_rfl) Tryd.func36 rfl ?_ ?_
  · refine kcast h ?_; kernel_rfl
  · exact (obl_seq rfl (obl_reg (obl_seq rfl (obl_seq rfl (obl_reg (obl_cond (obl_seq rfl (obl_reg (obl_ret (obl_skip (obl_seq rfl (obl_reg (obl_ret trivial)))))))))))))

set_option maxRecDepth 100000 in
/-- surd/dyadic.Make: function 33. -/
theorem dyadic_Make_vc (a0_m_0 : Bool) (a0_m_1 : Slc) (a1_e : Int) (w : World) (R : Ending → World → Prop)
    
    (h : newC w #[Value.bool a0_m_0, a0_m_1.v] 37 fun ad1 w1 =>
    newC w1 #[Value.bool false, (⟨none, 0, 0⟩ : Slc).v, Value.int .i64 0] 39 fun ad2 w2 =>
    Calls Tryd.prog 37 #[Value.int .i64 a1_e] w2 fun e1 w3 =>
    ∃ b1 : Bool, e1 = .returned (Value.bool b1) ∧
    (br (!b1)
     (stC ad2 (Value.bool false) w3 fun w4 =>
      stC (ad2.add 1) ((⟨none, 0, 0⟩ : Slc).v) w4 fun w5 =>
      stC (ad2.add 2) (Value.int .i64 0) w5 fun w6 =>
      ldB ad2 w6 fun b2 =>
      ldS (ad2.add 1) w6 fun s1 =>
      ldI .i64 (ad2.add 2) w6 fun x1 =>
      R (.returned (Value.tuple #[Value.agg #[Value.bool b2, s1.v, Value.int .i64 x1], Value.int .i64 1])) w6)
     (ldB ad1 w3 fun b3 =>
      ldS (ad1.add 1) w3 fun s2 =>
      Calls Tryd.prog 42 #[Value.agg #[Value.bool b3, s2.v], Value.int .i64 a1_e] w3 fun e2 w7 =>
      ∃ b4 : Bool, ∃ s3 : Slc, ∃ x2 : Int, ∃ x3 : Int, e2 = .returned (Value.tuple #[Value.agg #[Value.bool b4, s3.v, Value.int .i64 x2], Value.int .i64 x3]) ∧
      (stC ad2 (Value.bool b4) w7 fun w8 =>
       stC (ad2.add 1) s3.v w8 fun w9 =>
       stC (ad2.add 2) (Value.int .i64 x2) w9 fun w10 =>
       ldB ad2 w10 fun b5 =>
       ldS (ad2.add 1) w10 fun s4 =>
       ldI .i64 (ad2.add 2) w10 fun x4 =>
       R (.returned (Value.tuple #[Value.agg #[Value.bool b5, s4.v, Value.int .i64 x4], Value.int .i64 x3])) w10)))) :
    Calls Tryd.prog 33 #[Value.agg #[Value.bool a0_m_0, a0_m_1.v], Value.int .i64 a1_e] w R := by
  refine calls_of_vc (fun _ => none) (by kernel_rfl) Tryd.func33 rfl ?_ ?_
  · refine kcast h ?_; kernel_rfl
  · exact (obl_seq rfl (obl_reg (obl_seq rfl (obl_seq rfl (obl_reg (obl_cond (obl_seq rfl (obl_reg (obl_ret (obl_skip (obl_seq rfl (obl_reg (obl_ret trivial)))))))))))))

set_option maxRecDepth 100000 in
/-- surd/dyadic.within: function 37. -/
theorem dyadic_within_vc (a0_n : Int) (w : World) (R : Ending → World → Prop)
    
    (h : br (decide (a0_n ≥ (-1099511627776)))
    (R (.returned (Value.bool (decide (a0_n ≤ 1099511627776)))) w)
    (R (.returned (Value.bool false)) w)) :
    Calls Tryd.prog 37 #[Value.int .i64 a0_n] w R := by
  refine calls_of_vc (fun _ => none) (by kernel_rfl) Tryd.func37 rfl ?_ ?_
  · refine kcast h ?_; kernel_rfl
  · exact (obl_seq rfl (obl_reg (obl_seq rfl (obl_reg (obl_ret trivial)))))

set_option maxRecDepth 100000 in
/-- surd/whole.Sign: function 60. -/
theorem whole_Sign_vc (a0_a_0 : Bool) (a0_a_1 : Slc) (w : World) (R : Ending → World → Prop)
    
    (h : newC w #[Value.bool a0_a_0, a0_a_1.v] 37 fun ad1 w1 =>
    ldS (ad1.add 1) w1 fun s1 =>
    Calls Tryd.prog 85 #[s1.v] w1 fun e1 w2 =>
    ∃ x1 : Int, e1 = .returned (Value.int .i64 x1) ∧
    (br (x1 == 0)
     (R (.returned (Value.int .i64 0)) w2)
     (ldB ad1 w2 fun b1 =>
      br b1
      (R (.returned (Value.int .i64 (-1))) w2)
      (R (.returned (Value.int .i64 1)) w2)))) :
    Calls Tryd.prog 60 #[Value.agg #[Value.bool a0_a_0, a0_a_1.v]] w R := by
  refine calls_of_vc (fun _ => none) (by kernel_rfl) Tryd.func60 rfl ?_ ?_
  · refine kcast h ?_; kernel_rfl
  · exact (obl_seq rfl (obl_reg (obl_seq rfl (obl_blk rfl (obl_seq rfl (obl_reg (obl_cond (obl_seq rfl (obl_reg (obl_ret (obl_seq rfl (obl_reg (obl_cond (obl_seq rfl (obl_reg (obl_ret (obl_skip (obl_seq rfl (obl_reg (obl_ret trivial))))))))))))))))))))

set_option maxRecDepth 100000 in
/-- surd/whole.Make: function 79. -/
theorem whole_Make_vc (a0_neg : Bool) (a1_n : Slc) (w : World) (R : Ending → World → Prop)
    
    (h : newC w #[Value.bool false, (⟨none, 0, 0⟩ : Slc).v] 37 fun ad1 w1 =>
    Calls Tryd.prog 95 #[Value.agg #[Value.bool a0_neg, a1_n.v]] w1 fun e1 w2 =>
    ∃ b1 : Bool, ∃ s1 : Slc, ∃ x1 : Int, e1 = .returned (Value.tuple #[Value.agg #[Value.bool b1, s1.v], Value.int .i64 x1]) ∧
    (stC ad1 (Value.bool b1) w2 fun w3 =>
     stC (ad1.add 1) s1.v w3 fun w4 =>
     ldB ad1 w4 fun b2 =>
     ldS (ad1.add 1) w4 fun s2 =>
     R (.returned (Value.tuple #[Value.agg #[Value.bool b2, s2.v], Value.int .i64 x1])) w4)) :
    Calls Tryd.prog 79 #[Value.bool a0_neg, a1_n.v] w R := by
  refine calls_of_vc (fun _ => none) (by kernel_rfl) Tryd.func79 rfl ?_ ?_
  · refine kcast h ?_; kernel_rfl
  · exact (obl_seq rfl (obl_reg (obl_seq rfl (obl_reg (obl_ret trivial)))))

set_option maxRecDepth 100000 in
/-- surd/whole.Add: function 82. -/
theorem whole_Add_vc (a0_a_0 : Bool) (a0_a_1 : Slc) (a1_b_0 : Bool) (a1_b_1 : Slc) (w : World) (R : Ending → World → Prop)
    
    (h : newC w #[Value.bool a0_a_0, a0_a_1.v] 37 fun ad1 w1 =>
    newC w1 #[Value.bool a1_b_0, a1_b_1.v] 37 fun ad2 w2 =>
    newC w2 #[Value.bool false, (⟨none, 0, 0⟩ : Slc).v] 37 fun ad3 w3 =>
    ∃ V1 : Nat → Nat → Prop, Out (V1 0) ad1 (ldB ad1 w3.drew fun b1 =>
     ldS (ad1.add 1) w3.drew fun s1 =>
     Out (V1 2) ad2 (ldB ad2 w3.drew fun b2 =>
      ldS (ad2.add 1) w3.drew fun s2 =>
      Calls Tryd.prog 101 #[Value.agg #[Value.bool b1, s1.v]] w3.drew fun e1 w4 =>
      ∃ b3 : Bool, ∃ s3 : Slc, e1 = .returned (Value.agg #[Value.bool b3, s3.v]) ∧
      (Bar (V1 2) w3.drew w4 ∧
       (Calls Tryd.prog 101 #[Value.agg #[Value.bool b2, s2.v]] w4 fun e2 w5 =>
        ∃ b4 : Bool, ∃ s4 : Slc, e2 = .returned (Value.agg #[Value.bool b4, s4.v]) ∧
        (stC ad1 (Value.bool b3) w5 fun w6 =>
         stC (ad1.add 1) s3.v w6 fun w7 =>
         stC ad2 (Value.bool b4) w7 fun w8 =>
         stC (ad2.add 1) s4.v w8 fun w9 =>
         ldB ad1 w9 fun b5 =>
         ldB ad2 w9 fun b6 =>
         br (b5 == b6)
         (ldS (ad1.add 1) w9 fun s5 =>
          ldS (ad2.add 1) w9 fun s6 =>
          Calls Tryd.prog 102 #[s5.v, s6.v] w9 fun e3 w10 =>
          ∃ s7 : Slc, ∃ x1 : Int, e3 = .returned (Value.tuple #[s7.v, Value.int .i64 x1]) ∧
          (ldB ad1 w10 fun b7 =>
           Calls Tryd.prog 67 #[Value.bool b7, s7.v, Value.int .i64 x1] w10 fun e4 w11 =>
           ∃ b8 : Bool, ∃ s8 : Slc, ∃ x2 : Int, e4 = .returned (Value.tuple #[Value.agg #[Value.bool b8, s8.v], Value.int .i64 x2]) ∧
           (stC ad3 (Value.bool b8) w11 fun w12 =>
            stC (ad3.add 1) s8.v w12 fun w13 =>
            ldB ad3 w13 fun b9 =>
            ldS (ad3.add 1) w13 fun s9 =>
            R (.returned (Value.tuple #[Value.agg #[Value.bool b9, s9.v], Value.int .i64 x2])) w13)))
         (ldS (ad1.add 1) w9 fun s10 =>
          ldS (ad2.add 1) w9 fun s11 =>
          Calls Tryd.prog 83 #[s10.v, s11.v] w9 fun e5 w14 =>
          ∃ x3 : Int, e5 = .returned (Value.int .i64 x3) ∧
          (br (decide (x3 < 0))
           (ldB ad2 w14 fun b10 =>
            ldS (ad2.add 1) w14 fun s12 =>
            ldB ad1 w14 fun b11 =>
            ldS (ad1.add 1) w14 fun s13 =>
            stC ad1 (Value.bool b10) w14 fun w15 =>
            stC (ad1.add 1) s12.v w15 fun w16 =>
            stC ad2 (Value.bool b11) w16 fun w17 =>
            stC (ad2.add 1) s13.v w17 fun w18 =>
            ldS (ad1.add 1) w18 fun s14 =>
            ldS (ad2.add 1) w18 fun s15 =>
            Calls Tryd.prog 103 #[s14.v, s15.v] w18 fun e6 w19 =>
            ∃ s16 : Slc, ∃ x4 : Int, e6 = .returned (Value.tuple #[s16.v, Value.int .i64 x4]) ∧
            (ldB ad1 w19 fun b12 =>
             Calls Tryd.prog 67 #[Value.bool b12, s16.v, Value.int .i64 x4] w19 fun e7 w20 =>
             ∃ b13 : Bool, ∃ s17 : Slc, ∃ x5 : Int, e7 = .returned (Value.tuple #[Value.agg #[Value.bool b13, s17.v], Value.int .i64 x5]) ∧
             (stC ad3 (Value.bool b13) w20 fun w21 =>
              stC (ad3.add 1) s17.v w21 fun w22 =>
              ldB ad3 w22 fun b14 =>
              ldS (ad3.add 1) w22 fun s18 =>
              R (.returned (Value.tuple #[Value.agg #[Value.bool b14, s18.v], Value.int .i64 x5])) w22)))
           (ldS (ad1.add 1) w14 fun s19 =>
            ldS (ad2.add 1) w14 fun s20 =>
            Calls Tryd.prog 103 #[s19.v, s20.v] w14 fun e8 w23 =>
            ∃ s21 : Slc, ∃ x6 : Int, e8 = .returned (Value.tuple #[s21.v, Value.int .i64 x6]) ∧
            (ldB ad1 w23 fun b15 =>
             Calls Tryd.prog 67 #[Value.bool b15, s21.v, Value.int .i64 x6] w23 fun e9 w24 =>
             ∃ b16 : Bool, ∃ s22 : Slc, ∃ x7 : Int, e9 = .returned (Value.tuple #[Value.agg #[Value.bool b16, s22.v], Value.int .i64 x7]) ∧
             (stC ad3 (Value.bool b16) w24 fun w25 =>
              stC (ad3.add 1) s22.v w25 fun w26 =>
              ldB ad3 w26 fun b17 =>
              ldS (ad3.add 1) w26 fun s23 =>
              R (.returned (Value.tuple #[Value.agg #[Value.bool b17, s23.v], Value.int .i64 x7])) w26))))))))))) :
    Calls Tryd.prog 82 #[Value.agg #[Value.bool a0_a_0, a0_a_1.v], Value.agg #[Value.bool a1_b_0, a1_b_1.v]] w R := by
  refine calls_of_vc (marks [2000001] (fun _ => none)) (by kernel_rfl) Tryd.func82 rfl ?_ ?_
  · refine kcast h ?_; kernel_rfl
  · exact (obl_seq rfl (obl_reg (obl_seq rfl (obl_store _ rfl (by kernel_rfl) (obl_seq rfl (obl_seq rfl (obl_reg (obl_cond (obl_seq rfl (obl_reg (obl_seq rfl (obl_reg (obl_ret (obl_skip (obl_seq rfl (obl_seq rfl (obl_reg (obl_cond (obl_reg (obl_skip (obl_seq rfl (obl_reg (obl_seq rfl (obl_reg (obl_ret trivial)))))))))))))))))))))))))

set_option maxRecDepth 100000 in
/-- (surd/dyadic.part).sign: function 64. -/
theorem dyadic_part_sign_vc (a0_p_0 : Bool) (a0_p_1 : Slc) (w : World) (R : Ending → World → Prop)
    
    (h : newC w #[Value.bool a0_p_0, a0_p_1.v] 74 fun ad1 w1 =>
    ldB ad1 w1 fun b1 =>
    ldS (ad1.add 1) w1 fun s1 =>
    Calls Tryd.prog 60 #[Value.agg #[Value.bool b1, s1.v]] w1 fun e1 w2 =>
    ∃ x1 : Int, e1 = .returned (Value.int .i64 x1) ∧
    (R (.returned (Value.int .i64 x1)) w2)) :
    Calls Tryd.prog 64 #[Value.agg #[Value.bool a0_p_0, a0_p_1.v]] w R := by
  refine calls_of_vc (fun _ => none) (by kernel_rfl) Tryd.func64 rfl ?_ ?_
  · refine kcast h ?_; kernel_rfl
  · exact (obl_seq rfl (obl_reg (obl_seq rfl (obl_reg (obl_ret trivial)))))

set_option maxRecDepth 100000 in
/-- (surd/dyadic.part).length: function 68. -/
theorem dyadic_part_length_vc (a0_p_0 : Bool) (a0_p_1 : Slc) (w : World) (R : Ending → World → Prop)
    
    (h : newC w #[Value.bool a0_p_0, a0_p_1.v] 74 fun ad1 w1 =>
    ldS (ad1.add 1) w1 fun s1 =>
    Calls Tryd.prog 85 #[s1.v] w1 fun e1 w2 =>
    ∃ x1 : Int, e1 = .returned (Value.int .i64 x1) ∧
    (R (.returned (Value.int .i64 x1)) w2)) :
    Calls Tryd.prog 68 #[Value.agg #[Value.bool a0_p_0, a0_p_1.v]] w R := by
  refine calls_of_vc (fun _ => none) (by kernel_rfl) Tryd.func68 rfl ?_ ?_
  · refine kcast h ?_; kernel_rfl
  · exact (obl_seq rfl (obl_reg (obl_seq rfl (obl_reg (obl_ret trivial)))))

set_option maxRecDepth 100000 in
/-- (surd/dyadic.number).top: function 78. -/
theorem dyadic_number_top_vc (a0_n_0 : Bool) (a0_n_1 : Slc) (a0_n_2 : Int) (w : World) (R : Ending → World → Prop)
    
    (h : newC w #[Value.bool a0_n_0, a0_n_1.v, Value.int .i64 a0_n_2] 76 fun ad1 w1 =>
    ldI .i64 (ad1.add 2) w1.drew fun x1 =>
    ldB ad1 w1.drew fun b1 =>
    ldS (ad1.add 1) w1.drew fun s1 =>
    Calls Tryd.prog 68 #[Value.agg #[Value.bool b1, s1.v]] w1.drew fun e1 w2 =>
    ∃ x2 : Int, e1 = .returned (Value.int .i64 x2) ∧
    (Ahead w1.drew w2 ∧
     (R (.returned (Value.int .i64 (IntKind.i64.wrap ((IntKind.i64.wrap (x1 + x2)) - 1)))) w2))) :
    Calls Tryd.prog 78 #[Value.agg #[Value.bool a0_n_0, a0_n_1.v, Value.int .i64 a0_n_2]] w R := by
  refine calls_of_vc (fun _ => none) (by kernel_rfl) Tryd.func78 rfl ?_ ?_
  · refine kcast h ?_; kernel_rfl
  · exact (obl_seq rfl (obl_reg (obl_seq rfl (obl_held (by kernel_rfl) (by kernel_rfl) (by kernel_rfl) (obl_ret trivial)))))

def dyadic_left_cut (J0 : Int → Int → Slc → Slc → Int → Int → World → Prop) (m0 : Int → Int → Slc → Slc → Int → Int → World → Nat) : Nat → Option ((Act → World → Prop) × (Act → World → Nat))
  | 0 => some (fun a_ w_ => atSz a_ 65 (atI .i64 a_ 7 fun t7 => atI .u64 a_ 8 fun t8 => atS a_ 9 fun t9 => atS a_ 32 fun t32 => atI .i64 a_ 33 fun t33 => atI .i64 a_ 34 fun t34 => J0 t7 t8 t9 t32 t33 t34 w_), fun a_ w_ => mI a_ 7 fun t7 => mI a_ 8 fun t8 => mS a_ 9 fun t9 => mS a_ 32 fun t32 => mI a_ 33 fun t33 => mI a_ 34 fun t34 => m0 t7 t8 t9 t32 t33 t34 w_)
  | _ => none

set_option maxRecDepth 100000 in
/-- surd/dyadic.left: function 80. -/
theorem dyadic_left_vc (a0 : Slc) (a1 : Int) (w : World) (R : Ending → World → Prop)
    (J0 : Int → Int → Slc → Slc → Int → Int → World → Prop) (m0 : Int → Int → Slc → Slc → Int → Int → World → Nat)
    (h : Calls Tryd.prog 99 #[a0.v, Value.int .i64 a1] w fun e1 w1 =>
    ∃ s1 : Slc, ∃ x1 : Int, e1 = .returned (Value.tuple #[s1.v, Value.int .i64 x1]) ∧
    (br (x1 == 0)
     (R (.returned s1.v) w1)
     (semS Tryd.prog (Instr.makeSlice 35 (Value.int .i64 (IntKind.i64.wrap ((IntKind.i64.wrap ((a0.n : Int) + (IntKind.i64.wrap (Int.tdiv a1 64)))) + 1))) (Value.int .i64 (IntKind.i64.wrap ((IntKind.i64.wrap ((a0.n : Int) + (IntKind.i64.wrap (Int.tdiv a1 64)))) + 1)))) w1 fun s2 w2 =>
      J0 (IntKind.i64.wrap (Int.tdiv a1 64)) (IntKind.u64.wrap (Int.tmod a1 64)) s2 a0 (a0.n : Int) 0 w2)))
    (h0 : ∀ (t7 : Int) (t8 : Int) (t9 : Slc) (t32 : Slc) (t33 : Int) (t34 : Int) (w_ : World), J0 t7 t8 t9 t32 t33 t34 w_ → 
    br (decide (t34 < t33))
    (semA Tryd.prog (Instr.indexAt 35 t32.v (Value.int .i64 t34)) w_ fun ad1 w3 =>
     ldI .u64 ad1 w3 fun x2 =>
     semA Tryd.prog (Instr.indexAt 35 t9.v (Value.int .i64 (IntKind.i64.wrap (t34 + t7)))) w3 fun ad2 w4 =>
     ldI .u64 ad2 w4 fun x3 =>
     semI Tryd.prog .u64 (binOp .shl 47 (Value.int .u64 x2) (Value.int .u64 t8)) w4 fun x4 w5 =>
     semA Tryd.prog (Instr.indexAt 35 t9.v (Value.int .i64 (IntKind.i64.wrap (t34 + t7)))) w5 fun ad3 w6 =>
     stC ad3 (Value.int .u64 (orI .u64 x3 x4)) w6 fun w7 =>
     br (decide (t8 > 0))
     (semI Tryd.prog .u64 (binOp .shr 47 (Value.int .u64 x2) (Value.int .u64 (IntKind.u64.wrap (64 - t8)))) w7 fun x5 w8 =>
      semA Tryd.prog (Instr.indexAt 35 t9.v (Value.int .i64 (IntKind.i64.wrap ((IntKind.i64.wrap (t34 + t7)) + 1)))) w8 fun ad4 w9 =>
      stC ad4 (Value.int .u64 x5) w9 fun w10 =>
      J0 t7 t8 t9 t32 t33 (IntKind.i64.wrap (t34 + 1)) w10 ∧
      m0 t7 t8 t9 t32 t33 (IntKind.i64.wrap (t34 + 1)) w10 < m0 t7 t8 t9 t32 t33 t34 w_)
     (J0 t7 t8 t9 t32 t33 (IntKind.i64.wrap (t34 + 1)) w7 ∧
      m0 t7 t8 t9 t32 t33 (IntKind.i64.wrap (t34 + 1)) w7 < m0 t7 t8 t9 t32 t33 t34 w_))
    (Calls Tryd.prog 86 #[t9.v] w_ fun e2 w11 =>
     ∃ s3 : Slc, e2 = .returned s3.v ∧
     (R (.returned s3.v) w11))) :
    Calls Tryd.prog 80 #[a0.v, Value.int .i64 a1] w R := by
  refine calls_of_vc (dyadic_left_cut J0 m0) (by kernel_rfl) Tryd.func80 rfl ?_ ?_
  · refine kcast h ?_; kernel_rfl
  · exact (obl_seq rfl (obl_reg (obl_seq rfl (obl_reg (obl_seq rfl (obl_seq rfl (obl_reg (obl_cond (obl_seq rfl (obl_reg (obl_ret (obl_skip (obl_seq rfl (obl_reg (obl_seq rfl (obl_reg (obl_seq rfl (obl_seq rfl (obl_reg (obl_loop _ rfl (fun a_ w_ hL_ => (by
    obtain ⟨hz_, hd_, hL_⟩ := atSz_out hL_
    obtain ⟨t7, h7_, hL_⟩ := atI_out hL_
    obtain ⟨t8, h8_, hL_⟩ := atI_out hL_
    obtain ⟨t9, h9_, hL_⟩ := atS_out hL_
    obtain ⟨t32, h32_, hL_⟩ := atS_out hL_
    obtain ⟨t33, h33_, hL_⟩ := atI_out hL_
    obtain ⟨t34, h34_, hL_⟩ := atI_out hL_
    obtain ⟨g0, rfl⟩ : ∃ g, a_ = Fr 65 [(7, Value.int .i64 t7), (8, Value.int .u64 t8), (9, t9.v), (32, t32.v), (33, Value.int .i64 t33), (34, Value.int .i64 t34)] g := ⟨_, fr_of hz_ hd_ [(7, Value.int .i64 t7), (8, Value.int .u64 t8), (9, t9.v), (32, t32.v), (33, Value.int .i64 t33), (34, Value.int .i64 t34)] (sel_cons h7_ (sel_cons h8_ (sel_cons h9_ (sel_cons h32_ (sel_cons h33_ (sel_cons h34_ sel_nil))))))⟩
    clear hz_ hd_ h7_ h8_ h9_ h32_ h33_ h34_
    have hJ0_ := hL_
    refine ⟨(fun _ => none), kcast (h0 t7 t8 t9 t32 t33 t34 w_ hJ0_) ?_, ?_⟩
    · kernel_rfl
    · exact (obl_seq rfl (obl_reg (obl_seq rfl (obl_cond (obl_skip (obl_exit (obl_seq rfl (obl_blk rfl (obl_seq rfl (obl_reg (obl_seq rfl (obl_reg (obl_seq rfl (obl_reg (obl_cond (obl_reg (obl_skip (obl_reg trivial)))))))))))))))))))) (obl_seq rfl (obl_reg (obl_ret trivial)))))))))))))))))))))))

def dyadic_plus_cut (J0 : Slc → Slc → Slc → Int → Int → Int → World → Prop) (m0 : Slc → Slc → Slc → Int → Int → Int → World → Nat) : Nat → Option ((Act → World → Prop) × (Act → World → Nat))
  | 0 => some (fun a_ w_ => atSz a_ 51 (atS a_ 0 fun t0_a => atS a_ 1 fun t1_b => atS a_ 5 fun t5_out => atI .u64 a_ 6 fun t6_carry => atI .i64 a_ 20 fun t20 => atI .i64 a_ 21 fun t21 => J0 t0_a t1_b t5_out t6_carry t20 t21 w_), fun a_ w_ => mS a_ 0 fun t0_a => mS a_ 1 fun t1_b => mS a_ 5 fun t5_out => mI a_ 6 fun t6_carry => mI a_ 20 fun t20 => mI a_ 21 fun t21 => m0 t0_a t1_b t5_out t6_carry t20 t21 w_)
  | _ => none

set_option maxRecDepth 100000 in
/-- surd/dyadic.plus: function 90. -/
theorem dyadic_plus_vc (a0_a : Slc) (a1_b : Slc) (w : World) (R : Ending → World → Prop)
    (J0 : Slc → Slc → Slc → Int → Int → Int → World → Prop) (m0 : Slc → Slc → Slc → Int → Int → Int → World → Nat)
    (h : semS Tryd.prog (Instr.makeSlice 35 (Value.int .i64 (IntKind.i64.wrap ((maxI (a0_a.n : Int) (a1_b.n : Int)) + 1))) (Value.int .i64 (IntKind.i64.wrap ((maxI (a0_a.n : Int) (a1_b.n : Int)) + 1)))) w fun s1 w1 =>
    J0 a0_a a1_b s1 0 (s1.n : Int) 0 w1)
    (h0 : ∀ (t0_a : Slc) (t1_b : Slc) (t5_out : Slc) (t6_carry : Int) (t20 : Int) (t21 : Int) (w_ : World), J0 t0_a t1_b t5_out t6_carry t20 t21 w_ → 
    br (decide (t21 < t20))
    (Calls Tryd.prog 109 #[t0_a.v, Value.int .i64 t21] w_ fun e1 w2 =>
     ∃ x1 : Int, e1 = .returned (Value.int .u64 x1) ∧
     (Calls Tryd.prog 109 #[t1_b.v, Value.int .i64 t21] w2 fun e2 w3 =>
      ∃ x2 : Int, e2 = .returned (Value.int .u64 x2) ∧
      (br (decide ((IntKind.u64.wrap (x1 + x2)) < x1))
       (semA Tryd.prog (Instr.indexAt 35 t5_out.v (Value.int .i64 t21)) w3 fun ad1 w4 =>
        stC ad1 (Value.int .u64 (IntKind.u64.wrap ((IntKind.u64.wrap (x1 + x2)) + t6_carry))) w4 fun w5 =>
        J0 t0_a t1_b t5_out 1 t20 (IntKind.i64.wrap (t21 + 1)) w5 ∧
        m0 t0_a t1_b t5_out 1 t20 (IntKind.i64.wrap (t21 + 1)) w5 < m0 t0_a t1_b t5_out t6_carry t20 t21 w_)
       (br (decide ((IntKind.u64.wrap ((IntKind.u64.wrap (x1 + x2)) + t6_carry)) < (IntKind.u64.wrap (x1 + x2))))
        (semA Tryd.prog (Instr.indexAt 35 t5_out.v (Value.int .i64 t21)) w3 fun ad2 w6 =>
         stC ad2 (Value.int .u64 (IntKind.u64.wrap ((IntKind.u64.wrap (x1 + x2)) + t6_carry))) w6 fun w7 =>
         J0 t0_a t1_b t5_out 1 t20 (IntKind.i64.wrap (t21 + 1)) w7 ∧
         m0 t0_a t1_b t5_out 1 t20 (IntKind.i64.wrap (t21 + 1)) w7 < m0 t0_a t1_b t5_out t6_carry t20 t21 w_)
        (semA Tryd.prog (Instr.indexAt 35 t5_out.v (Value.int .i64 t21)) w3 fun ad3 w8 =>
         stC ad3 (Value.int .u64 (IntKind.u64.wrap ((IntKind.u64.wrap (x1 + x2)) + t6_carry))) w8 fun w9 =>
         J0 t0_a t1_b t5_out 0 t20 (IntKind.i64.wrap (t21 + 1)) w9 ∧
         m0 t0_a t1_b t5_out 0 t20 (IntKind.i64.wrap (t21 + 1)) w9 < m0 t0_a t1_b t5_out t6_carry t20 t21 w_)))))
    (Calls Tryd.prog 86 #[t5_out.v] w_ fun e3 w10 =>
     ∃ s2 : Slc, e3 = .returned s2.v ∧
     (R (.returned s2.v) w10))) :
    Calls Tryd.prog 90 #[a0_a.v, a1_b.v] w R := by
  refine calls_of_vc (dyadic_plus_cut J0 m0) (by kernel_rfl) Tryd.func90 rfl ?_ ?_
  · refine kcast h ?_; kernel_rfl
  · exact (obl_seq rfl (obl_reg (obl_seq rfl (obl_reg (obl_seq rfl (obl_reg (obl_seq rfl (obl_seq rfl (obl_reg (obl_loop _ rfl (fun a_ w_ hL_ => (by
    obtain ⟨hz_, hd_, hL_⟩ := atSz_out hL_
    obtain ⟨t0_a, h0_, hL_⟩ := atS_out hL_
    obtain ⟨t1_b, h1_, hL_⟩ := atS_out hL_
    obtain ⟨t5_out, h5_, hL_⟩ := atS_out hL_
    obtain ⟨t6_carry, h6_, hL_⟩ := atI_out hL_
    obtain ⟨t20, h20_, hL_⟩ := atI_out hL_
    obtain ⟨t21, h21_, hL_⟩ := atI_out hL_
    obtain ⟨g0, rfl⟩ : ∃ g, a_ = Fr 51 [(0, t0_a.v), (1, t1_b.v), (5, t5_out.v), (6, Value.int .u64 t6_carry), (20, Value.int .i64 t20), (21, Value.int .i64 t21)] g := ⟨_, fr_of hz_ hd_ [(0, t0_a.v), (1, t1_b.v), (5, t5_out.v), (6, Value.int .u64 t6_carry), (20, Value.int .i64 t20), (21, Value.int .i64 t21)] (sel_cons h0_ (sel_cons h1_ (sel_cons h5_ (sel_cons h6_ (sel_cons h20_ (sel_cons h21_ sel_nil))))))⟩
    clear hz_ hd_ h0_ h1_ h5_ h6_ h20_ h21_
    have hJ0_ := hL_
    refine ⟨(fun _ => none), kcast (h0 t0_a t1_b t5_out t6_carry t20 t21 w_ hJ0_) ?_, ?_⟩
    · kernel_rfl
    · exact (obl_seq rfl (obl_reg (obl_seq rfl (obl_cond (obl_skip (obl_exit (obl_seq rfl (obl_blk rfl (obl_seq rfl (obl_reg (obl_seq rfl (obl_reg (obl_seq rfl (obl_reg (obl_seq rfl (obl_reg (obl_seq rfl (obl_reg (obl_seq rfl (obl_seq rfl (obl_reg (obl_cond (obl_reg (obl_skip (obl_reg (obl_reg trivial)))))))))))))))))))))))))))) (obl_seq rfl (obl_reg (obl_ret trivial)))))))))))))

def dyadic_minus_cut (J0 : Slc → Slc → Slc → Int → Int → Int → World → Prop) (m0 : Slc → Slc → Slc → Int → Int → Int → World → Nat) : Nat → Option ((Act → World → Prop) × (Act → World → Nat))
  | 0 => some (fun a_ w_ => atSz a_ 49 (atS a_ 0 fun t0_a => atS a_ 1 fun t1_b => atS a_ 5 fun t5_out => atI .u64 a_ 6 fun t6_borrow => atI .i64 a_ 15 fun t15 => atI .i64 a_ 16 fun t16 => J0 t0_a t1_b t5_out t6_borrow t15 t16 w_), fun a_ w_ => mS a_ 0 fun t0_a => mS a_ 1 fun t1_b => mS a_ 5 fun t5_out => mI a_ 6 fun t6_borrow => mI a_ 15 fun t15 => mI a_ 16 fun t16 => m0 t0_a t1_b t5_out t6_borrow t15 t16 w_)
  | _ => none

set_option maxRecDepth 100000 in
/-- surd/dyadic.minus: function 100. -/
theorem dyadic_minus_vc (a0_a : Slc) (a1_b : Slc) (w : World) (R : Ending → World → Prop)
    (J0 : Slc → Slc → Slc → Int → Int → Int → World → Prop) (m0 : Slc → Slc → Slc → Int → Int → Int → World → Nat)
    (h : semS Tryd.prog (Instr.makeSlice 35 (Value.int .i64 (a0_a.n : Int)) (Value.int .i64 (a0_a.n : Int))) w fun s1 w1 =>
    J0 a0_a a1_b s1 0 (s1.n : Int) 0 w1)
    (h0 : ∀ (t0_a : Slc) (t1_b : Slc) (t5_out : Slc) (t6_borrow : Int) (t15 : Int) (t16 : Int) (w_ : World), J0 t0_a t1_b t5_out t6_borrow t15 t16 w_ → 
    br (decide (t16 < t15))
    (Calls Tryd.prog 109 #[t0_a.v, Value.int .i64 t16] w_ fun e1 w2 =>
     ∃ x1 : Int, e1 = .returned (Value.int .u64 x1) ∧
     (Calls Tryd.prog 109 #[t1_b.v, Value.int .i64 t16] w2 fun e2 w3 =>
      ∃ x2 : Int, e2 = .returned (Value.int .u64 x2) ∧
      (br (decide (x1 < x2))
       (semA Tryd.prog (Instr.indexAt 35 t5_out.v (Value.int .i64 t16)) w3 fun ad1 w4 =>
        stC ad1 (Value.int .u64 (IntKind.u64.wrap ((IntKind.u64.wrap (x1 - x2)) - t6_borrow))) w4 fun w5 =>
        J0 t0_a t1_b t5_out 1 t15 (IntKind.i64.wrap (t16 + 1)) w5 ∧
        m0 t0_a t1_b t5_out 1 t15 (IntKind.i64.wrap (t16 + 1)) w5 < m0 t0_a t1_b t5_out t6_borrow t15 t16 w_)
       (br (x1 == x2)
        (br (t6_borrow == 1)
         (semA Tryd.prog (Instr.indexAt 35 t5_out.v (Value.int .i64 t16)) w3 fun ad2 w6 =>
          stC ad2 (Value.int .u64 (IntKind.u64.wrap ((IntKind.u64.wrap (x1 - x2)) - t6_borrow))) w6 fun w7 =>
          J0 t0_a t1_b t5_out 1 t15 (IntKind.i64.wrap (t16 + 1)) w7 ∧
          m0 t0_a t1_b t5_out 1 t15 (IntKind.i64.wrap (t16 + 1)) w7 < m0 t0_a t1_b t5_out t6_borrow t15 t16 w_)
         (semA Tryd.prog (Instr.indexAt 35 t5_out.v (Value.int .i64 t16)) w3 fun ad3 w8 =>
          stC ad3 (Value.int .u64 (IntKind.u64.wrap ((IntKind.u64.wrap (x1 - x2)) - t6_borrow))) w8 fun w9 =>
          J0 t0_a t1_b t5_out 0 t15 (IntKind.i64.wrap (t16 + 1)) w9 ∧
          m0 t0_a t1_b t5_out 0 t15 (IntKind.i64.wrap (t16 + 1)) w9 < m0 t0_a t1_b t5_out t6_borrow t15 t16 w_))
        (semA Tryd.prog (Instr.indexAt 35 t5_out.v (Value.int .i64 t16)) w3 fun ad4 w10 =>
         stC ad4 (Value.int .u64 (IntKind.u64.wrap ((IntKind.u64.wrap (x1 - x2)) - t6_borrow))) w10 fun w11 =>
         J0 t0_a t1_b t5_out 0 t15 (IntKind.i64.wrap (t16 + 1)) w11 ∧
         m0 t0_a t1_b t5_out 0 t15 (IntKind.i64.wrap (t16 + 1)) w11 < m0 t0_a t1_b t5_out t6_borrow t15 t16 w_)))))
    (Calls Tryd.prog 86 #[t5_out.v] w_ fun e3 w12 =>
     ∃ s2 : Slc, e3 = .returned s2.v ∧
     (R (.returned s2.v) w12))) :
    Calls Tryd.prog 100 #[a0_a.v, a1_b.v] w R := by
  refine calls_of_vc (dyadic_minus_cut J0 m0) (by kernel_rfl) Tryd.func100 rfl ?_ ?_
  · refine kcast h ?_; kernel_rfl
  · exact (obl_seq rfl (obl_reg (obl_seq rfl (obl_reg (obl_seq rfl (obl_reg (obl_seq rfl (obl_seq rfl (obl_reg (obl_loop _ rfl (fun a_ w_ hL_ => (by
    obtain ⟨hz_, hd_, hL_⟩ := atSz_out hL_
    obtain ⟨t0_a, h0_, hL_⟩ := atS_out hL_
    obtain ⟨t1_b, h1_, hL_⟩ := atS_out hL_
    obtain ⟨t5_out, h5_, hL_⟩ := atS_out hL_
    obtain ⟨t6_borrow, h6_, hL_⟩ := atI_out hL_
    obtain ⟨t15, h15_, hL_⟩ := atI_out hL_
    obtain ⟨t16, h16_, hL_⟩ := atI_out hL_
    obtain ⟨g0, rfl⟩ : ∃ g, a_ = Fr 49 [(0, t0_a.v), (1, t1_b.v), (5, t5_out.v), (6, Value.int .u64 t6_borrow), (15, Value.int .i64 t15), (16, Value.int .i64 t16)] g := ⟨_, fr_of hz_ hd_ [(0, t0_a.v), (1, t1_b.v), (5, t5_out.v), (6, Value.int .u64 t6_borrow), (15, Value.int .i64 t15), (16, Value.int .i64 t16)] (sel_cons h0_ (sel_cons h1_ (sel_cons h5_ (sel_cons h6_ (sel_cons h15_ (sel_cons h16_ sel_nil))))))⟩
    clear hz_ hd_ h0_ h1_ h5_ h6_ h15_ h16_
    have hJ0_ := hL_
    refine ⟨(fun _ => none), kcast (h0 t0_a t1_b t5_out t6_borrow t15 t16 w_ hJ0_) ?_, ?_⟩
    · kernel_rfl
    · exact (obl_seq rfl (obl_reg (obl_seq rfl (obl_cond (obl_skip (obl_exit (obl_seq rfl (obl_blk rfl (obl_seq rfl (obl_reg (obl_seq rfl (obl_reg (obl_seq rfl (obl_reg (obl_seq rfl (obl_seq rfl (obl_reg (obl_cond (obl_reg (obl_reg (obl_reg (obl_reg trivial)))))))))))))))))))))))) (obl_seq rfl (obl_reg (obl_ret trivial)))))))))))))

set_option maxRecDepth 100000 in
/-- surd/dyadic.limb: function 109. -/
theorem dyadic_limb_vc (a0_a : Slc) (a1_i : Int) (w : World) (R : Ending → World → Prop)
    
    (h : br (decide (a1_i < (a0_a.n : Int)))
    (semA Tryd.prog (Instr.indexAt 35 a0_a.v (Value.int .i64 a1_i)) w fun ad1 w1 =>
     ldI .u64 ad1 w1 fun x1 =>
     R (.returned (Value.int .u64 x1)) w1)
    (R (.returned (Value.int .u64 0)) w)) :
    Calls Tryd.prog 109 #[a0_a.v, Value.int .i64 a1_i] w R := by
  refine calls_of_vc (fun _ => none) (by kernel_rfl) Tryd.func109 rfl ?_ ?_
  · refine kcast h ?_; kernel_rfl
  · exact (obl_seq rfl (obl_reg (obl_seq rfl (obl_seq rfl (obl_reg (obl_cond (obl_seq rfl (obl_reg (obl_ret (obl_skip (obl_seq rfl (obl_reg (obl_ret trivial)))))))))))))

set_option maxRecDepth 100000 in
/-- surd/dyadic.long: function 81. -/
theorem dyadic_long_vc (a0_x_0 : Bool) (a0_x_1 : Slc) (a0_x_2 : Int) (a1_y_0 : Bool) (a1_y_1 : Slc) (a1_y_2 : Int) (w : World) (R : Ending → World → Prop)
    
    (h : newC w #[Value.bool a0_x_0, a0_x_1.v, Value.int .i64 a0_x_2] 76 fun ad1 w1 =>
    newC w1 #[Value.bool a1_y_0, a1_y_1.v, Value.int .i64 a1_y_2] 76 fun ad2 w2 =>
    newC w2 #[Value.bool false, (⟨none, 0, 0⟩ : Slc).v, Value.int .i64 0] 39 fun ad3 w3 =>
    ldS (ad1.add 1) w3.drew fun s1 =>
    ldI .i64 (ad1.add 2) w3.drew fun x1 =>
    ldI .i64 (ad2.add 2) w3.drew fun x2 =>
    ldS (ad2.add 1) w3.drew fun s2 =>
    Calls Tryd.prog 80 #[s1.v, Value.int .i64 (IntKind.i64.wrap (x1 - x2))] w3.drew fun e1 w4 =>
    ∃ s3 : Slc, e1 = .returned s3.v ∧
    (Ahead w3.drew w4 ∧
     (ldB ad1 w4 fun b1 =>
      ldB ad1 w4 fun b2 =>
      ldB ad2 w4 fun b3 =>
      br (!(b2 == b3))
      (Calls Tryd.prog 83 #[s3.v, s2.v] w4 fun e2 w5 =>
       ∃ x3 : Int, e2 = .returned (Value.int .i64 x3) ∧
       (br (decide (x3 < 0))
        (ldI .i64 (ad2.add 2) w5.drew fun x4 =>
         Calls Tryd.prog 100 #[s2.v, s3.v] w5.drew fun e3 w6 =>
         ∃ s4 : Slc, e3 = .returned s4.v ∧
         (Ahead w5.drew w6 ∧
          (Calls Tryd.prog 42 #[Value.agg #[Value.bool (!b1), s4.v], Value.int .i64 x4] w6 fun e4 w7 =>
           ∃ b4 : Bool, ∃ s5 : Slc, ∃ x5 : Int, ∃ x6 : Int, e4 = .returned (Value.tuple #[Value.agg #[Value.bool b4, s5.v, Value.int .i64 x5], Value.int .i64 x6]) ∧
           (Ahead w6 w7 ∧
            (stC ad3 (Value.bool b4) w7 fun w8 =>
             stC (ad3.add 1) s5.v w8 fun w9 =>
             stC (ad3.add 2) (Value.int .i64 x5) w9 fun w10 =>
             ldB ad3 w10 fun b5 =>
             ldS (ad3.add 1) w10 fun s6 =>
             ldI .i64 (ad3.add 2) w10 fun x7 =>
             R (.returned (Value.tuple #[Value.agg #[Value.bool b5, s6.v, Value.int .i64 x7], Value.int .i64 x6])) w10)))))
        (ldI .i64 (ad2.add 2) w5.drew fun x8 =>
         Calls Tryd.prog 100 #[s3.v, s2.v] w5.drew fun e5 w11 =>
         ∃ s7 : Slc, e5 = .returned s7.v ∧
         (Ahead w5.drew w11 ∧
          (Calls Tryd.prog 42 #[Value.agg #[Value.bool b1, s7.v], Value.int .i64 x8] w11 fun e6 w12 =>
           ∃ b6 : Bool, ∃ s8 : Slc, ∃ x9 : Int, ∃ x10 : Int, e6 = .returned (Value.tuple #[Value.agg #[Value.bool b6, s8.v, Value.int .i64 x9], Value.int .i64 x10]) ∧
           (Ahead w11 w12 ∧
            (stC ad3 (Value.bool b6) w12 fun w13 =>
             stC (ad3.add 1) s8.v w13 fun w14 =>
             stC (ad3.add 2) (Value.int .i64 x9) w14 fun w15 =>
             ldB ad3 w15 fun b7 =>
             ldS (ad3.add 1) w15 fun s9 =>
             ldI .i64 (ad3.add 2) w15 fun x11 =>
             R (.returned (Value.tuple #[Value.agg #[Value.bool b7, s9.v, Value.int .i64 x11], Value.int .i64 x10])) w15)))))))
      (ldI .i64 (ad2.add 2) w4.drew fun x12 =>
       Calls Tryd.prog 90 #[s3.v, s2.v] w4.drew fun e7 w16 =>
       ∃ s10 : Slc, e7 = .returned s10.v ∧
       (Ahead w4.drew w16 ∧
        (Calls Tryd.prog 42 #[Value.agg #[Value.bool b1, s10.v], Value.int .i64 x12] w16 fun e8 w17 =>
         ∃ b8 : Bool, ∃ s11 : Slc, ∃ x13 : Int, ∃ x14 : Int, e8 = .returned (Value.tuple #[Value.agg #[Value.bool b8, s11.v, Value.int .i64 x13], Value.int .i64 x14]) ∧
         (Ahead w16 w17 ∧
          (stC ad3 (Value.bool b8) w17 fun w18 =>
           stC (ad3.add 1) s11.v w18 fun w19 =>
           stC (ad3.add 2) (Value.int .i64 x13) w19 fun w20 =>
           ldB ad3 w20 fun b9 =>
           ldS (ad3.add 1) w20 fun s12 =>
           ldI .i64 (ad3.add 2) w20 fun x15 =>
           R (.returned (Value.tuple #[Value.agg #[Value.bool b9, s12.v, Value.int .i64 x15], Value.int .i64 x14])) w20)))))))) :
    Calls Tryd.prog 81 #[Value.agg #[Value.bool a0_x_0, a0_x_1.v, Value.int .i64 a0_x_2], Value.agg #[Value.bool a1_y_0, a1_y_1.v, Value.int .i64 a1_y_2]] w R := by
  refine calls_of_vc (fun _ => none) (by kernel_rfl) Tryd.func81 rfl ?_ ?_
  · refine kcast h ?_; kernel_rfl
  · exact (obl_seq rfl (obl_reg (obl_seq rfl (obl_held (by kernel_rfl) (by kernel_rfl) (by kernel_rfl) (obl_seq rfl (obl_reg (obl_seq rfl (obl_seq rfl (obl_reg (obl_cond (obl_seq rfl (obl_seq rfl (obl_reg (obl_cond (obl_reg (obl_skip (obl_seq rfl (obl_held (by kernel_rfl) (by kernel_rfl) (by kernel_rfl) (obl_ret (obl_skip (obl_seq rfl (obl_held (by kernel_rfl) (by kernel_rfl) (by kernel_rfl) (obl_ret trivial)))))))))))))))))))))))

set_option maxRecDepth 100000 in
/-- surd/dyadic.Add: function 21. -/
theorem dyadic_Add_vc (a0_a_0 : Bool) (a0_a_1 : Slc) (a0_a_2 : Int) (a1_b_0 : Bool) (a1_b_1 : Slc) (a1_b_2 : Int) (w : World) (R : Ending → World → Prop)
    
    (h : newC w #[Value.bool a0_a_0, a0_a_1.v, Value.int .i64 a0_a_2] 39 fun ad1 w1 =>
    newC w1 #[Value.bool a1_b_0, a1_b_1.v, Value.int .i64 a1_b_2] 39 fun ad2 w2 =>
    newC w2 #[Value.bool false, (⟨none, 0, 0⟩ : Slc).v, Value.int .i64 0] 39 fun ad3 w3 =>
    ldB ad1 w3 fun b1 =>
    ldS (ad1.add 1) w3 fun s1 =>
    ldI .i64 (ad1.add 2) w3 fun x1 =>
    ldB ad2 w3 fun b2 =>
    ldS (ad2.add 1) w3 fun s2 =>
    ldI .i64 (ad2.add 2) w3 fun x2 =>
    Calls Tryd.prog 40 #[Value.agg #[Value.bool b1, s1.v, Value.int .i64 x1], Value.agg #[Value.bool b2, s2.v, Value.int .i64 x2]] w3 fun e1 w4 =>
    ∃ b3 : Bool, ∃ s3 : Slc, ∃ x3 : Int, ∃ b4 : Bool, ∃ s4 : Slc, ∃ x4 : Int, ∃ x5 : Int, e1 = .returned (Value.tuple #[Value.agg #[Value.bool b3, s3.v, Value.int .i64 x3], Value.agg #[Value.bool b4, s4.v, Value.int .i64 x4], Value.int .i64 x5]) ∧
    (newC w4 #[Value.bool false, (⟨none, 0, 0⟩ : Slc).v, Value.int .i64 0] 76 fun ad4 w5 =>
     newC w5 #[Value.bool false, (⟨none, 0, 0⟩ : Slc).v, Value.int .i64 0] 76 fun ad5 w6 =>
     stC ad4 (Value.bool b3) w6 fun w7 =>
     stC (ad4.add 1) s3.v w7 fun w8 =>
     stC (ad4.add 2) (Value.int .i64 x3) w8 fun w9 =>
     stC ad5 (Value.bool b4) w9 fun w10 =>
     stC (ad5.add 1) s4.v w10 fun w11 =>
     stC (ad5.add 2) (Value.int .i64 x4) w11 fun w12 =>
     br (x5 != 0)
     (stC ad3 (Value.bool false) w12 fun w13 =>
      stC (ad3.add 1) ((⟨none, 0, 0⟩ : Slc).v) w13 fun w14 =>
      stC (ad3.add 2) (Value.int .i64 0) w14 fun w15 =>
      ldB ad3 w15 fun b5 =>
      ldS (ad3.add 1) w15 fun s5 =>
      ldI .i64 (ad3.add 2) w15 fun x6 =>
      R (.returned (Value.tuple #[Value.agg #[Value.bool b5, s5.v, Value.int .i64 x6], Value.int .i64 x5])) w15)
     (ldB ad4 w12 fun b6 =>
      ldS (ad4.add 1) w12 fun s6 =>
      ldI .i64 (ad4.add 2) w12 fun x7 =>
      ldB ad5 w12 fun b7 =>
      ldS (ad5.add 1) w12 fun s7 =>
      ldI .i64 (ad5.add 2) w12 fun x8 =>
      Calls Tryd.prog 57 #[Value.agg #[Value.bool b6, s6.v, Value.int .i64 x7], Value.agg #[Value.bool b7, s7.v, Value.int .i64 x8]] w12 fun e2 w16 =>
      ∃ b8 : Bool, ∃ s8 : Slc, ∃ x9 : Int, ∃ x10 : Int, e2 = .returned (Value.tuple #[Value.agg #[Value.bool b8, s8.v, Value.int .i64 x9], Value.int .i64 x10]) ∧
      (stC ad3 (Value.bool b8) w16 fun w17 =>
       stC (ad3.add 1) s8.v w17 fun w18 =>
       stC (ad3.add 2) (Value.int .i64 x9) w18 fun w19 =>
       ldB ad3 w19 fun b9 =>
       ldS (ad3.add 1) w19 fun s9 =>
       ldI .i64 (ad3.add 2) w19 fun x11 =>
       R (.returned (Value.tuple #[Value.agg #[Value.bool b9, s9.v, Value.int .i64 x11], Value.int .i64 x10])) w19)))) :
    Calls Tryd.prog 21 #[Value.agg #[Value.bool a0_a_0, a0_a_1.v, Value.int .i64 a0_a_2], Value.agg #[Value.bool a1_b_0, a1_b_1.v, Value.int .i64 a1_b_2]] w R := by
  refine calls_of_vc (fun _ => none) (by kernel_rfl) Tryd.func21 rfl ?_ ?_
  · refine kcast h ?_; kernel_rfl
  · exact (obl_seq rfl (obl_reg (obl_seq rfl (obl_reg (obl_seq rfl (obl_seq rfl (obl_reg (obl_cond (obl_seq rfl (obl_reg (obl_ret (obl_skip (obl_seq rfl (obl_reg (obl_ret trivial)))))))))))))))

end Go.Proofs.YtahbekmnphkiiaaDoor
namespace Go.Proofs.YtahbekmnphkiiaaDoor
open Go Go.RowKit Eng Sp Dg
set_option linter.unusedVariables false
set_option linter.unusedSimpArgs false
set_option maxRecDepth 100000
namespace Dg
/-- How often 2 divides x; 0 for x = 0. -/
def tz (x : Nat) : Nat := if x = 0 then 0 else Lib.ctzFrom (bl x) x
theorem tz_spec {x : Nat} (h : x ≠ 0) : ∃ m, x = 2 ^ tz x * (2 * m + 1) := by
  obtain ⟨m, hm, _⟩ := Lib.ctzFrom_spec (bl x) x (by omega) (lt_bl x)
  exact ⟨m, by rw [tz, if_neg h]; exact hm⟩
theorem pow_odd_inj : ∀ {a b m n : Nat}, 2 ^ a * (2 * m + 1) = 2 ^ b * (2 * n + 1) → a = b
  | 0, 0, _, _, _ => rfl
  | 0, b + 1, m, n, h => by rw [Nat.pow_succ] at h; simp at h; have : 2 ^ b * 2 * (2 * n + 1) = 2 * (2 ^ b * (2 * n + 1)) := by ac_rfl
                            omega
  | a + 1, 0, m, n, h => by rw [Nat.pow_succ] at h; simp at h; have : 2 ^ a * 2 * (2 * m + 1) = 2 * (2 ^ a * (2 * m + 1)) := by ac_rfl
                            omega
  | a + 1, b + 1, m, n, h => by
    rw [Nat.pow_succ, Nat.pow_succ] at h
    have h1 : 2 ^ a * 2 * (2 * m + 1) = 2 * (2 ^ a * (2 * m + 1)) := by ac_rfl
    have h2 : 2 ^ b * 2 * (2 * n + 1) = 2 * (2 ^ b * (2 * n + 1)) := by ac_rfl
    have := pow_odd_inj (a := a) (b := b) (m := m) (n := n) (by omega)
    omega
theorem tz_eq {x k m : Nat} (h : x = 2 ^ k * (2 * m + 1)) : tz x = k := by
  have hx : x ≠ 0 := by
    have : 0 < 2 ^ k := Nat.pow_pos (by omega)
    rw [h]; exact Nat.mul_ne_zero (by omega) (by omega)
  obtain ⟨n, hn⟩ := tz_spec hx
  exact pow_odd_inj (hn.symm.trans h)
theorem tz_zero : tz 0 = 0 := if_pos rfl
theorem tz_lt {x : Nat} (h : x ≠ 0) : tz x < bl x := by
  rw [tz, if_neg h]
  exact (Lib.ctzFrom_spec (bl x) x (by omega) (lt_bl x)).choose_spec.2
theorem tz_le (x : Nat) : tz x ≤ bl x := by
  by_cases h : x = 0
  · rw [h, tz_zero]; omega
  · exact Nat.le_of_lt (tz_lt h)
/-- The odd part. -/
def od (x : Nat) : Nat := x / 2 ^ tz x
theorem od_mul (x : Nat) : 2 ^ tz x * od x = x := by
  by_cases h : x = 0
  · subst h; simp [od]
  · obtain ⟨m, hm⟩ := tz_spec h
    exact Nat.mul_div_cancel' ⟨_, hm⟩
theorem od_odd {x : Nat} (h : x ≠ 0) : od x % 2 = 1 := by
  obtain ⟨m, hm⟩ := tz_spec h
  have : od x = 2 * m + 1 := by
    have h1 := od_mul x
    have hp : 0 < 2 ^ tz x := Nat.pow_pos (by omega)
    exact Nat.eq_of_mul_eq_mul_left hp (h1.trans hm)
  omega
theorem od_zero : od 0 = 0 := by simp [od]
theorem od_ne {x : Nat} (h : x ≠ 0) : od x ≠ 0 := fun e => by have := od_odd h; omega
theorem od_zero_iff {x : Nat} : od x = 0 ↔ x = 0 := ⟨fun h => by rcases Nat.eq_zero_or_pos x with h1 | h1; exact h1; exact absurd h (od_ne (by omega)), fun h => by rw [h, od_zero]⟩
theorem od_le (x : Nat) : od x ≤ x := Nat.div_le_self _ _
theorem tz_odd {x : Nat} (h : x % 2 = 1) : tz x = 0 := tz_eq (k := 0) (m := x / 2) (by simp; omega)
theorem od_of_odd {x : Nat} (h : x % 2 = 1) : od x = x := by rw [od, tz_odd h]; simp
theorem od_od (x : Nat) : od (od x) = od x := by
  by_cases h : x = 0
  · rw [h, od_zero, od_zero]
  · exact od_of_odd (od_odd h)
theorem tz_shl {x k : Nat} (h : x ≠ 0) : tz (x * 2 ^ k) = tz x + k := by
  obtain ⟨m, hm⟩ := tz_spec h
  refine tz_eq (m := m) ?_
  rw [Nat.pow_add]
  calc x * 2 ^ k = (2 ^ tz x * (2 * m + 1)) * 2 ^ k := by rw [← hm]
    _ = 2 ^ tz x * 2 ^ k * (2 * m + 1) := by ac_rfl
theorem od_shl {x k : Nat} : od (x * 2 ^ k) = od x := by
  by_cases h : x = 0
  · subst h; simp
  · rw [od, tz_shl h, Nat.pow_add, Nat.mul_comm (2 ^ tz x), ← Nat.div_div_eq_div_mul, Nat.mul_div_cancel _ (Nat.pow_pos (by omega))]; rfl
theorem ctz64 {x : Nat} (h0 : x ≠ 0) (h : x < 2 ^ 64) : Lib.ctz 64 x = tz x ∧ tz x < 64 := by
  obtain ⟨m, hm, hk⟩ := Lib.ctzFrom_spec 64 x (by omega) h
  have e : Lib.ctz 64 x = Lib.ctzFrom 64 x := by simp [Lib.ctz, h0]
  have e2 := tz_eq hm
  rw [e, e2]
  exact ⟨rfl, hk⟩
theorem tz_append {l : List Nat} {j : Nat} (h0 : l.take j = List.replicate j 0) (hj : j < l.length) (ol : ok B64 l) (hx : l.getD j 0 ≠ 0) : tz (val B64 l) = 64 * j + tz (l.getD j 0) ∧ val B64 l ≠ 0 := by
  have h64 : B64 = 2 ^ 64 := rfl
  have hlt := ok_getD ol (by rw [B64v]; omega) j
  rw [h64] at hlt
  obtain ⟨_, h1⟩ := ctz64 hx hlt
  obtain ⟨m, hm⟩ := tz_spec hx
  have hv := val_split3 (B := B64) l j hj
  rw [h0, val_replicate, Nat.zero_add] at hv
  have e : val B64 l = 2 ^ (64 * j + tz (l.getD j 0)) * (2 * (m + 2 ^ (63 - tz (l.getD j 0)) * val B64 (l.drop (j + 1))) + 1) := by
    rw [hv, b64_pow, Nat.pow_add, Nat.mul_assoc]
    congr 1
    generalize val B64 (l.drop (j + 1)) = r
    have h2 : B64 = 2 ^ tz (l.getD j 0) * (2 * 2 ^ (63 - tz (l.getD j 0))) := by
      rw [h64, ← Nat.pow_succ', ← Nat.pow_add]; congr 1; omega
    generalize tz (l.getD j 0) = t at *
    rw [h2, Nat.mul_assoc]
    conv => lhs; lhs; rw [hm]
    rw [← Nat.mul_add]
    congr 1
    rw [Nat.mul_add, Nat.mul_assoc]
    omega
  refine ⟨tz_eq e, ?_⟩
  rw [e]
  exact Nat.mul_ne_zero (Nat.ne_of_gt (Nat.pow_pos (by omega))) (by omega)
end Dg
namespace Dy
open _root_.Go.Proofs.YtahbekmnphkiiaaDoor.Nat (ldN OwnNil andI_nat)

/-- The library's table stands as its initialiser lays it. -/
def Tab (w : World) : Prop := ∀ j, j < 64 → w.cell? ⟨0, j, none⟩ = some (.int .u8 ((Lib.deBruijn64tab.getD j 0 : Nat) : Int))
theorem Tab.ahead {w w' : World} (h : Tab w) (ha : Ahead w w') : Tab w' := fun j hj => ha.cell (h j hj)

theorem TrailingZeros64_spec {w : World} {x : Nat} (hT : Tab w) (h0 : x ≠ 0) (h : x < B64) :
    Calls pr bits_TrailingZeros64_id #[.int .u64 (x : Int)] w fun e w' => w' = w ∧ e = .returned (.int .i64 (tz x)) := by
  refine Calls.mono (tz64_laid x h w fun _ j hj => hT j (by simpa [Lib.deBruijn64tab] using hj)) ?_
  rintro e w' ⟨rfl, rfl⟩
  rw [(ctz64 h0 h).1]
  exact ⟨rfl, rfl⟩

theorem ne_of_bne {x : Nat} (h : ((x : Int) != 0) = true) : x ≠ 0 := by simpa using h
theorem eq_of_bne {x : Nat} (h : ((x : Int) != 0) = false) : x = 0 := by simpa using h

theorem Tail_spec {w : World} {s : Slc} {l : List Nat} (hT : Tab w) (h : Rd .u64 w s (nn l)) (hl : l.length ≤ 2 ^ 46) (ol : ok B64 l) :
    Calls pr nat_Tail_id #[s.v] w fun e w' => w' = w ∧ e = .returned (.int .i64 (tz (val B64 l))) := by
  have hn : s.n = l.length := by rw [h.n, nn_length]
  refine nat_Tail_vc s w _ (fun t n i w' => t = s ∧ n = (l.length : Int) ∧ w' = w ∧ ∃ j : Nat, i = (j : Int) ∧ j ≤ l.length ∧ l.take j = List.replicate j 0) (fun _ n i _ => (n - i).toNat)
    ⟨rfl, by rw [hn], rfl, 0, rfl, Nat.zero_le _, by simp⟩ ?_
  rintro t n i w1 ⟨rfl, rfl, rfl, j, rfl, hj, hz⟩
  refine br_intro (fun hlt => ?_) (fun hge => ?_)
  · have hj' : j < l.length := by simp at hlt; omega
    refine ldN h (by omega) (by omega) ?_
    rw [Int.toNat_natCast]
    have e8 : IntKind.i64.wrap ((j : Int) + 1) = ((j + 1 : Nat) : Int) := by rw [wrap_i64 (by omega) (by omega)]; omega
    refine br_intro (fun hx => ?_) (fun hx => ?_)
    · have hx0 : l.getD j 0 ≠ 0 := ne_of_bne hx
      have hlt := ok_getD ol (by rw [B64v]; omega) j
      obtain ⟨h1, _⟩ := tz_append hz hj' ol hx0
      obtain ⟨_, h2⟩ := ctz64 hx0 hlt
      refine Calls.mono (TrailingZeros64_spec hT hx0 hlt) ?_
      rintro e w2 ⟨rfl, rfl⟩
      refine ⟨_, rfl, rfl, ?_⟩
      rw [h1, wrap_i64 (x := 64 * (j : Int)) (by omega) (by omega), wrap_i64 (by omega) (by omega)]
      congr 2
    · have hx0 : l.getD j 0 = 0 := eq_of_bne hx
      refine ⟨⟨rfl, rfl, rfl, j + 1, e8, hj', ?_⟩, by rw [e8]; omega⟩
      rw [List.take_succ_eq_append_getElem hj', hz, List.replicate_succ']
      congr 2
      rw [← getD_lt l 0 hj', hx0]
  · have hj' : j = l.length := by simp at hge; omega
    subst hj'
    rw [List.take_length] at hz
    refine ⟨rfl, ?_⟩
    rw [hz, val_replicate, tz_zero]; rfl

end Dy
end Go.Proofs.YtahbekmnphkiiaaDoor
namespace Go.Proofs.YtahbekmnphkiiaaDoor
open Go Go.RowKit Eng
set_option linter.unusedVariables false

def surdref01_norm_cut (J0 : Slc → Int → World → Prop) (m0 : Slc → Int → World → Nat) : Nat → Option ((Act → World → Prop) × (Act → World → Nat))
  | 0 => some (fun a_ w_ => atSz a_ 22 (atS a_ 0 fun t0_a => atI .i64 a_ 3 fun t3_n => J0 t0_a t3_n w_), fun a_ w_ => mS a_ 0 fun t0_a => mI a_ 3 fun t3_n => m0 t0_a t3_n w_)
  | _ => none

set_option maxRecDepth 100000 in
/-- surd/surdref01.norm: function 72. -/
theorem surdref01_norm_vc (a0_a : Slc) (w : World) (R : Ending → World → Prop)
    (J0 : Slc → Int → World → Prop) (m0 : Slc → Int → World → Nat)
    (h : J0 a0_a (a0_a.n : Int) w)
    (h0 : ∀ (t0_a : Slc) (t3_n : Int) (w_ : World), J0 t0_a t3_n w_ → 
    br (decide (t3_n > 0))
    (semA Tryd.prog (Instr.indexAt 25 t0_a.v (Value.int .i64 (IntKind.i64.wrap (t3_n - 1)))) w_ fun ad1 w1 =>
     ldI .u64 ad1 w1 fun x1 =>
     br (x1 == 0)
     (J0 t0_a (IntKind.i64.wrap (t3_n - 1)) w1 ∧
      m0 t0_a (IntKind.i64.wrap (t3_n - 1)) w1 < m0 t0_a t3_n w_)
     (semS Tryd.prog (Instr.sliceAt 25 t0_a.v none (some (Value.int .i64 t3_n)) (some (Value.int .i64 t3_n))) w1 fun s1 w2 =>
      R (.returned s1.v) w2))
    (semS Tryd.prog (Instr.sliceAt 25 t0_a.v none (some (Value.int .i64 t3_n)) (some (Value.int .i64 t3_n))) w_ fun s2 w3 =>
     R (.returned s2.v) w3)) :
    Calls Tryd.prog 72 #[a0_a.v] w R := by
  refine calls_of_vc (surdref01_norm_cut J0 m0) (by kernel_rfl) Tryd.func72 rfl ?_ ?_
  · refine kcast h ?_; kernel_rfl
  · exact (obl_seq rfl (obl_reg (obl_seq rfl (obl_reg (obl_seq rfl (obl_loop _ rfl (fun a_ w_ hL_ => (by
    obtain ⟨hz_, hd_, hL_⟩ := atSz_out hL_
    obtain ⟨t0_a, h0_, hL_⟩ := atS_out hL_
    obtain ⟨t3_n, h3_, hL_⟩ := atI_out hL_
    obtain ⟨g0, rfl⟩ : ∃ g, a_ = Fr 22 [(0, t0_a.v), (3, Value.int .i64 t3_n)] g := ⟨_, fr_of hz_ hd_ [(0, t0_a.v), (3, Value.int .i64 t3_n)] (sel_cons h0_ (sel_cons h3_ sel_nil))⟩
    clear hz_ hd_ h0_ h3_
    have hJ0_ := hL_
    refine ⟨(fun _ => none), kcast (h0 t0_a t3_n w_ hJ0_) ?_, ?_⟩
    · kernel_rfl
    · exact (obl_seq rfl (obl_seq rfl (obl_reg (obl_cond (obl_skip (obl_exit (obl_blk rfl (obl_reg trivial)))))))))) (obl_seq rfl (obl_reg (obl_ret trivial)))))))))

def surdref01_Of_cut (J0 : Slc → Slc → Int → Int → World → Prop) (m0 : Slc → Slc → Int → Int → World → Nat) : Nat → Option ((Act → World → Prop) × (Act → World → Nat))
  | 0 => some (fun a_ w_ => atSz a_ 26 (atS a_ 3 fun t3_out => atS a_ 10 fun t10 => atI .i64 a_ 11 fun t11 => atI .i64 a_ 12 fun t12 => J0 t3_out t10 t11 t12 w_), fun a_ w_ => mS a_ 3 fun t3_out => mS a_ 10 fun t10 => mI a_ 11 fun t11 => mI a_ 12 fun t12 => m0 t3_out t10 t11 t12 w_)
  | _ => none

set_option maxRecDepth 100000 in
/-- surd/surdref01.Of: function 47. -/
theorem surdref01_Of_vc (a0_limbs : Slc) (w : World) (R : Ending → World → Prop)
    (J0 : Slc → Slc → Int → Int → World → Prop) (m0 : Slc → Slc → Int → Int → World → Nat)
    (h : semS Tryd.prog (Instr.makeSlice 25 (Value.int .i64 0) (Value.int .i64 (IntKind.i64.wrap (2 * (a0_limbs.n : Int))))) w fun s1 w1 =>
    J0 s1 a0_limbs (a0_limbs.n : Int) 0 w1)
    (h0 : ∀ (t3_out : Slc) (t10 : Slc) (t11 : Int) (t12 : Int) (w_ : World), J0 t3_out t10 t11 t12 w_ → 
    br (decide (t12 < t11))
    (semA Tryd.prog (Instr.indexAt 22 t10.v (Value.int .i64 t12)) w_ fun ad1 w2 =>
     ldI .u64 ad1 w2 fun x1 =>
     newC w2 #[Value.int .u64 (Int.tmod x1 4294967296), Value.int .u64 (IntKind.u64.wrap (Int.tdiv x1 4294967296))] 47 fun ad2 w3 =>
     semS Tryd.prog (Builtin.append_ #[25, 25] 25 #[t3_out.v, (⟨some ad2, 2, 2⟩ : Slc).v]) w3 fun s2 w4 =>
     J0 s2 t10 t11 (IntKind.i64.wrap (t12 + 1)) w4 ∧
     m0 s2 t10 t11 (IntKind.i64.wrap (t12 + 1)) w4 < m0 t3_out t10 t11 t12 w_)
    (Calls Tryd.prog 72 #[t3_out.v] w_ fun e1 w5 =>
     ∃ s3 : Slc, e1 = .returned s3.v ∧
     (R (.returned s3.v) w5))) :
    Calls Tryd.prog 47 #[a0_limbs.v] w R := by
  refine calls_of_vc (surdref01_Of_cut J0 m0) (by kernel_rfl) Tryd.func47 rfl ?_ ?_
  · refine kcast h ?_; kernel_rfl
  · exact (obl_seq rfl (obl_reg (obl_seq rfl (obl_reg (obl_seq rfl (obl_seq rfl (obl_reg (obl_loop _ rfl (fun a_ w_ hL_ => (by
    obtain ⟨hz_, hd_, hL_⟩ := atSz_out hL_
    obtain ⟨t3_out, h3_, hL_⟩ := atS_out hL_
    obtain ⟨t10, h10_, hL_⟩ := atS_out hL_
    obtain ⟨t11, h11_, hL_⟩ := atI_out hL_
    obtain ⟨t12, h12_, hL_⟩ := atI_out hL_
    obtain ⟨g0, rfl⟩ : ∃ g, a_ = Fr 26 [(3, t3_out.v), (10, t10.v), (11, Value.int .i64 t11), (12, Value.int .i64 t12)] g := ⟨_, fr_of hz_ hd_ [(3, t3_out.v), (10, t10.v), (11, Value.int .i64 t11), (12, Value.int .i64 t12)] (sel_cons h3_ (sel_cons h10_ (sel_cons h11_ (sel_cons h12_ sel_nil))))⟩
    clear hz_ hd_ h3_ h10_ h11_ h12_
    have hJ0_ := hL_
    refine ⟨(fun _ => none), kcast (h0 t3_out t10 t11 t12 w_ hJ0_) ?_, ?_⟩
    · kernel_rfl
    · exact (obl_seq rfl (obl_reg (obl_seq rfl (obl_cond (obl_skip (obl_exit (obl_seq rfl (obl_blk rfl (obl_seq rfl (obl_reg (obl_reg (obl_reg trivial)))))))))))))) (obl_seq rfl (obl_reg (obl_ret trivial)))))))))))

set_option maxRecDepth 100000 in
/-- surd/surdref01.Int: function 51. -/
theorem surdref01_Int_vc (a0_v : Int) (w : World) (R : Ending → World → Prop)
    
    (h : newC w #[Value.int .u64 (IntKind.u64.wrap a0_v)] 47 fun ad1 w1 =>
    Calls Tryd.prog 47 #[(⟨some ad1, 1, 1⟩ : Slc).v] w1 fun e1 w2 =>
    ∃ s1 : Slc, e1 = .returned s1.v ∧
    (R (.returned s1.v) w2)) :
    Calls Tryd.prog 51 #[Value.int .i64 a0_v] w R := by
  refine calls_of_vc (fun _ => none) (by kernel_rfl) Tryd.func51 rfl ?_ ?_
  · refine kcast h ?_; kernel_rfl
  · exact (obl_seq rfl (obl_reg (obl_seq rfl (obl_reg (obl_ret trivial)))))

def surdref01_Num_Limbs_cut (J0 : Slc → Slc → Int → World → Prop) (m0 : Slc → Slc → Int → World → Nat) : Nat → Option ((Act → World → Prop) × (Act → World → Nat))
  | 0 => some (fun a_ w_ => atSz a_ 34 (atS a_ 0 fun t0_a => atS a_ 3 fun t3_out => atI .i64 a_ 4 fun t4_i => J0 t0_a t3_out t4_i w_), fun a_ w_ => mS a_ 0 fun t0_a => mS a_ 3 fun t3_out => mI a_ 4 fun t4_i => m0 t0_a t3_out t4_i w_)
  | _ => none

set_option maxRecDepth 100000 in
/-- (surd/surdref01.Num).Limbs: function 105. -/
theorem surdref01_Num_Limbs_vc (a0_a : Slc) (w : World) (R : Ending → World → Prop)
    (J0 : Slc → Slc → Int → World → Prop) (m0 : Slc → Slc → Int → World → Nat)
    (h : J0 a0_a (⟨none, 0, 0⟩ : Slc) 0 w)
    (h0 : ∀ (t0_a : Slc) (t3_out : Slc) (t4_i : Int) (w_ : World), J0 t0_a t3_out t4_i w_ → 
    br (decide (t4_i < (t0_a.n : Int)))
    (semA Tryd.prog (Instr.indexAt 25 t0_a.v (Value.int .i64 t4_i)) w_ fun ad1 w1 =>
     ldI .u64 ad1 w1 fun x1 =>
     br (decide ((IntKind.i64.wrap (t4_i + 1)) < (t0_a.n : Int)))
     (semA Tryd.prog (Instr.indexAt 25 t0_a.v (Value.int .i64 (IntKind.i64.wrap (t4_i + 1)))) w1 fun ad2 w2 =>
      ldI .u64 ad2 w2 fun x2 =>
      newC w2 #[Value.int .u64 (IntKind.u64.wrap (x1 + (IntKind.u64.wrap (x2 * 4294967296))))] 47 fun ad3 w3 =>
      semS Tryd.prog (Builtin.append_ #[22, 22] 22 #[t3_out.v, (⟨some ad3, 1, 1⟩ : Slc).v]) w3 fun s1 w4 =>
      J0 t0_a s1 (IntKind.i64.wrap (t4_i + 2)) w4 ∧
      m0 t0_a s1 (IntKind.i64.wrap (t4_i + 2)) w4 < m0 t0_a t3_out t4_i w_)
     (newC w1 #[Value.int .u64 x1] 47 fun ad4 w5 =>
      semS Tryd.prog (Builtin.append_ #[22, 22] 22 #[t3_out.v, (⟨some ad4, 1, 1⟩ : Slc).v]) w5 fun s2 w6 =>
      J0 t0_a s2 (IntKind.i64.wrap (t4_i + 2)) w6 ∧
      m0 t0_a s2 (IntKind.i64.wrap (t4_i + 2)) w6 < m0 t0_a t3_out t4_i w_))
    (R (.returned t3_out.v) w_)) :
    Calls Tryd.prog 105 #[a0_a.v] w R := by
  refine calls_of_vc (surdref01_Num_Limbs_cut J0 m0) (by kernel_rfl) Tryd.func105 rfl ?_ ?_
  · refine kcast h ?_; kernel_rfl
  · exact (obl_seq rfl (obl_reg (obl_seq rfl (obl_reg (obl_seq rfl (obl_seq rfl (obl_reg (obl_loop _ rfl (fun a_ w_ hL_ => (by
    obtain ⟨hz_, hd_, hL_⟩ := atSz_out hL_
    obtain ⟨t0_a, h0_, hL_⟩ := atS_out hL_
    obtain ⟨t3_out, h3_, hL_⟩ := atS_out hL_
    obtain ⟨t4_i, h4_, hL_⟩ := atI_out hL_
    obtain ⟨g0, rfl⟩ : ∃ g, a_ = Fr 34 [(0, t0_a.v), (3, t3_out.v), (4, Value.int .i64 t4_i)] g := ⟨_, fr_of hz_ hd_ [(0, t0_a.v), (3, t3_out.v), (4, Value.int .i64 t4_i)] (sel_cons h0_ (sel_cons h3_ (sel_cons h4_ sel_nil)))⟩
    clear hz_ hd_ h0_ h3_ h4_
    have hJ0_ := hL_
    refine ⟨(fun _ => none), kcast (h0 t0_a t3_out t4_i w_ hJ0_) ?_, ?_⟩
    · kernel_rfl
    · exact (obl_seq rfl (obl_seq rfl (obl_reg (obl_cond (obl_skip (obl_exit (obl_seq rfl (obl_blk rfl (obl_seq rfl (obl_reg (obl_seq rfl (obl_seq rfl (obl_reg (obl_cond (obl_reg (obl_skip (obl_reg (obl_reg trivial)))))))))))))))))))) (obl_seq rfl (obl_reg (obl_ret trivial)))))))))))

def surdref01_Num_Is_cut (J0 : Slc → Slc → Int → Int → World → Prop) (m0 : Slc → Slc → Int → Int → World → Nat) : Nat → Option ((Act → World → Prop) × (Act → World → Nat))
  | 0 => some (fun a_ w_ => atSz a_ 29 (atS a_ 1 fun t1_limbs => atS a_ 5 fun t5_want => atI .i64 a_ 15 fun t15 => atI .i64 a_ 16 fun t16 => J0 t1_limbs t5_want t15 t16 w_), fun a_ w_ => mS a_ 1 fun t1_limbs => mS a_ 5 fun t5_want => mI a_ 15 fun t15 => mI a_ 16 fun t16 => m0 t1_limbs t5_want t15 t16 w_)
  | _ => none

set_option maxRecDepth 100000 in
/-- (surd/surdref01.Num).Is: function 84. -/
theorem surdref01_Num_Is_vc (a0_a : Slc) (a1_limbs : Slc) (w : World) (R : Ending → World → Prop)
    (J0 : Slc → Slc → Int → Int → World → Prop) (m0 : Slc → Slc → Int → Int → World → Nat)
    (h : Calls Tryd.prog 105 #[a0_a.v] w fun e1 w1 =>
    ∃ s1 : Slc, e1 = .returned s1.v ∧
    (br ((s1.n : Int) != (a1_limbs.n : Int))
     (R (.returned (Value.bool false)) w1)
     (J0 a1_limbs s1 (s1.n : Int) 0 w1)))
    (h0 : ∀ (t1_limbs : Slc) (t5_want : Slc) (t15 : Int) (t16 : Int) (w_ : World), J0 t1_limbs t5_want t15 t16 w_ → 
    br (decide (t16 < t15))
    (fixA Tryd.prog (Instr.indexAt 22 t5_want.v (Value.int .i64 t16)) w_ fun ad1 =>
     ldI .u64 ad1 w_ fun x1 =>
     fixA Tryd.prog (Instr.indexAt 22 t1_limbs.v (Value.int .i64 t16)) w_ fun ad2 =>
     ldI .u64 ad2 w_ fun x2 =>
     ∀ w2, Ahead w_ w2 →
     (br (x1 != x2)
      (R (.returned (Value.bool false)) w2)
      (J0 t1_limbs t5_want t15 (IntKind.i64.wrap (t16 + 1)) w2 ∧
       m0 t1_limbs t5_want t15 (IntKind.i64.wrap (t16 + 1)) w2 < m0 t1_limbs t5_want t15 t16 w_)))
    (R (.returned (Value.bool true)) w_)) :
    Calls Tryd.prog 84 #[a0_a.v, a1_limbs.v] w R := by
  refine calls_of_vc (surdref01_Num_Is_cut J0 m0) (by kernel_rfl) Tryd.func84 rfl ?_ ?_
  · refine kcast h ?_; kernel_rfl
  · exact (obl_seq rfl (obl_reg (obl_seq rfl (obl_reg (obl_seq rfl (obl_seq rfl (obl_reg (obl_cond (obl_seq rfl (obl_reg (obl_ret (obl_skip (obl_seq rfl (obl_seq rfl (obl_reg (obl_loop _ rfl (fun a_ w_ hL_ => (by
    obtain ⟨hz_, hd_, hL_⟩ := atSz_out hL_
    obtain ⟨t1_limbs, h1_, hL_⟩ := atS_out hL_
    obtain ⟨t5_want, h5_, hL_⟩ := atS_out hL_
    obtain ⟨t15, h15_, hL_⟩ := atI_out hL_
    obtain ⟨t16, h16_, hL_⟩ := atI_out hL_
    obtain ⟨g0, rfl⟩ : ∃ g, a_ = Fr 29 [(1, t1_limbs.v), (5, t5_want.v), (15, Value.int .i64 t15), (16, Value.int .i64 t16)] g := ⟨_, fr_of hz_ hd_ [(1, t1_limbs.v), (5, t5_want.v), (15, Value.int .i64 t15), (16, Value.int .i64 t16)] (sel_cons h1_ (sel_cons h5_ (sel_cons h15_ (sel_cons h16_ sel_nil))))⟩
    clear hz_ hd_ h1_ h5_ h15_ h16_
    have hJ0_ := hL_
    refine ⟨(fun _ => none), kcast (h0 t1_limbs t5_want t15 t16 w_ hJ0_) ?_, ?_⟩
    · kernel_rfl
    · exact (obl_seq rfl (obl_reg (obl_seq rfl (obl_cond (obl_skip (obl_exit (obl_seq rfl (obl_blk rfl (obl_seq rfl (obl_reg (obl_seq rfl (obl_quiet (by kernel_rfl) (by kernel_rfl) (by kernel_rfl) (by kernel_rfl) (obl_cond (obl_seq rfl (obl_reg (obl_ret (obl_skip (obl_reg trivial)))))))))))))))))))) (obl_seq rfl (obl_reg (obl_ret trivial)))))))))))))))))))

set_option maxRecDepth 100000 in
/-- (surd/surdref01.Num).Zero: function 69. -/
theorem surdref01_Num_Zero_vc (a0_a : Slc) (w : World) (R : Ending → World → Prop)
    
    (h : R (.returned (Value.bool ((a0_a.n : Int) == 0))) w) :
    Calls Tryd.prog 69 #[a0_a.v] w R := by
  refine calls_of_vc (fun _ => none) (by kernel_rfl) Tryd.func69 rfl ?_ ?_
  · refine kcast h ?_; kernel_rfl
  · exact (obl_seq rfl (obl_reg (obl_seq rfl (obl_reg (obl_ret trivial)))))

set_option maxRecDepth 100000 in
/-- (surd/surdref01.Num).Bit: function 70. -/
theorem surdref01_Num_Bit_vc (a0_a : Slc) (a1_i : Int) (w : World) (R : Ending → World → Prop)
    
    (h : br (decide (a1_i < 0))
    (R (.returned (Value.int .i64 0)) w)
    (br (decide ((IntKind.i64.wrap (Int.tdiv a1_i 32)) ≥ (a0_a.n : Int)))
     (R (.returned (Value.int .i64 0)) w)
     (semA Tryd.prog (Instr.indexAt 25 a0_a.v (Value.int .i64 (IntKind.i64.wrap (Int.tdiv a1_i 32)))) w fun ad1 w1 =>
      ldI .u64 ad1 w1 fun x1 =>
      semI Tryd.prog .u64 (binOp .shr 47 (Value.int .u64 x1) (Value.int .i64 (Int.tmod a1_i 32))) w1 fun x2 w2 =>
      R (.returned (Value.int .i64 (IntKind.i64.wrap (andI .u64 x2 1)))) w2))) :
    Calls Tryd.prog 70 #[a0_a.v, Value.int .i64 a1_i] w R := by
  refine calls_of_vc (fun _ => none) (by kernel_rfl) Tryd.func70 rfl ?_ ?_
  · refine kcast h ?_; kernel_rfl
  · exact (obl_seq rfl (obl_reg (obl_seq rfl (obl_seq rfl (obl_reg (obl_cond (obl_seq rfl (obl_reg (obl_ret (obl_skip (obl_seq rfl (obl_reg (obl_ret trivial)))))))))))))

set_option maxRecDepth 100000 in
/-- (surd/surdref01.Num).at: function 71. -/
theorem surdref01_Num_at_vc (a0_a : Slc) (a1_i : Int) (w : World) (R : Ending → World → Prop)
    
    (h : br (decide (a1_i < (a0_a.n : Int)))
    (semA Tryd.prog (Instr.indexAt 25 a0_a.v (Value.int .i64 a1_i)) w fun ad1 w1 =>
     ldI .u64 ad1 w1 fun x1 =>
     R (.returned (Value.int .u64 x1)) w1)
    (R (.returned (Value.int .u64 0)) w)) :
    Calls Tryd.prog 71 #[a0_a.v, Value.int .i64 a1_i] w R := by
  refine calls_of_vc (fun _ => none) (by kernel_rfl) Tryd.func71 rfl ?_ ?_
  · refine kcast h ?_; kernel_rfl
  · exact (obl_seq rfl (obl_reg (obl_seq rfl (obl_seq rfl (obl_reg (obl_cond (obl_seq rfl (obl_reg (obl_ret (obl_skip (obl_seq rfl (obl_reg (obl_ret trivial)))))))))))))

def surdref01_Shr_cut (J0 : Slc → Int → Slc → Int → Int → Int → World → Prop) (m0 : Slc → Int → Slc → Int → Int → Int → World → Nat) : Nat → Option ((Act → World → Prop) × (Act → World → Nat))
  | 0 => some (fun a_ w_ => atSz a_ 53 (atS a_ 0 fun t0_a => atI .i64 a_ 1 fun t1_n => atS a_ 5 fun t5_out => atI .i64 a_ 6 fun t6_s => atI .i64 a_ 23 fun t23 => atI .i64 a_ 24 fun t24 => J0 t0_a t1_n t5_out t6_s t23 t24 w_), fun a_ w_ => mS a_ 0 fun t0_a => mI a_ 1 fun t1_n => mS a_ 5 fun t5_out => mI a_ 6 fun t6_s => mI a_ 23 fun t23 => mI a_ 24 fun t24 => m0 t0_a t1_n t5_out t6_s t23 t24 w_)
  | _ => none

set_option maxRecDepth 100000 in
/-- surd/surdref01.Shr: function 45. -/
theorem surdref01_Shr_vc (a0_a : Slc) (a1_n : Int) (w : World) (R : Ending → World → Prop)
    (J0 : Slc → Int → Slc → Int → Int → Int → World → Prop) (m0 : Slc → Int → Slc → Int → Int → Int → World → Nat)
    (h : br (decide ((IntKind.i64.wrap (Int.tdiv a1_n 32)) ≥ (a0_a.n : Int)))
    (R (.returned ((⟨none, 0, 0⟩ : Slc).v)) w)
    (semS Tryd.prog (Instr.makeSlice 25 (Value.int .i64 (IntKind.i64.wrap ((a0_a.n : Int) - (IntKind.i64.wrap (Int.tdiv a1_n 32))))) (Value.int .i64 (IntKind.i64.wrap ((a0_a.n : Int) - (IntKind.i64.wrap (Int.tdiv a1_n 32)))))) w fun s1 w1 =>
     J0 a0_a a1_n s1 (Int.tmod a1_n 32) (s1.n : Int) 0 w1))
    (h0 : ∀ (t0_a : Slc) (t1_n : Int) (t5_out : Slc) (t6_s : Int) (t23 : Int) (t24 : Int) (w_ : World), J0 t0_a t1_n t5_out t6_s t23 t24 w_ → 
    br (decide (t24 < t23))
    (fixA Tryd.prog (Instr.indexAt 25 t0_a.v (Value.int .i64 (IntKind.i64.wrap (t24 + (IntKind.i64.wrap (Int.tdiv t1_n 32)))))) w_.drew fun ad1 =>
     ldI .u64 ad1 w_.drew fun x1 =>
     Calls Tryd.prog 71 #[t0_a.v, Value.int .i64 (IntKind.i64.wrap ((IntKind.i64.wrap (t24 + (IntKind.i64.wrap (Int.tdiv t1_n 32)))) + 1))] w_.drew fun e1 w2 =>
     ∃ x2 : Int, e1 = .returned (Value.int .u64 x2) ∧
     (Ahead w_.drew w2 ∧
      (semI Tryd.prog .u64 (binOp .shr 47 (Value.int .u64 (IntKind.u64.wrap (x1 + (IntKind.u64.wrap (x2 * 4294967296))))) (Value.int .i64 t6_s)) w2 fun x3 w3 =>
       semA Tryd.prog (Instr.indexAt 25 t5_out.v (Value.int .i64 t24)) w3 fun ad2 w4 =>
       stC ad2 (Value.int .u64 (Int.tmod x3 4294967296)) w4 fun w5 =>
       J0 t0_a t1_n t5_out t6_s t23 (IntKind.i64.wrap (t24 + 1)) w5 ∧
       m0 t0_a t1_n t5_out t6_s t23 (IntKind.i64.wrap (t24 + 1)) w5 < m0 t0_a t1_n t5_out t6_s t23 t24 w_)))
    (Calls Tryd.prog 72 #[t5_out.v] w_ fun e2 w6 =>
     ∃ s2 : Slc, e2 = .returned s2.v ∧
     (R (.returned s2.v) w6))) :
    Calls Tryd.prog 45 #[a0_a.v, Value.int .i64 a1_n] w R := by
  refine calls_of_vc (surdref01_Shr_cut J0 m0) (by kernel_rfl) Tryd.func45 rfl ?_ ?_
  · refine kcast h ?_; kernel_rfl
  · exact (obl_seq rfl (obl_reg (obl_seq rfl (obl_seq rfl (obl_reg (obl_cond (obl_seq rfl (obl_reg (obl_ret (obl_skip (obl_seq rfl (obl_reg (obl_seq rfl (obl_reg (obl_seq rfl (obl_seq rfl (obl_reg (obl_loop _ rfl (fun a_ w_ hL_ => (by
    obtain ⟨hz_, hd_, hL_⟩ := atSz_out hL_
    obtain ⟨t0_a, h0_, hL_⟩ := atS_out hL_
    obtain ⟨t1_n, h1_, hL_⟩ := atI_out hL_
    obtain ⟨t5_out, h5_, hL_⟩ := atS_out hL_
    obtain ⟨t6_s, h6_, hL_⟩ := atI_out hL_
    obtain ⟨t23, h23_, hL_⟩ := atI_out hL_
    obtain ⟨t24, h24_, hL_⟩ := atI_out hL_
    obtain ⟨g0, rfl⟩ : ∃ g, a_ = Fr 53 [(0, t0_a.v), (1, Value.int .i64 t1_n), (5, t5_out.v), (6, Value.int .i64 t6_s), (23, Value.int .i64 t23), (24, Value.int .i64 t24)] g := ⟨_, fr_of hz_ hd_ [(0, t0_a.v), (1, Value.int .i64 t1_n), (5, t5_out.v), (6, Value.int .i64 t6_s), (23, Value.int .i64 t23), (24, Value.int .i64 t24)] (sel_cons h0_ (sel_cons h1_ (sel_cons h5_ (sel_cons h6_ (sel_cons h23_ (sel_cons h24_ sel_nil))))))⟩
    clear hz_ hd_ h0_ h1_ h5_ h6_ h23_ h24_
    have hJ0_ := hL_
    refine ⟨(fun _ => none), kcast (h0 t0_a t1_n t5_out t6_s t23 t24 w_ hJ0_) ?_, ?_⟩
    · kernel_rfl
    · exact (obl_seq rfl (obl_reg (obl_seq rfl (obl_cond (obl_skip (obl_exit (obl_seq rfl (obl_blk rfl (obl_seq rfl (obl_reg (obl_seq rfl (obl_held (by kernel_rfl) (by kernel_rfl) (by kernel_rfl) (obl_reg (obl_reg trivial)))))))))))))))) (obl_seq rfl (obl_reg (obl_ret trivial)))))))))))))))))))))

end Go.Proofs.YtahbekmnphkiiaaDoor
namespace Go.Proofs.YtahbekmnphkiiaaDoor
open Go Go.RowKit Eng Sp Dg
set_option linter.unusedVariables false
set_option linter.unusedSimpArgs false
set_option maxRecDepth 100000
namespace Sp
section
variable {P : Program} {t e : TypeId} {k : IntKind}
/-- append of what reads as ys, onto a row of the call's own that has room for it. -/
theorem appRoom (hT : isSl P t k = some e) {w : World} {s x : Slc} {l ys : List Int} {ty : TypeId} {b : Nat} (hx : Rd k w x ys) (hy : 0 < ys.length)
    (hs : Owr k e w s l b) (hroom : l.length + ys.length ≤ s.c) {K : Slc → World → Prop}
    (hk : ∀ s' w', s'.c = s.c → Owr k e w' s' (l ++ ys) b → (∀ w0, Ahead w0 w → w0.heap.size ≤ b → Ahead w0 w') → K s' w') :
    semS P (Builtin.append_ #[t, t] ty #[s.v, x.v]) w fun s' w' => K s' w' := by
  obtain ⟨hu, he, inf, hi, hs1, hb8, hz⟩ := isSl_out hT
  obtain ⟨ad, hA, _⟩ := hx.get 0 hy
  obtain ⟨sp, hc, hh⟩ := hs.mem
  have hr := run_append_room (P := P) w t ty e inf hu hi b l.length s.c (ints k l ++ sp).toArray hh ad ys.length x.c (ints k ys) (by simp [ints, hs1])
    (fun j u hj => by
      have hj' : j < ys.length := by
        have := (List.getElem?_eq_some_iff.1 hj).1
        simpa [ints] using this
      obtain ⟨ad', e', hcc⟩ := hx.get j hj'
      rw [hA] at e'
      obtain rfl := Option.some.inj e'
      rw [ints_get hj'] at hj
      obtain rfl := Option.some.inj hj
      exact hcc) (by simp [ints, Value.oneCell']) hroom (by simp [ints, hs1]; omega)
  have hxv : x.v = .slice (some ad) ys.length x.c := by rw [Slc.v, hA, hx.n]
  have hsv : s.v = .slice (some ⟨b, 0, none⟩) l.length s.c := by rw [Slc.v, hs.A, hs.n]
  unfold semS
  rw [Sem.wp_iff_run, hxv, hsv, hr]
  refine ⟨⟨some ⟨b, 0, none⟩, l.length + ys.length, s.c⟩, rfl, hk _ _ rfl ⟨by simp, sp.drop ys.length, by simp; omega, ?_⟩ fun w0 ha hb => Below.trans ha ⟨rfl, rfl, rfl, by simp [World.setRow], fun k hk => setRow_other w b k _ (by omega)⟩⟩
  rw [setRow_heap w b _ _ e (0, 0) hh]
  simp [hs1, ints]
  rw [List.drop_append]
  simp
end
end Sp
namespace Ref
open _root_.Go.Proofs.YtahbekmnphkiiaaDoor.Nat (ldN ldNf stN mkN cutHi cutCap Fill mkF stF stFf Num)

/-- The slice reads as the number's digits of 32 bits. -/
def RN (w : World) (s : Slc) (n : Nat) : Prop := Rd .u64 w s (nn (digs B32 n))
theorem RN.ahead {w w' : World} {s : Slc} {n : Nat} (h : RN w s n) (ha : Ahead w w') : RN w' s n := Rd.ahead h ha
theorem RN.n {w : World} {s : Slc} {n : Nat} (h : RN w s n) : s.n = (digs B32 n).length := by rw [Rd.n h, nn_length]
theorem RN.nil {w : World} {A : Option Addr} {c : Nat} : RN w ⟨A, 0, c⟩ 0 := by unfold RN; rw [digs_zero]; exact Rd.nil

theorem norm_specA {w : World} {s : Slc} {l : List Nat} (h : Rd .u64 w s (nn l)) (hl : l.length ≤ 2 ^ 46) (hok : ok B32 l) :
    Calls pr surdref01_norm_id #[s.v] w fun e w' => w' = w ∧ ∃ s', e = .returned (Slc.v s') ∧ RN w s' (val B32 l) ∧ s'.A = s.A := by
  have hn : s.n = l.length := by rw [h.n, nn_length]
  have hc := h.c
  refine surdref01_norm_vc s w _ (fun t n w' => w' = w ∧ t = s ∧ ∃ m : Nat, n = (m : Int) ∧ m ≤ l.length ∧ ∀ i, m ≤ i → i < l.length → l.getD i 0 = 0) (fun _ n _ => n.toNat)
    ⟨rfl, rfl, s.n, rfl, by omega, fun i h1 h2 => by omega⟩ ?_
  rintro t n w' ⟨rfl, rfl, m, rfl, hm, hz⟩
  have fin : (m = 0 ∨ l.getD (m - 1) 0 ≠ 0) → semS pr (Instr.sliceAt 25 t.v none (some (Value.int .i64 (m : Int))) (some (Value.int .i64 (m : Int)))) w' fun s2 w3 =>
      w3 = w' ∧ ∃ s', Ending.returned s2.v = .returned (Slc.v s') ∧ RN w' s' (val B32 l) ∧ s'.A = t.A := by
    intro hlast
    refine cutCap (by omega) (by omega) ?_
    refine ⟨rfl, _, rfl, ?_, rfl⟩
    unfold RN
    rw [digs_take two32 hok hm hz hlast, ← nn_take]
    simp only [Int.toNat_natCast]
    exact h.take (by simpa using hm) (Nat.le_refl _)
  refine br_intro (fun hp => ?_) (fun hp => ?_)
  · have hp' : 0 < m := by simp at hp; omega
    rw [wrap_i64 (x := (m : Int) - 1) (by omega) (by omega)]
    refine ldN h (by omega) (by omega) ?_
    have e2 : ((m : Int) - 1).toNat = m - 1 := by omega
    rw [e2]
    refine br_intro (fun hx => ?_) (fun hx => ?_)
    · refine ⟨⟨rfl, rfl, m - 1, by omega, by omega, fun i h1 h2 => ?_⟩, by omega⟩
      by_cases hi : i = m - 1
      · subst hi; simpa using hx
      · exact hz i (by omega) h2
    · exact fin (.inr (by simpa using hx))
  · exact fin (.inl (by simp at hp; omega))

theorem at_spec {w : World} {s : Slc} {l : List Nat} (h : Rd .u64 w s (nn l)) {i : Int} (h0 : 0 ≤ i) :
    Calls pr surdref01_Num_at_id #[s.v, .int .i64 i] w fun e w' => w' = w ∧ e = .returned (.int .u64 (l.getD i.toNat 0 : Nat)) := by
  have hn : s.n = l.length := by rw [h.n, nn_length]
  refine surdref01_Num_at_vc s i w _ (br_intro (fun hlt => ?_) (fun hge => ?_))
  · have hlt' : i < l.length := by simp at hlt; omega
    exact ldN h h0 hlt' ⟨rfl, rfl⟩
  · refine ⟨rfl, ?_⟩
    rw [getD_ge l 0 (by simp at hge; omega)]; rfl

theorem zero_spec {w : World} {s : Slc} {n : Nat} (h : RN w s n) :
    Calls pr surdref01_Num_Zero_id #[s.v] w fun e w' => w' = w ∧ e = .returned (.bool (decide (n = 0))) := by
  refine surdref01_Num_Zero_vc s w _ ⟨rfl, ?_⟩
  have := h.n
  congr 2
  by_cases hn : n = 0
  · subst hn; rw [digs_zero] at this; simp [this]
  · have h2 := List.length_pos_iff.2 (digs_ne_nil two32 hn)
    have : s.n ≠ 0 := by omega
    simp [hn, this]

/-- A base 2^32: the limbs' list as digits. -/
def split32 : List Nat → List Nat
  | [] => []
  | x :: l => x % B32 :: x / B32 :: split32 l
theorem split32_append (l m : List Nat) : split32 (l ++ m) = split32 l ++ split32 m := by
  induction l with
  | nil => rfl
  | cons x l ih => simp [split32, ih]
theorem split32_length (l : List Nat) : (split32 l).length = 2 * l.length := by
  induction l with
  | nil => rfl
  | cons x l ih => simp [split32, ih]; omega
theorem split32_ok {l : List Nat} (h : ok B64 l) : ok B32 (split32 l) := by
  have hB := B64v
  induction l with
  | nil => exact ok_nil
  | cons x l ih =>
    obtain ⟨h1, h2⟩ := ok_cons.1 h
    exact ok_cons.2 ⟨by simp only [B32v]; omega, ok_cons.2 ⟨by simp only [B32v]; omega, ih h2⟩⟩
theorem split32_val (l : List Nat) : val B32 (split32 l) = val B64 l := by
  have h64 : B64 = B32 * B32 := by decide
  induction l with
  | nil => rfl
  | cons x l ih =>
    show x % B32 + B32 * (x / B32 + B32 * val B32 (split32 l)) = x + B64 * val B64 l
    rw [ih, Nat.mul_add, ← Nat.mul_assoc, ← h64, ← Nat.add_assoc, Nat.mod_add_div]

theorem Of_specT {w : World} {s : Slc} {l : List Nat} (h : Rd .u64 w s (nn l)) (hl : l.length * 8 ≤ 140737488351232) (hok : ok B64 l) :
    Calls pr surdref01_Of_id #[s.v] w fun e w' => Ahead w w' ∧ ∃ s', e = .returned (Slc.v s') ∧ RN w' s' (val B64 l) ∧ ∀ ad, s'.A = some ad → w.heap.size ≤ ad.block ∧ ∃ cs m, w'.heap[ad.block]? = some (.cells cs tU64 m) := by
  have hB := B64v
  have hB32 := B32v
  have hn : s.n = l.length := by rw [h.n, nn_length]
  refine surdref01_Of_vc s w _ (fun out t10 n i w' => t10 = s ∧ n = (l.length : Int) ∧ Ahead w w' ∧ ∃ (j b : Nat), i = (j : Int) ∧ j ≤ l.length ∧ w.heap.size ≤ b ∧ out.c = 2 * l.length ∧
    Owr .u64 tU64 w' out (nn (split32 (l.take j))) b) (fun _ _ n i _ => (n - i).toNat) ?_ ?_
  · rw [hn, wrap_i64 (by omega) (by omega)]
    refine mk (e := tU64) (k := .u64) (by kernel_rfl) (Int.le_refl 0) (by omega) (by omega) ?_
    intro s' w' hc ho ha hs
    exact ⟨rfl, rfl, ha, 0, w.heap.size, rfl, Nat.zero_le _, Nat.le_refl _, by rw [hc]; omega, ho⟩
  · rintro out t10 n i w1 ⟨rfl, rfl, ha, j, b, rfl, hj, hb, hoc, ho⟩
    refine br_intro (fun hlt => ?_) (fun hge => ?_)
    · have hj' : j < l.length := by simpa using hlt
      refine ldN (h.ahead ha) (by omega) (by omega) ?_
      have hx := ok_getD hok (by omega : 0 < B64) j
      simp only [Int.toNat_natCast]
      generalize hxe : l.getD j 0 = x at *
      have e1 : Int.tmod (x : Int) 4294967296 = ((x % B32 : Nat) : Int) := by rw [B32v, Int.tmod_eq_emod_of_nonneg (by omega)]; omega
      have e2 : IntKind.u64.wrap (Int.tdiv (x : Int) 4294967296) = ((x / B32 : Nat) : Int) := by
        have : Int.tdiv (x : Int) 4294967296 = ((x / 4294967296 : Nat) : Int) := by rw [Int.tdiv_eq_ediv_of_nonneg (by omega)]; omega
        rw [B32v, this, wrap_u64' (by omega) (by omega)]
      rw [e1, e2]
      have hal := Ahead.alloc w1 (.cells #[Value.int .u64 ((x % B32 : Nat) : Int), Value.int .u64 ((x / B32 : Nat) : Int)] tU64 (0, 0))
      have hlit : Rd .u64 (w1.alloc (.cells #[Value.int .u64 ((x % B32 : Nat) : Int), Value.int .u64 ((x / B32 : Nat) : Int)] tU64 (0, 0))) ⟨some ⟨w1.heap.size, 0, none⟩, 2, 2⟩ (nn [x % B32, x / B32]) :=
        Owr.rd (t := tU64) (b := w1.heap.size) ⟨rfl, [], rfl, by rw [get_alloc]; rfl⟩
      refine appRoom (t := _) (e := tU64) (k := .u64) (by kernel_rfl) hlit (by simp) (ho.ahead hal) (by rw [hoc, nn_length, split32_length, nn_length]; simp; omega) ?_
      intro s' w4 hc' ho' hah
      have e8 : IntKind.i64.wrap ((j : Int) + 1) = ((j + 1 : Nat) : Int) := by rw [wrap_i64 (by omega) (by omega)]; omega
      refine ⟨⟨by trivial, by trivial, hah w (ha.trans hal) hb, j + 1, b, e8, hj', hb, by rw [hc', hoc], ?_⟩, by rw [e8]; omega⟩
      rw [List.take_succ_eq_append_getElem hj', split32_append, nn_append]
      have : l[j] = x := by rw [← hxe]; exact (getD_lt l 0 hj').symm
      rw [this]
      exact ho'
    · have hj' : j = l.length := by simp at hge; omega
      subst hj'
      rw [List.take_length] at ho
      refine Calls.mono (norm_specA ho.rd (by rw [split32_length]; omega) (split32_ok hok)) ?_
      rintro e w5 ⟨rfl, s', rfl, hr, hA⟩
      rw [split32_val] at hr
      refine ⟨_, rfl, ha, _, rfl, hr, fun ad e => ?_⟩
      rw [hA, ho.A] at e
      have := Option.some.inj e
      subst this
      obtain ⟨sp, _, hh⟩ := ho.mem
      exact ⟨hb, _, _, hh⟩
theorem Of_specN {w : World} {s : Slc} {l : List Nat} (h : Rd .u64 w s (nn l)) (hl : l.length * 8 ≤ 140737488351232) (hok : ok B64 l) :
    Calls pr surdref01_Of_id #[s.v] w fun e w' => Ahead w w' ∧ ∃ s', e = .returned (Slc.v s') ∧ RN w' s' (val B64 l) ∧ ∀ ad, s'.A = some ad → w.heap.size ≤ ad.block :=
  Calls.mono (Of_specT h hl hok) fun e w' ⟨h1, s', h2, h3, h4⟩ => ⟨h1, s', h2, h3, fun ad e => (h4 ad e).1⟩
theorem Of_spec {w : World} {s : Slc} {l : List Nat} (h : Rd .u64 w s (nn l)) (hl : l.length * 8 ≤ 140737488351232) (hok : ok B64 l) :
    Calls pr surdref01_Of_id #[s.v] w fun e w' => Ahead w w' ∧ ∃ s', e = .returned (Slc.v s') ∧ RN w' s' (val B64 l) :=
  Calls.mono (Of_specN h hl hok) fun e w' ⟨h1, s', h2, h3, _⟩ => ⟨h1, s', h2, h3⟩

theorem bl_len32 {l : List Nat} (h : ok B32 l) : bl (val B32 l) ≤ 32 * l.length := bl_le (by rw [← b32_pow]; exact val_lt h)

end Ref
end Go.Proofs.YtahbekmnphkiiaaDoor
namespace Go.Proofs.YtahbekmnphkiiaaDoor
open Go Go.RowKit Eng Sp Dg
set_option linter.unusedVariables false
set_option linter.unusedSimpArgs false
set_option maxRecDepth 100000
namespace Ref
open _root_.Go.Proofs.YtahbekmnphkiiaaDoor.Nat (ldN ldNf stN mkN cutHi cutCap Fill mkF stF stFf Num OwnNil)

theorem digs_lt_iff {B n j : Nat} (hB : 2 ≤ B) : j < (digs B n).length ↔ B ^ j ≤ n := by
  by_cases hn : n = 0
  · subst hn
    rw [digs_zero]
    have : 0 < B ^ j := Nat.pow_pos (by omega)
    simp; omega
  · obtain ⟨h1, h2⟩ := digs_length_bounds hB hn
    constructor
    · intro h
      exact Nat.le_trans (Nat.pow_le_pow_right (by omega) (by omega)) h1
    · intro h
      exact (Nat.pow_lt_pow_iff_right (by omega)).1 (Nat.lt_of_le_of_lt h h2)
theorem b64_sq (j : Nat) : B64 ^ j = B32 ^ (2 * j) := by rw [show B64 = B32 ^ 2 by decide, ← Nat.pow_mul]
theorem digs_64_32 {n j : Nat} : j < (digs B64 n).length ↔ 2 * j < (digs B32 n).length := by
  rw [digs_lt_iff two64, digs_lt_iff two32, b64_sq]
theorem limb_eq (n j : Nat) : (digs B64 n).getD j 0 = (digs B32 n).getD (2 * j) 0 + (digs B32 n).getD (2 * j + 1) 0 * B32 := by
  rw [digit (by have := B64v; omega) _ (ok_digs two64 n), digit (by have := B32v; omega) _ (ok_digs two32 n), digit (by have := B32v; omega) _ (ok_digs two32 n), val_digs two64, val_digs two32, b64_sq, Nat.pow_succ, ← Nat.div_div_eq_div_mul]
  generalize n / B32 ^ (2 * j) = U
  rw [show B64 = B32 * B32 by decide, Nat.mod_mul, Nat.mul_comm B32]

theorem Limbs_spec {w : World} {s : Slc} {n : Nat} (h : RN w s n) (hl : (digs B64 n).length ≤ 2 ^ 44) :
    Calls pr surdref01_Num_Limbs_id #[s.v] w fun e w' => Ahead w w' ∧ ∃ s', e = .returned (Slc.v s') ∧ OwnNil w.heap.size w' s' (digs B64 n) := by
  have hB := B64v
  have hB32 := B32v
  have hn := h.n
  have hok := ok_digs two32 n
  have hbnd : (digs B32 n).length ≤ 2 ^ 45 := by
    rcases Nat.lt_or_ge (2 ^ 45) (digs B32 n).length with h1 | h1
    · have := digs_64_32 (n := n) (j := 2 ^ 44)
      omega
    · exact h1
  refine surdref01_Num_Limbs_vc s w _ (fun t out i w' => t = s ∧ Ahead w w' ∧ ∃ j : Nat, i = 2 * (j : Int) ∧ j ≤ (digs B64 n).length ∧ OwnNil w.heap.size w' out ((digs B64 n).take j)) (fun _ _ i _ => (2 * ((digs B64 n).length : Int) - i).toNat)
    ⟨rfl, Ahead.refl _, 0, rfl, Nat.zero_le _, OwnNil.nil⟩ ?_
  rintro t out i w1 ⟨rfl, ha, j, rfl, hj, ho⟩
  have hiff := digs_64_32 (n := n) (j := j)
  refine br_intro (fun hlt => ?_) (fun hge => ?_)
  · have hj' : 2 * j < (digs B32 n).length := by simp at hlt; omega
    have hjj := hiff.2 hj'
    have hlimb := limb_eq n j
    have hx := ok_getD hok (by omega : 0 < B32) (2 * j)
    have hy := ok_getD hok (by omega : 0 < B32) (2 * j + 1)
    have hL := ok_getD (ok_digs two64 n) (by omega : 0 < B64) j
    have e8 : IntKind.i64.wrap (2 * (j : Int) + 2) = 2 * ((j + 1 : Nat) : Int) := by rw [wrap_i64 (by omega) (by omega)]; omega
    have e9 : IntKind.i64.wrap (2 * (j : Int) + 1) = ((2 * j + 1 : Nat) : Int) := by rw [wrap_i64 (by omega) (by omega)]; omega
    have ei : (2 * (j : Int)).toNat = 2 * j := by omega
    have step : ∀ (T : TypeId) (hT : isSl pr T .u64 = some tU64) (v : Nat), v = (digs B64 n).getD j 0 → newC w1 #[Value.int .u64 (v : Int)] tU64 fun ad3 w3 =>
        semS pr (Builtin.append_ #[T, T] T #[out.v, (⟨some ad3, 1, 1⟩ : Slc).v]) w3 fun s1 w4 =>
        (t = t ∧ Ahead w w4 ∧ ∃ j' : Nat, IntKind.i64.wrap (2 * (j : Int) + 2) = 2 * (j' : Int) ∧ j' ≤ (digs B64 n).length ∧ OwnNil w.heap.size w4 s1 ((digs B64 n).take j')) ∧
        (2 * ((digs B64 n).length : Int) - IntKind.i64.wrap (2 * (j : Int) + 2)).toNat < (2 * ((digs B64 n).length : Int) - 2 * (j : Int)).toNat := by
      rintro T hT v rfl
      have hal := Ahead.alloc w1 (.cells #[Value.int .u64 (((digs B64 n).getD j 0 : Nat) : Int)] tU64 (0, 0))
      have hlit : Rd .u64 (w1.alloc (.cells #[Value.int .u64 (((digs B64 n).getD j 0 : Nat) : Int)] tU64 (0, 0))) ⟨some ⟨w1.heap.size, 0, none⟩, 1, 1⟩ (nn [(digs B64 n).getD j 0]) :=
        Owr.rd (t := tU64) (b := w1.heap.size) ⟨rfl, [], rfl, by rw [get_alloc]; rfl⟩
      refine app (t := _) (e := tU64) (k := .u64) (l := nn ((digs B64 n).take j)) (base := w.heap.size) hT hlit (by simp)
        ((ho.ahead hal).imp (fun h => ⟨h.1, by rw [h.2]; rfl⟩) id) (ha.trans hal).size (by simp; omega) ?_
      intro s' w5 b' hb' hc' hown hbel hah
      refine ⟨⟨rfl, ?_, j + 1, e8, hjj, .inr ⟨b', hb', hc', ?_⟩⟩, by rw [e8]; omega⟩
      · refine hah w (ha.trans hal) fun b hb => ?_
        rcases ho with ⟨rfl, _⟩ | ⟨b2, h1, _, h3⟩
        · simp at hb
        · rw [h3.A] at hb; simp at hb; omega
      · rw [List.take_succ_eq_append_getElem hjj, nn_append, ← getD_lt _ 0 hjj]
        exact hown
    refine ldN (h.ahead ha) (by omega) (by omega) ?_
    rw [ei]
    refine br_intro (fun hin => ?_) (fun hin => ?_)
    · have hin' : 2 * j + 1 < (digs B32 n).length := by rw [e9] at hin; simp at hin; omega
      rw [e9]
      refine ldN (h.ahead ha) (by omega) (by omega) ?_
      rw [Int.toNat_natCast]
      have ev : IntKind.u64.wrap ((((digs B32 n).getD (2 * j) 0 : Nat) : Int) + IntKind.u64.wrap ((((digs B32 n).getD (2 * j + 1) 0 : Nat) : Int) * 4294967296)) = (((digs B64 n).getD j 0 : Nat) : Int) := by
        rw [hlimb]
        generalize (digs B32 n).getD (2 * j) 0 = a at *
        generalize (digs B32 n).getD (2 * j + 1) 0 = b at *
        rw [hB32] at *
        rw [wrap_u64' (x := (b : Int) * 4294967296) (by omega) (by omega), wrap_u64' (by omega) (by omega)]
        omega
      rw [ev]
      exact step _ (by kernel_rfl) _ rfl
    · have hin' : (digs B32 n).length ≤ 2 * j + 1 := by rw [e9] at hin; simp at hin; omega
      refine step _ (by kernel_rfl) _ ?_
      rw [hlimb, getD_ge _ 0 hin', Nat.zero_mul, Nat.add_zero]
  · have hj' : j = (digs B64 n).length := by
      have : ¬ 2 * j < (digs B32 n).length := by simp at hge; omega
      have := mt hiff.1 this
      omega
    subst hj'
    rw [List.take_length] at ho
    exact ⟨ha, _, rfl, ho⟩

theorem Is_spec {w : World} {s t : Slc} {n : Nat} (h : RN w s n) (ht : Rd .u64 w t (nn (digs B64 n))) (hl : (digs B64 n).length ≤ 2 ^ 44) :
    Calls pr surdref01_Num_Is_id #[s.v, t.v] w fun e w' => Ahead w w' ∧ e = .returned (.bool true) := by
  have htn : t.n = (digs B64 n).length := by rw [ht.n, nn_length]
  refine surdref01_Num_Is_vc s t w _ (fun p q m i w' => p = t ∧ m = ((digs B64 n).length : Int) ∧ Ahead w w' ∧ Rd .u64 w' q (nn (digs B64 n)) ∧ ∃ j : Nat, i = (j : Int) ∧ j ≤ (digs B64 n).length) (fun _ _ m i _ => (m - i).toNat) ?_ ?_
  · refine Calls.mono (Limbs_spec h hl) ?_
    rintro e w1 ⟨ha, s', rfl, ho⟩
    have hr := ho.rd
    have hn' : s'.n = (digs B64 n).length := by rw [hr.n, nn_length]
    exact ⟨_, rfl, br_false (by rw [hn', htn]; simp) ⟨rfl, by rw [hn'], ha, hr, 0, rfl, Nat.zero_le _⟩⟩
  · rintro p q m i w1 ⟨rfl, rfl, ha, hr, j, rfl, hj⟩
    refine br_intro (fun hlt => ?_) (fun hge => ?_)
    · have hj' : j < (digs B64 n).length := by simp at hlt; omega
      refine ldNf hr (by omega) (by omega) ?_
      refine ldNf (ht.ahead ha) (by omega) (by omega) ?_
      intro w2 ha2
      have e8 : IntKind.i64.wrap ((j : Int) + 1) = ((j + 1 : Nat) : Int) := by rw [wrap_i64 (by omega) (by omega)]; omega
      exact br_false (by simp) ⟨⟨rfl, rfl, ha.trans ha2, hr.ahead ha2, j + 1, e8, hj'⟩, by rw [e8]; omega⟩
    · exact ⟨ha, rfl⟩

theorem Int_spec {w : World} {v : Nat} (hv : v < 9223372036854775808) :
    Calls pr surdref01_Int_id #[.int .i64 (v : Int)] w fun e w' => Ahead w w' ∧ ∃ s', e = .returned (Slc.v s') ∧ RN w' s' v := by
  have hB := B64v
  refine surdref01_Int_vc _ w _ ?_
  rw [wrap_u64' (by omega) (by omega)]
  have hal := Ahead.alloc w (.cells #[Value.int .u64 (v : Int)] tU64 (0, 0))
  have hlit : Rd .u64 (w.alloc (.cells #[Value.int .u64 (v : Int)] tU64 (0, 0))) ⟨some ⟨w.heap.size, 0, none⟩, 1, 1⟩ (nn [v]) := Owr.rd (t := tU64) (b := w.heap.size) ⟨rfl, [], rfl, by rw [get_alloc]; rfl⟩
  refine Calls.mono (Of_spec hlit (by simp) (by intro y hy; simp at hy; omega)) ?_
  rintro e w2 ⟨ha, s', rfl, hr⟩
  exact ⟨_, rfl, hal.trans ha, _, rfl, by simpa [val] using hr⟩

end Ref
end Go.Proofs.YtahbekmnphkiiaaDoor
namespace Go.Proofs.YtahbekmnphkiiaaDoor
open Go Go.RowKit Eng Sp Dg
set_option linter.unusedVariables false
set_option linter.unusedSimpArgs false
set_option maxRecDepth 100000
namespace Ref
open _root_.Go.Proofs.YtahbekmnphkiiaaDoor.Nat (ldN ldNf stN mkN cutHi cutCap Fill mkF stF stFf Num OwnNil semShl semShr fixShl)

theorem tdiv32 {n : Int} (h0 : 0 ≤ n) (h1 : n ≤ 9223372036854775807) : IntKind.i64.wrap (Int.tdiv n 32) = ((n.toNat / 32 : Nat) : Int) := by
  have : Int.tdiv n 32 = ((n.toNat / 32 : Nat) : Int) := by rw [Int.tdiv_eq_ediv_of_nonneg h0]; omega
  rw [this, wrap_i64 (by omega) (by omega)]
theorem tmod32 {n : Int} (h0 : 0 ≤ n) : Int.tmod n 32 = ((n.toNat % 32 : Nat) : Int) := by rw [Int.tmod_eq_emod_of_nonneg h0]; omega

theorem shr_digit (U s : Nat) (hs : s < 32) : (U % 2 ^ 32 + 2 ^ 32 * (U / 2 ^ 32 % 2 ^ 32)) / 2 ^ s % 2 ^ 32 = U / 2 ^ s % 2 ^ 32 := by
  have e1 : 2 ^ 32 * 2 ^ 32 = 2 ^ s * 2 ^ (64 - s) := by rw [← Nat.pow_add, ← Nat.pow_add]; congr 1; omega
  have e2 : 2 ^ (64 - s) = 2 ^ 32 * 2 ^ (32 - s) := by rw [← Nat.pow_add]; congr 1; omega
  have e3 : U % 2 ^ 32 + 2 ^ 32 * (U / 2 ^ 32 % 2 ^ 32) = U % (2 ^ s * 2 ^ (64 - s)) := by rw [← e1]; exact (Nat.mod_mul).symm
  rw [e3, Nat.mod_mul_right_div_self, e2, Nat.mod_mul_right_mod]

theorem Shr_specN {w : World} {p : Slc} {x : Nat} {n : Int} (hp : RN w p x) (h0 : 0 ≤ n) (h1 : n ≤ 9223372036854775807) (la : (digs B32 x).length ≤ 2 ^ 45) :
    Calls pr surdref01_Shr_id #[p.v, .int .i64 n] w fun e w' => Ahead w w' ∧ ∃ s', e = .returned (Slc.v s') ∧ RN w' s' (x / 2 ^ n.toNat) ∧ ∀ ad, s'.A = some ad → w.heap.size ≤ ad.block := by
  have hB32 := B32v
  have hB := B64v
  have hna := hp.n
  have oa := ok_digs two32 x
  have vx := val_digs two32 x
  have h32 : B32 = 2 ^ 32 := rfl
  have hp2 : B32 ^ (n.toNat / 32) * 2 ^ (n.toNat % 32) = 2 ^ n.toNat := (pow_split n.toNat 32).symm
  have hw : n.toNat % 32 < 32 := Nat.mod_lt _ (by omega)
  unfold RN at hp
  generalize digs B32 x = A at *
  refine surdref01_Shr_vc p n w _ (fun t0 t1 out t6 t23 t24 w' => t0 = p ∧ t1 = n ∧ t6 = ((n.toNat % 32 : Nat) : Int) ∧ t23 = ((A.length - n.toNat / 32 : Nat) : Int) ∧ n.toNat / 32 < A.length ∧ ∃ (l : List Nat) (j : Nat), t24 = (j : Int) ∧ j ≤ A.length - n.toNat / 32 ∧
    Fill w w' out l (fun _ => True) ∧ l.length = A.length - n.toNat / 32 ∧ ok B32 l ∧ ∀ i, i < j → l.getD i 0 = x / 2 ^ n.toNat / B32 ^ i % B32) (fun _ _ _ _ n i _ => (n - i).toNat) ?_ ?_
  · rw [tdiv32 h0 h1, tmod32 h0]
    refine br_intro (fun hz => ?_) (fun hz => ?_)
    · have hz' : A.length ≤ n.toNat / 32 := by simp at hz; omega
      have hv : x / 2 ^ n.toNat = 0 := by
        apply Nat.div_eq_of_lt
        rw [← vx, ← hp2]
        refine Nat.lt_of_lt_of_le (val_lt oa) (Nat.le_trans (Nat.pow_le_pow_right (by omega) hz') ?_)
        exact Nat.le_mul_of_pos_right _ (Nat.pow_pos (by omega))
      exact ⟨Ahead.refl _, _, rfl, by rw [hv]; exact RN.nil, fun ad h => by cases h⟩
    · have hz' : n.toNat / 32 < A.length := by simp at hz; omega
      rw [wrap_i64 (x := (p.n : Int) - _) (by omega) (by omega), show (p.n : Int) - ((n.toNat / 32 : Nat) : Int) = ((A.length - n.toNat / 32 : Nat) : Int) by omega]
      refine mkF (S := fun _ => True) (w0 := w) (by omega) (by omega) (Ahead.refl _) trivial ?_
      intro s w1 hsn hf ha
      exact ⟨rfl, rfl, rfl, by rw [hsn]; simp, hz', _, 0, rfl, Nat.zero_le _, hf, by simp, ok_replicate (by omega) _, fun i hi => by omega⟩
  · rintro t0 t1 out t6 t23 t24 w1 ⟨rfl, rfl, rfl, rfl, hz, l, j, rfl, hj, hf, hl, ol, hd⟩
    refine br_intro (fun hlt => ?_) (fun hge => ?_)
    · have hj' : j < A.length - t1.toNat / 32 := by simp at hlt; omega
      have hx := ok_getD oa (by omega : 0 < B32) (t1.toNat / 32 + j)
      have hy := ok_getD oa (by omega : 0 < B32) (t1.toNat / 32 + j + 1)
      rw [tdiv32 h0 h1, wrap_i64 (x := (j : Int) + _) (by omega) (by omega), show (j : Int) + ((t1.toNat / 32 : Nat) : Int) = ((t1.toNat / 32 + j : Nat) : Int) by omega,
        wrap_i64 (x := ((t1.toNat / 32 + j : Nat) : Int) + 1) (by omega) (by omega), show ((t1.toNat / 32 + j : Nat) : Int) + 1 = ((t1.toNat / 32 + j + 1 : Nat) : Int) by omega]
      refine ldNf ((hp.ahead hf.base).ahead (Ahead.drew _)) (by omega) (by omega) ?_
      refine Calls.mono (at_spec ((hp.ahead hf.base).ahead (Ahead.drew _)) (by omega)) ?_
      rintro e w4 ⟨rfl, rfl⟩
      have ha4 : Ahead w1 w1.drew := Ahead.drew _
      refine ⟨_, rfl, Ahead.refl _, ?_⟩
      simp only [Int.toNat_natCast]
      have e1 : IntKind.u64.wrap (((A.getD (t1.toNat / 32 + j) 0 : Nat) : Int) + IntKind.u64.wrap (((A.getD (t1.toNat / 32 + j + 1) 0 : Nat) : Int) * 4294967296)) = ((A.getD (t1.toNat / 32 + j) 0 + B32 * A.getD (t1.toNat / 32 + j + 1) 0 : Nat) : Int) := by
        generalize A.getD (t1.toNat / 32 + j) 0 = a at *
        generalize A.getD (t1.toNat / 32 + j + 1) 0 = b at *
        rw [hB32] at *
        rw [wrap_u64' (x := (b : Int) * 4294967296) (by omega) (by omega), wrap_u64' (by omega) (by omega)]; omega
      rw [e1]
      refine semShr (by omega) ?_
      have e2 : ∀ v : Nat, Int.tmod (v : Int) 4294967296 = ((v % B32 : Nat) : Int) := fun v => by rw [Int.tmod_eq_emod_of_nonneg (by omega), hB32]; omega
      rw [e2]
      refine stF (hf.ahead ha4) (by omega) (by omega) ?_
      intro w7 hf7
      rw [Int.toNat_natCast] at hf7
      have e8 : IntKind.i64.wrap ((j : Int) + 1) = ((j + 1 : Nat) : Int) := by rw [wrap_i64 (by omega) (by omega)]; omega
      refine ⟨⟨by trivial, by trivial, by trivial, by trivial, hz, _, j + 1, e8, hj', hf7, by simpa using hl, ok_set ol (Nat.mod_lt _ (by omega)), fun i hi => ?_⟩, by rw [e8]; omega⟩
      rw [getD_set _ _ _ _ (by omega)]
      split
      · rename_i hij
        subst hij
        rw [digit (by omega : 0 < B32) A oa (t1.toNat / 32 + j), digit (by omega : 0 < B32) A oa (t1.toNat / 32 + j + 1), vx, ← hp2, Nat.pow_succ, h32, div_pow_add, ← Nat.div_div_eq_div_mul, ← Nat.div_div_eq_div_mul]
        exact shr_digit _ _ hw
      · exact hd i (by omega)
    · have hj' : j = A.length - t1.toNat / 32 := by simp at hge; omega
      subst hj'
      have hv : val B32 l = x / 2 ^ t1.toNat := by
        refine val_of_digits (by omega) l _ ?_ (fun i hi => hd i (by omega))
        rw [Nat.div_lt_iff_lt_mul (Nat.pow_pos (by omega)), ← hp2, ← Nat.mul_assoc, hl, ← Nat.pow_add, show A.length - t1.toNat / 32 + t1.toNat / 32 = A.length by omega, ← vx]
        exact Nat.lt_of_lt_of_le (val_lt oa) (Nat.le_mul_of_pos_right _ (Nat.pow_pos (by omega)))
      refine Calls.mono (norm_specA hf.rd (by omega) ol) ?_
      rintro e w6 ⟨rfl, s', rfl, hr, hA⟩
      rw [hv] at hr
      refine ⟨_, rfl, hf.base, _, rfl, hr, fun ad had => ?_⟩
      rw [hA] at had
      obtain ⟨b, _, ho, _, hb, _⟩ := hf
      rw [ho.A] at had
      obtain rfl := Option.some.inj had
      exact hb

theorem len_mono {B x y : Nat} (hB : 2 ≤ B) (h : x ≤ y) : (digs B x).length ≤ (digs B y).length := by
  rcases Nat.lt_or_ge (digs B y).length (digs B x).length with h1 | h1
  · have := digs_len_lt hB h1; omega
  · exact h1

def A5 : Nat := 10855845
def lent (l : List Nat) : List Nat := A5 :: A5 :: (l ++ [A5, A5])

/-- What Lend hands out: the whole row, and the part in its middle. -/
def Lent (base : Nat) (w : World) (s t : Slc) (l : List Nat) : Prop :=
  ∃ b, base ≤ b ∧ s.c = l.length + 4 ∧ Owr .u64 tU64 w s (nn (lent l)) b ∧ t = ⟨some ⟨b, 2, none⟩, l.length, l.length + 2⟩
theorem Lent.whole {base : Nat} {w : World} {s t : Slc} {l : List Nat} (h : Lent base w s t l) : Rd .u64 w s (nn (lent l)) := by
  obtain ⟨b, _, _, ho, _⟩ := h; exact ho.rd

end Ref
end Go.Proofs.YtahbekmnphkiiaaDoor
namespace Go.Proofs.YtahbekmnphkiiaaDoor
open Go Go.RowKit Eng
set_option linter.unusedVariables false

set_option maxRecDepth 100000 in
/-- surd/surdlaw08.num: function 28. -/
theorem surdlaw08_num_vc (a0_e : Int) (w : World) (R : Ending → World → Prop)
    
    (h : R (.returned (Value.int .i64 a0_e)) w) :
    Calls Tryd.prog 28 #[Value.int .i64 a0_e] w R := by
  refine calls_of_vc (fun _ => none) (by kernel_rfl) Tryd.func28 rfl ?_ ?_
  · refine kcast h ?_; kernel_rfl
  · exact (obl_seq rfl (obl_reg (obl_seq rfl (obl_reg (obl_ret trivial)))))

set_option maxRecDepth 100000 in
/-- surd/surdlaw08.awake: function 8. -/
theorem surdlaw08_awake_vc  (w : World) (R : Ending → World → Prop)
    
    (h : newC w #[Value.int .u64 12] 47 fun ad1 w1 =>
    Calls Tryd.prog 33 #[Value.agg #[Value.bool false, (⟨some ad1, 1, 1⟩ : Slc).v], Value.int .i64 (-3)] w1 fun e1 w2 =>
    ∃ b1 : Bool, ∃ s1 : Slc, ∃ x1 : Int, ∃ x2 : Int, e1 = .returned (Value.tuple #[Value.agg #[Value.bool b1, s1.v, Value.int .i64 x1], Value.int .i64 x2]) ∧
    (newC w2 #[Value.bool false, (⟨none, 0, 0⟩ : Slc).v, Value.int .i64 0] 39 fun ad2 w3 =>
     stC ad2 (Value.bool b1) w3 fun w4 =>
     stC (ad2.add 1) s1.v w4 fun w5 =>
     stC (ad2.add 2) (Value.int .i64 x1) w5 fun w6 =>
     Calls Tryd.prog 28 #[Value.int .i64 x2] w6.drew fun e2 w7 =>
     ∃ x3 : Int, e2 = .returned (Value.int .i64 x3) ∧
     (Ahead w6.drew w7 ∧
      (br (x3 == 0)
       (ldB ad2 w7 fun b2 =>
        ldS (ad2.add 1) w7 fun s2 =>
        ldI .i64 (ad2.add 2) w7 fun x4 =>
        Calls Tryd.prog 34 #[Value.int .i64 3, Value.int .i64 (-1)] w7 fun e3 w8 =>
        ∃ b3 : Bool, ∃ s3 : Slc, ∃ x5 : Int, e3 = .returned (Value.agg #[Value.bool b3, s3.v, Value.int .i64 x5]) ∧
        (Ahead w7 w8 ∧
         (Calls Tryd.prog 35 #[Value.agg #[Value.bool b3, s3.v, Value.int .i64 x5], Value.bool b2, s2.v, Value.int .i64 x4] w8 fun e4 w9 =>
          ∃ b4 : Bool, e4 = .returned (Value.bool b4) ∧
          (Ahead w8 w9 ∧
           (R (.returned (Value.bool b4)) w9)))))
       (R (.returned (Value.bool false)) w7))))) :
    Calls Tryd.prog 8 #[] w R := by
  refine calls_of_vc (fun _ => none) (by kernel_rfl) Tryd.func8 rfl ?_ ?_
  · refine kcast h ?_; kernel_rfl
  · exact (obl_seq rfl (obl_reg (obl_seq rfl (obl_reg (obl_seq rfl (obl_held (by kernel_rfl) (by kernel_rfl) (by kernel_rfl) (obl_ret trivial)))))))

set_option maxRecDepth 100000 in
/-- surd/surdlaw08.in: function 12. -/
theorem surdlaw08_in_vc (a0_a_0 : Bool) (a0_a_1 : Slc) (a0_a_2 : Int) (w : World) (R : Ending → World → Prop)
    
    (h : newC w #[Value.bool a0_a_0, a0_a_1.v, Value.int .i64 a0_a_2] 24 fun ad1 w1 =>
    newC w1 #[Value.bool false, (⟨none, 0, 0⟩ : Slc).v, Value.int .i64 0] 39 fun ad2 w2 =>
    ldB ad1 w2 fun b1 =>
    ldS (ad1.add 1) w2 fun s1 =>
    ldI .i64 (ad1.add 2) w2 fun x1 =>
    stC ad2 (Value.bool b1) w2 fun w3 =>
    stC (ad2.add 1) s1.v w3 fun w4 =>
    stC (ad2.add 2) (Value.int .i64 x1) w4 fun w5 =>
    ldB ad2 w5 fun b2 =>
    ldS (ad2.add 1) w5 fun s2 =>
    ldI .i64 (ad2.add 2) w5 fun x2 =>
    R (.returned (Value.agg #[Value.bool b2, s2.v, Value.int .i64 x2])) w5) :
    Calls Tryd.prog 12 #[Value.agg #[Value.bool a0_a_0, a0_a_1.v, Value.int .i64 a0_a_2]] w R := by
  refine calls_of_vc (fun _ => none) (by kernel_rfl) Tryd.func12 rfl ?_ ?_
  · refine kcast h ?_; kernel_rfl
  · exact (obl_seq rfl (obl_reg (obl_seq rfl (obl_reg (obl_ret trivial)))))

set_option maxRecDepth 100000 in
/-- surd/surdlaw08.same: function 26. -/
theorem surdlaw08_same_vc (a0_a_0 : Bool) (a0_a_1 : Slc) (a0_a_2 : Int) (a1_b_0 : Bool) (a1_b_1 : Slc) (a1_b_2 : Int) (w : World) (R : Ending → World → Prop)
    
    (h : newC w #[Value.bool a0_a_0, a0_a_1.v, Value.int .i64 a0_a_2] 39 fun ad1 w1 =>
    newC w1 #[Value.bool a1_b_0, a1_b_1.v, Value.int .i64 a1_b_2] 39 fun ad2 w2 =>
    ldB ad1 w2.drew fun b1 =>
    ldS (ad1.add 1) w2.drew fun s1 =>
    ldB ad2 w2.drew fun b2 =>
    ldS (ad2.add 1) w2.drew fun s2 =>
    Calls Tryd.prog 15 #[Value.bool b1, s1.v] w2.drew fun e1 w3 =>
    ∃ b3 : Bool, ∃ s3 : Slc, e1 = .returned (Value.agg #[Value.bool b3, s3.v]) ∧
    (Ahead w2.drew w3 ∧
     (Calls Tryd.prog 59 #[Value.agg #[Value.bool b3, s3.v], Value.bool b2, s2.v] w3 fun e2 w4 =>
      ∃ b4 : Bool, e2 = .returned (Value.bool b4) ∧
      (Ahead w3 w4 ∧
       (br b4
        (ldI .i64 (ad1.add 2) w4 fun x1 =>
         ldI .i64 (ad2.add 2) w4 fun x2 =>
         R (.returned (Value.bool (x1 == x2))) w4)
        (R (.returned (Value.bool false)) w4)))))) :
    Calls Tryd.prog 26 #[Value.agg #[Value.bool a0_a_0, a0_a_1.v, Value.int .i64 a0_a_2], Value.agg #[Value.bool a1_b_0, a1_b_1.v, Value.int .i64 a1_b_2]] w R := by
  refine calls_of_vc (fun _ => none) (by kernel_rfl) Tryd.func26 rfl ?_ ?_
  · refine kcast h ?_; kernel_rfl
  · exact (obl_seq rfl (obl_reg (obl_seq rfl (obl_held (by kernel_rfl) (by kernel_rfl) (by kernel_rfl) (obl_ret trivial)))))

def surdlaw08_all_cut (J0 : Slc → Int → Int → World → Prop) (m0 : Slc → Int → Int → World → Nat) : Nat → Option ((Act → World → Prop) × (Act → World → Nat))
  | 0 => some (fun a_ w_ => atSz a_ 15 (atS a_ 5 fun t5 => atI .i64 a_ 6 fun t6 => atI .i64 a_ 7 fun t7 => J0 t5 t6 t7 w_), fun a_ w_ => mS a_ 5 fun t5 => mI a_ 6 fun t6 => mI a_ 7 fun t7 => m0 t5 t6 t7 w_)
  | _ => none

set_option maxRecDepth 100000 in
/-- surd/surdlaw08.all: function 24. -/
theorem surdlaw08_all_vc (a0_l : Slc) (w : World) (R : Ending → World → Prop)
    (J0 : Slc → Int → Int → World → Prop) (m0 : Slc → Int → Int → World → Nat)
    (h : J0 a0_l (a0_l.n : Int) 0 w)
    (h0 : ∀ (t5 : Slc) (t6 : Int) (t7 : Int) (w_ : World), J0 t5 t6 t7 w_ → 
    br (decide (t7 < t6))
    (semA Tryd.prog (Instr.indexAt 99 t5.v (Value.int .i64 t7)) w_ fun ad1 w1 =>
     ldI .i64 ad1 w1 fun x1 =>
     Calls Tryd.prog 28 #[Value.int .i64 x1] w1 fun e1 w2 =>
     ∃ x2 : Int, e1 = .returned (Value.int .i64 x2) ∧
     (br (x2 != 0)
      (R (.returned (Value.bool false)) w2)
      (J0 t5 t6 (IntKind.i64.wrap (t7 + 1)) w2 ∧
       m0 t5 t6 (IntKind.i64.wrap (t7 + 1)) w2 < m0 t5 t6 t7 w_)))
    (R (.returned (Value.bool true)) w_)) :
    Calls Tryd.prog 24 #[a0_l.v] w R := by
  refine calls_of_vc (surdlaw08_all_cut J0 m0) (by kernel_rfl) Tryd.func24 rfl ?_ ?_
  · refine kcast h ?_; kernel_rfl
  · exact (obl_seq rfl (obl_reg (obl_seq rfl (obl_seq rfl (obl_reg (obl_loop _ rfl (fun a_ w_ hL_ => (by
    obtain ⟨hz_, hd_, hL_⟩ := atSz_out hL_
    obtain ⟨t5, h5_, hL_⟩ := atS_out hL_
    obtain ⟨t6, h6_, hL_⟩ := atI_out hL_
    obtain ⟨t7, h7_, hL_⟩ := atI_out hL_
    obtain ⟨g0, rfl⟩ : ∃ g, a_ = Fr 15 [(5, t5.v), (6, Value.int .i64 t6), (7, Value.int .i64 t7)] g := ⟨_, fr_of hz_ hd_ [(5, t5.v), (6, Value.int .i64 t6), (7, Value.int .i64 t7)] (sel_cons h5_ (sel_cons h6_ (sel_cons h7_ sel_nil)))⟩
    clear hz_ hd_ h5_ h6_ h7_
    have hJ0_ := hL_
    refine ⟨(fun _ => none), kcast (h0 t5 t6 t7 w_ hJ0_) ?_, ?_⟩
    · kernel_rfl
    · exact (obl_seq rfl (obl_reg (obl_seq rfl (obl_cond (obl_skip (obl_exit (obl_seq rfl (obl_blk rfl (obl_seq rfl (obl_reg (obl_seq rfl (obl_reg (obl_cond (obl_seq rfl (obl_reg (obl_ret (obl_skip (obl_reg trivial)))))))))))))))))))) (obl_seq rfl (obl_reg (obl_ret trivial)))))))))

end Go.Proofs.YtahbekmnphkiiaaDoor
namespace Go.Proofs.YtahbekmnphkiiaaDoor
open Go Go.RowKit Eng Sp Dg
set_option linter.unusedVariables false
set_option linter.unusedSimpArgs false
set_option maxRecDepth 100000
namespace Dy
open _root_.Go.Proofs.YtahbekmnphkiiaaDoor.Nat (ldN ldNf stF stFf mkF Fill OwnNil Num Num.bl OwnNil.mono bigC rightC right_num Norm_spec Length_spec len_num semShr fixShl orI_nat digs_len_bl)
open Sb

theorem tdivN {n : Nat} (h : n ≤ 9223372036854775807) : IntKind.i64.wrap (Int.tdiv (n : Int) 64) = ((n / 64 : Nat) : Int) := by
  have : Int.tdiv (n : Int) 64 = ((n / 64 : Nat) : Int) := by rw [Int.tdiv_eq_ediv_of_nonneg (by omega)]; omega
  rw [this, wrap_i64 (by omega) (by omega)]
theorem tmodN (n : Nat) : IntKind.u64.wrap (Int.tmod (n : Int) 64) = ((n % 64 : Nat) : Int) := by
  rw [Int.tmod_eq_emod_of_nonneg (by omega), wrap_u64]; omega

set_option maxHeartbeats 1000000 in
theorem shifted_spec {w : World} {a : Slc} {x k : Nat} (ra : Rd .u64 w a (nn (digs B64 x))) (na : (digs B64 x).length ≤ 2 ^ 44) (hk : k < bl x) :
    Calls pr dyadic_shifted_id #[a.v, .int .i64 (k : Int)] w fun e w' => Ahead w w' ∧ ∃ s, e = .returned (Slc.v s) ∧ OwnNil w.heap.size w' s (digs B64 (x / 2 ^ k)) := by
  have hB := B64v
  have h64 : B64 = 2 ^ 64 := rfl
  have hA0 := val_digs two64 x
  have hoA := ok_digs two64 x
  have hbl := bl_len hoA
  rw [hA0] at hbl
  have hw : k % 64 < 64 := Nat.mod_lt _ (by omega)
  have hp2 : B64 ^ (k / 64) * 2 ^ (k % 64) = 2 ^ k := (pow_split k 64).symm
  have hnum : Num w a x := ⟨_, ra, na, hoA, hA0⟩
  have hna : a.n = (digs B64 x).length := by rw [ra.n, nn_length]
  generalize digs B64 x = A at *
  have hk64 : k / 64 < A.length := by omega
  refine dyadic_shifted_vc a k w _ (fun t0 t7 t8 t9 t31 t32 w' => t0 = a ∧ t7 = ((k / 64 : Nat) : Int) ∧ t8 = ((k % 64 : Nat) : Int) ∧ t31 = ((A.length - k / 64 : Nat) : Int) ∧ ∃ (l : List Nat) (j : Nat), t32 = (j : Int) ∧ j ≤ A.length - k / 64 ∧
    Fill w w' t9 l (fun w' => Rd .u64 w' a (nn A)) ∧ l.length = A.length - k / 64 ∧ ok B64 l ∧ ∀ i, i < j → l.getD i 0 = x / 2 ^ k / B64 ^ i % B64) (fun _ _ _ _ n i _ => (n - i).toNat) ?_ ?_
  · refine Calls.mono (right_num hnum (n := (k : Int))) ?_
    rintro e w1 ⟨h1, s, rfl, os⟩
    have ek : ((k : Int)).toNat = k := by omega
    rw [ek] at os
    refine ⟨_, _, rfl, br_intro (fun hc => ?_) (fun hc => ?_)⟩
    · have hc0 : rightC x (k : Int) = 0 := by simpa using hc
      rw [if_pos hc0] at os
      exact ⟨h1, s, rfl, os⟩
    · rw [tdivN (by omega), tmodN, hna, wrap_i64 (by omega) (by omega), show (A.length : Int) - ((k / 64 : Nat) : Int) = ((A.length - k / 64 : Nat) : Int) by omega]
      refine mkF (w0 := w) (S := fun w' => Rd .u64 w' a (nn A)) (by omega) (by omega) h1 (ra.ahead h1) ?_
      intro c w3 hcn hf ha
      exact ⟨rfl, rfl, rfl, by rw [hcn]; simp, _, 0, rfl, Nat.zero_le _, hf, by simp, ok_replicate (by omega) _, fun i hi => by omega⟩
  · rintro t0 t7 t8 t9 t31 t32 w' ⟨rfl, rfl, rfl, rfl, l, j, rfl, hj, hf, hl, ol, hd⟩
    have hS := hf.src (fun _ h hs => Rd.ahead hs h)
    have hN : ∀ i, x / 2 ^ k / B64 ^ i % B64 = A.getD (k / 64 + i) 0 / 2 ^ (k % 64) + 2 ^ (64 - k % 64) * (A.getD (k / 64 + i + 1) 0 % 2 ^ (k % 64)) := by
      intro i
      rw [digit (by omega : 0 < B64) A hoA (k / 64 + i), digit (by omega : 0 < B64) A hoA (k / 64 + i + 1), hA0, ← hp2]
      rw [h64, div_pow_add, right_digit _ _ _ _ hw]
      congr 2
      generalize x / (2 ^ 64) ^ (k / 64 + i + 1) = U
      rw [show 2 ^ 64 = 2 ^ (k % 64) * 2 ^ (64 - k % 64) by rw [← Nat.pow_add]; congr 1; omega, Nat.mod_mul_right_mod]
    refine br_intro (fun hlt => ?_) (fun hge => ?_)
    · have hj' : j < A.length - k / 64 := by simp at hlt; omega
      have hx := ok_getD hoA (by omega : 0 < B64) (k / 64 + j)
      have hN' := hN j
      have e8 : IntKind.i64.wrap ((j : Int) + 1) = ((j + 1 : Nat) : Int) := by rw [wrap_i64 (by omega) (by omega)]; omega
      rw [wrap_i64 (x := (j : Int) + ((k / 64 : Nat) : Int)) (by omega) (by omega), show (j : Int) + ((k / 64 : Nat) : Int) = ((k / 64 + j : Nat) : Int) by omega,
        wrap_i64 (x := ((k / 64 + j : Nat) : Int) + 1) (by omega) (by omega), show ((k / 64 + j : Nat) : Int) + 1 = ((k / 64 + j + 1 : Nat) : Int) by omega]
      refine ldN hS (by omega) (by omega) ?_
      refine semShr (by omega) ?_
      simp only [Int.toNat_natCast]
      have hq : A.getD (k / 64 + j) 0 / 2 ^ (k % 64) < B64 := Nat.lt_of_le_of_lt (Nat.div_le_self _ _) hx
      have hvlt : x / 2 ^ k / B64 ^ j % B64 < B64 := Nat.mod_lt _ (by omega)
      refine stF hf (by omega) (by omega) ?_
      intro w6 hf6
      simp only [Int.toNat_natCast] at hf6
      have fin : ∀ {w7 : World}, Fill w w7 t9 (l.set j (x / 2 ^ k / B64 ^ j % B64)) (fun w' => Rd .u64 w' t0 (nn A)) →
          (True ∧ True ∧ True ∧ True ∧ ∃ (l : List Nat) (j' : Nat), IntKind.i64.wrap ((j : Int) + 1) = (j' : Int) ∧ j' ≤ A.length - k / 64 ∧
            Fill w w7 t9 l (fun w' => Rd .u64 w' t0 (nn A)) ∧ l.length = A.length - k / 64 ∧ ok B64 l ∧ ∀ i, i < j' → l.getD i 0 = x / 2 ^ k / B64 ^ i % B64) ∧
          (((A.length - k / 64 : Nat) : Int) - IntKind.i64.wrap ((j : Int) + 1)).toNat < (((A.length - k / 64 : Nat) : Int) - (j : Int)).toNat := by
        intro w7 hf7
        refine ⟨⟨trivial, trivial, trivial, trivial, _, j + 1, e8, by omega, hf7, by simpa using hl, ok_set ol hvlt, fun i hi => ?_⟩, by rw [e8]; omega⟩
        rw [getD_set _ _ _ _ (by omega)]
        split
        · rename_i h; subst h; rfl
        · exact hd i (by omega)
      refine br_intro (fun hs => br_intro (fun hin => ?_) (fun hin => ?_)) (fun hs => ?_)
      · have hs1 : 0 < k % 64 := by simp at hs; omega
        have hin' : k / 64 + j + 1 < A.length := by simp at hin; omega
        have hS6 := hf6.src (fun _ h hs => Rd.ahead hs h)
        refine ldNf hf6.rd (by omega) (by simp; omega) ?_
        refine ldNf hS6 (by omega) (by omega) ?_
        simp only [Int.toNat_natCast]
        rw [show IntKind.u64.wrap (64 - ((k % 64 : Nat) : Int)) = ((64 - k % 64 : Nat) : Int) by rw [wrap_u64' (by omega) (by omega)]; omega]
        refine fixShl (by omega) ?_
        rw [getD_set _ _ _ _ (by omega), if_pos rfl, orI_nat hq (Nat.mod_lt _ (by omega))]
        have e5 : A.getD (k / 64 + j + 1) 0 * 2 ^ (64 - k % 64) % B64 = 2 ^ (64 - k % 64) * (A.getD (k / 64 + j + 1) 0 % 2 ^ (k % 64)) := by
          rw [h64, shl_lo _ _ _ (by omega)]
          congr 3; omega
        have hql : A.getD (k / 64 + j) 0 / 2 ^ (k % 64) < 2 ^ (64 - k % 64) := by
          rw [Nat.div_lt_iff_lt_mul (Nat.pow_pos (by omega)), ← Nat.pow_add, show 64 - k % 64 + k % 64 = 64 by omega]
          exact hx
        rw [e5, or_add hql, ← hN']
        refine stFf hf6 (Ahead.drew _) (by omega) (by simp; omega) ?_
        intro w7 hf7
        simp only [Int.toNat_natCast, List.set_set] at hf7
        exact fin hf7
      · have hin' : A.length ≤ k / 64 + j + 1 := by simp at hin; omega
        rw [getD_ge A 0 hin', Nat.zero_mod, Nat.mul_zero, Nat.add_zero] at hN'
        rw [← hN'] at hf6
        exact fin hf6
      · have hs0 : k % 64 = 0 := by simp at hs; omega
        have : x / 2 ^ k / B64 ^ j % B64 = A.getD (k / 64 + j) 0 / 2 ^ (k % 64) := by rw [hN', hs0]; simp [Nat.mod_one]
        rw [← this] at hf6
        exact fin hf6
    · have hj' : j = A.length - k / 64 := by simp at hge; omega
      subst hj'
      have hv : val B64 l = x / 2 ^ k := by
        refine val_of_digits (by omega) l _ ?_ (fun i hi => hd i (by omega))
        rw [Nat.div_lt_iff_lt_mul (Nat.pow_pos (by omega)), ← hp2, ← Nat.mul_assoc, hl, ← Nat.pow_add, show A.length - k / 64 + k / 64 = A.length by omega, ← hA0]
        exact Nat.lt_of_lt_of_le (val_lt hoA) (Nat.le_mul_of_pos_right _ (Nat.pow_pos (by omega)))
      refine Calls.mono (Norm_spec hf.rd (by omega) ol) ?_
      rw [hv]
      rintro e w3 ⟨h3, s, rfl, os⟩
      exact ⟨_, rfl, hf.base.trans h3, _, rfl, os.mono hf.base.size⟩

def nD (neg : Bool) (x : Nat) : Bool := neg && decide (x ≠ 0)
def eD (x : Nat) (e : Int) : Int := if x = 0 then 0 else e + tz x
def wi (e : Int) : Prop := -1099511627776 ≤ e ∧ e ≤ 1099511627776
instance (e : Int) : Decidable (wi e) := inferInstanceAs (Decidable (_ ∧ _))
/-- The number of an answer. -/
def tC (x : Nat) (e : Int) : Int := if 67108864 < bl (od x) then 3 else if wi (eD x e) then 0 else 80
/-- An answer: a dyadic in lowest terms, or nothing and a number. -/
def DOut (w : World) (code : Int) (neg : Bool) (x : Nat) (e : Int) (en : Ending) (w' : World) : Prop := Ahead w w' ∧ ∃ s, en = .returned (.tuple #[.agg (c3 (if code = 0 then nD neg x else false) s (if code = 0 then eD x e else 0)), .int .i64 code]) ∧
  OwnNil w.heap.size w' s (if code = 0 then digs B64 (od x) else [])
theorem DOut.refused {w w' : World} {code c : Int} {neg : Bool} {x : Nat} {e : Int} (h : Ahead w w') (hc : code = c) (h0 : c ≠ 0) : DOut w code neg x e (.returned (.tuple #[.agg (c3 false ⟨none, 0, 0⟩ 0), .int .i64 c])) w' := by
  subst hc
  exact ⟨h, _, by rw [if_neg h0, if_neg h0], Or.inl ⟨rfl, if_neg h0⟩⟩
theorem DOut.told {w w' : World} {code : Int} {neg : Bool} {x : Nat} {e : Int} {s : Slc} (h : Ahead w w') (hc : code = 0) (ho : OwnNil w.heap.size w' s (digs B64 (od x))) : DOut w code neg x e (.returned (.tuple #[.agg (c3 (nD neg x) s (eD x e)), .int .i64 0])) w' := by
  subst hc
  exact ⟨h, s, rfl, ho⟩
theorem nD_zero (neg : Bool) : nD neg 0 = false := by simp [nD]
theorem nD_ne {neg : Bool} {x : Nat} (h : x ≠ 0) : nD neg x = neg := by simp [nD, h]
theorem nD_od (neg : Bool) (x : Nat) : nD (nD neg x) (od x) = nD neg x := by
  by_cases h : x = 0
  · subst h; simp [nD, od_zero]
  · rw [nD_ne h, nD_ne (od_ne h)]
theorem eD_zero (e : Int) : eD 0 e = 0 := if_pos rfl

theorem within_spec {w : World} {e : Int} : Calls pr dyadic_within_id #[.int .i64 e] w fun en w' => w' = w ∧ en = .returned (.bool (decide (wi e))) := by
  refine dyadic_within_vc e w _ (br_intro (fun h => ⟨rfl, ?_⟩) (fun h => ⟨rfl, ?_⟩))
  · have h1 : -1099511627776 ≤ e := by simpa using h
    congr 2
    simp [wi, h1]
  · have h1 : ¬ -1099511627776 ≤ e := by simpa using h
    congr 2
    simp [wi, h1]

theorem bl_zero_iff {x : Nat} : bl x = 0 ↔ x = 0 := ⟨fun h => by rcases Nat.eq_zero_or_pos x with h1 | h1; exact h1; have := bl_pos (n := x) (by omega); omega, fun h => by rw [h, bl_zero]⟩
def sgn (neg : Bool) (x : Nat) : Int := if x = 0 then 0 else if neg then -1 else 1
theorem Sign_spec {w : World} {neg : Bool} {s : Slc} {x : Nat} (h : Num w s x) : Calls pr whole_Sign_id #[.agg (c2 neg s)] w fun e w' => Ahead w w' ∧ e = .returned (.int .i64 (sgn neg x)) := by
  refine whole_Sign_vc neg s w _ (newC_b fun b w1 hb h1 hs1 B1 => ?_)
  refine ldS_b 1 B1 rfl (Calls.mono (len_num (h.ahead h1)) ?_)
  rintro e w2 ⟨rfl, rfl⟩
  refine ⟨_, rfl, br_intro (fun hz => ?_) (fun hz => ?_)⟩
  · have hx : x = 0 := bl_zero_iff.1 (by simpa using hz)
    exact ⟨h1, by rw [sgn, if_pos hx]⟩
  · have hx : x ≠ 0 := fun e => by rw [e, bl_zero] at hz; simp at hz
    refine ldB_b 0 B1 rfl ?_
    cases neg
    · exact br_false rfl ⟨h1, by rw [sgn, if_neg hx]; rfl⟩
    · exact br_true rfl ⟨h1, by rw [sgn, if_neg hx]; rfl⟩
theorem sgn_zero_iff {neg : Bool} {x : Nat} : sgn neg x = 0 ↔ x = 0 := by
  unfold sgn
  by_cases h : x = 0
  · simp [h]
  · rw [if_neg h]
    cases neg <;> simp [h]
theorem part_sign_spec {w : World} {neg : Bool} {s : Slc} {x : Nat} (h : Num w s x) : Calls pr dyadic_part_sign_id #[.agg (c2 neg s)] w fun e w' => Ahead w w' ∧ e = .returned (.int .i64 (sgn neg x)) := by
  refine dyadic_part_sign_vc neg s w _ (newC_b fun b w1 hb h1 hs1 B1 => ?_)
  refine get2 B1 rfl rfl (Calls.mono (Sign_spec (h.ahead h1)) ?_)
  rintro e w2 ⟨h2, rfl⟩
  exact ⟨_, rfl, h1.trans h2, rfl⟩
theorem part_length_spec {w : World} {neg : Bool} {s : Slc} {x : Nat} (h : Num w s x) : Calls pr dyadic_part_length_id #[.agg (c2 neg s)] w fun e w' => Ahead w w' ∧ e = .returned (.int .i64 (bl x)) := by
  refine dyadic_part_length_vc neg s w _ (newC_b fun b w1 hb h1 hs1 B1 => ?_)
  refine ldS_b 1 B1 rfl (Calls.mono (len_num (h.ahead h1)) ?_)
  rintro e w2 ⟨rfl, rfl⟩
  exact ⟨_, rfl, h1, rfl⟩

theorem odd_spec {w : World} {neg : Bool} {s : Slc} {x : Nat} {e : Int} (hT : Tab w) (h : Num w s x) (he : -4611686018427387904 ≤ e ∧ e ≤ 4611686018427387904) :
    Calls pr dyadic_odd_id #[.agg (c2 neg s), .int .i64 e] w fun en w' => Ahead w w' ∧ ∃ s', en = .returned (.agg (c3 (nD neg x) s' (eD x e))) ∧ OwnNil w.heap.size w' s' (digs B64 (od x)) := by
  refine dyadic_odd_vc neg s e w _ (newC_b fun b1 w1 hb1 h1 hs1 B1 => newC_b fun b2 w2 hb2 h2 hs2 B2 => ?_)
  have B1' := B1.ahead h2
  have h12 := h1.trans h2
  have hne : b2 ≠ b1 := by omega
  have n2 := h.ahead h12
  refine get2 B1' rfl rfl (Calls.mono (Sign_spec n2) ?_)
  rintro en w3 ⟨h3, rfl⟩
  have h13 := h12.trans h3
  have B13 := B1'.ahead h3
  have B23 := B2.ahead h3
  refine ⟨_, rfl, br_intro (fun hz => ?_) (fun hz => ?_)⟩
  · have hx : x = 0 := sgn_zero_iff.1 (by simpa using hz)
    subst hx
    refine ret3 B23 fun w' u _ => ⟨u.ahead h13 (by omega), _, by rw [nD_zero, eD_zero], Or.inl ⟨rfl, by rw [od_zero, digs_zero]⟩⟩
  · have hx : x ≠ 0 := fun e0 => by rw [e0] at hz; simp [sgn] at hz
    obtain ⟨l, ra, na, oa, hv⟩ := h.ahead h13
    refine ldS_b 1 B13 rfl (Calls.mono (Norm_spec ra na oa) ?_)
    rw [hv]
    rintro en w7 ⟨h7, s4, rfl, o4⟩
    have hdl := Nat.len_le oa
    rw [hv] at hdl
    have hbl := Num.bl h
    have htz := tz_lt hx
    refine ⟨_, rfl, stC_b 1 (B13.ahead h7) (by simp) rfl fun w8 u8 C1 => ?_⟩
    have o8 := u8.own o4 (by have := h13.size; have := h3.size; omega)
    have h18 : Ahead w w8 := u8.ahead (h13.trans h7) (by omega)
    have B28 : Blk w8 b2 _ := u8.blk (B23.ahead h7) hne
    refine ldS_b (x := s4) 1 C1 rfl (Calls.mono (Tail_spec (hT.ahead h18) o8.rd (by omega) (ok_digs two64 _)) ?_)
    rw [val_digs two64]
    rintro en w9 ⟨rfl, rfl⟩
    refine ⟨_, rfl, br_intro (fun hk => ?_) (fun hk => ?_)⟩
    · refine ldS_b (x := s4) 1 C1 rfl (Calls.mono (shifted_spec o8.rd (by omega) htz) ?_)
      rintro en w10 ⟨h10, s7, rfl, o7⟩
      have C10 := C1.ahead h10
      refine ⟨_, rfl, stC_b 1 C10 (by simp) rfl fun w11 u11 C11 => ?_⟩
      have hsz := h18.size
      have o11 := u11.own o7 (by have := u8.size; have := h7.size; have := h3.size; omega)
      refine get2 (x := neg) (s := s7) C11 rfl rfl ?_
      have B211 : Blk w11 b2 _ := u11.blk (B28.ahead h10) hne
      refine ret3 B211 fun w' u _ => ?_
      have h11 : Ahead w w11 := u11.ahead (h18.trans h10) (by omega)
      refine ⟨u.ahead h11 (by omega), s7, ?_, (u.own o11 (by have := u8.size; have := h7.size; have := h3.size; omega)).mono hsz⟩
      rw [nD_ne hx, eD, if_neg hx, wrap_i64 (by omega) (by omega)]
    · have hk0 : tz x = 0 := by simp at hk; omega
      refine get2 (x := neg) (s := s4) C1 rfl rfl ?_
      refine ret3 B28 fun w' u _ => ?_
      refine ⟨u.ahead h18 (by omega), s4, ?_, ?_⟩
      · rw [nD_ne hx, eD, if_neg hx, wrap_i64 (by omega) (by omega)]
      · rw [od, hk0, Nat.pow_zero, Nat.div_one]
        exact (u.own o8 (by have := h13.size; have := h3.size; omega)).mono (by have := h13.size; omega)

theorem num_od {w : World} {s : Slc} {x b : Nat} (h : OwnNil b w s (digs B64 (od x))) (hl : (digs B64 x).length ≤ 2 ^ 44) : Num w s (od x) :=
  ⟨_, h.rd, Nat.le_trans (Ref.len_mono two64 (od_le x)) hl, ok_digs two64 _, val_digs two64 _⟩
theorem num_len {w : World} {s : Slc} {x : Nat} (h : Num w s x) : (digs B64 x).length ≤ 2 ^ 44 := by
  obtain ⟨l, _, hl, ol, rfl⟩ := h
  exact Nat.le_trans (Nat.len_le ol) hl

theorem told_spec {w : World} {neg : Bool} {s : Slc} {x : Nat} {e : Int} (hT : Tab w) (h : Num w s x) (he : -4611686018427387904 ≤ e ∧ e ≤ 4611686018427387904) :
    Calls pr dyadic_told_id #[.agg (c2 neg s), .int .i64 e] w (DOut w (tC x e) neg x e) := by
  refine dyadic_told_vc neg s e w _ (newC_b fun b1 w1 hb1 h1 hs1 B1 => newC_b fun b2 w2 hb2 h2 hs2 B2 => ?_)
  have h12 := h1.trans h2
  refine get2 (B1.ahead h2) rfl rfl (Calls.mono (odd_spec (hT.ahead h12) (h.ahead h12) he) ?_)
  rintro en w3 ⟨h3, s2, rfl, o2⟩
  have h13 := h12.trans h3
  have B23 := B2.ahead h3
  refine ⟨_, _, _, rfl, newC_b fun b3 w4 hb3 h4 hs4 B3 => ?_⟩
  have B24 := B23.ahead h4
  refine set3 B3 fun w7 u7 C3 => ?_
  have hle := B23.lt
  have B27 : Blk w7 b2 _ := u7.blk B24 (by omega)
  have h17 : Ahead w w7 := u7.ahead (h13.trans h4) (by have := h13.size; omega)
  have hl := num_len h
  have n7 : Num w7 s2 (od x) := by
    have n4 : Num w4 s2 (od x) := (num_od o2 hl).ahead h4
    obtain ⟨l, r, q⟩ := n4
    exact ⟨l, u7.rd _ _ r, q⟩
  have o7 := u7.own2 o2 h4 (by omega)
  refine get2 (x := nD neg x) (s := s2) C3 rfl rfl (Calls.mono (part_sign_spec n7) ?_)
  rintro en w8 ⟨h8, rfl⟩
  have h18 := h17.trans h8
  have B28 := B27.ahead h8
  have C38 := C3.ahead h8
  have o8 := o7.ahead h8
  have hsz := h12.size
  have hb2 : w.heap.size ≤ b2 := by have := h1.size; omega
  have hbase : w.heap.size ≤ w2.heap.size := h12.size
  refine ⟨_, rfl, br_intro (fun hz => ?_) (fun hz => ?_)⟩
  · have hx : x = 0 := od_zero_iff.1 (sgn_zero_iff.1 (by simpa using hz))
    subst hx
    refine ret3 B28 fun w' u _ => ?_
    have hc : tC 0 e = 0 := by
      rw [tC, od_zero, bl_zero, if_neg (by omega), eD_zero, if_pos (by unfold wi; omega)]
    have := DOut.told (w := w) (w' := w') (neg := neg) (x := 0) (e := e) (s := ⟨none, 0, 0⟩) (u.ahead h18 hb2) hc (Or.inl ⟨rfl, by rw [od_zero, digs_zero]⟩)
    rwa [nD_zero, eD_zero] at this
  · have hx : x ≠ 0 := fun e0 => by rw [e0, od_zero] at hz; simp [sgn] at hz
    refine get2 (x := nD neg x) (s := s2) C38 rfl rfl (Calls.mono (part_length_spec (n7.ahead h8)) ?_)
    rintro en w12 ⟨h12', rfl⟩
    have h112 := h18.trans h12'
    have B212 := B28.ahead h12'
    have C312 := C38.ahead h12'
    refine ⟨_, rfl, br_intro (fun hg => ?_) (fun hg => ?_)⟩
    · refine ret3 B212 fun w' u _ => DOut.refused (u.ahead h112 hb2) ?_ (by omega)
      rw [tC, if_pos (by simp at hg; omega)]
    · refine ldI_b (x := eD x e) 2 C312 rfl (Calls.mono within_spec ?_)
      rintro en w16 ⟨rfl, rfl⟩
      refine ⟨_, rfl, br_intro (fun hw => ?_) (fun hw => ?_)⟩
      · refine ret3 B212 fun w' u _ => DOut.refused (u.ahead h112 hb2) ?_ (by omega)
        rw [tC, if_neg (by simp at hg; omega), if_neg (by simpa using hw)]
      · refine get3 C312 (ret3 B212 fun w' u _ => DOut.told (u.ahead h112 hb2) ?_ ?_)
        · rw [tC, if_neg (by simp at hg; omega), if_pos (by simpa using hw)]
        · refine OwnNil.mono (u.own (o8.ahead h12') ?_) hbase
          omega

theorem read_spec {w : World} {neg : Bool} {s : Slc} {x : Nat} {e : Int} (hT : Tab w) (h : Num w s x) :
    Calls pr dyadic_read_id #[.agg (c3 neg s e)] w (fun en w' => Ahead w w' ∧ ∃ s', en = .returned (.tuple #[.agg (c3 (if wi e then nD neg x else false) s' (if wi e then eD x e else 0)), .int .i64 (if wi e then 0 else 80)]) ∧
      OwnNil w.heap.size w' s' (if wi e then digs B64 (od x) else [])) := by
  refine dyadic_read_vc neg s e w _ (newC_b fun b1 w1 hb1 h1 hs1 B1 => newC_b fun b2 w2 hb2 h2 hs2 B2 => ?_)
  have h12 := h1.trans h2
  have B12 := B1.ahead h2
  have hb : w.heap.size ≤ b2 := by have := h1.size; omega
  refine ldI_b (x := e) 2 B12 rfl (Calls.mono within_spec ?_)
  rintro en w3 ⟨rfl, rfl⟩
  refine ⟨_, rfl, br_intro (fun hw => ?_) (fun hw => ?_)⟩
  · have hw' : ¬ wi e := by simpa using hw
    refine ret3 B2 fun w' u _ => ⟨u.ahead h12 hb, _, ?_, Or.inl ⟨rfl, if_neg hw'⟩⟩
    rw [if_neg hw', if_neg hw', if_neg hw']
  · have hw' : wi e := by simpa using hw
    refine get3 B12 (Calls.mono (odd_spec (hT.ahead h12) (h.ahead h12) (by unfold wi at hw'; omega)) ?_)
    rintro en w7 ⟨h7, s3, rfl, o3⟩
    refine ⟨_, _, _, rfl, ret3 (B2.ahead h7) fun w' u _ => ⟨u.ahead (h12.trans h7) hb, s3, ?_, ?_⟩⟩
    · rw [if_pos hw', if_pos hw', if_pos hw']
    · rw [if_pos hw']
      exact (u.own o3 (by omega)).mono h12.size

theorem Make_spec {w : World} {neg : Bool} {s : Slc} {x : Nat} {e : Int} (hT : Tab w) (h : Num w s x) :
    Calls pr dyadic_Make_id #[.agg (c2 neg s), .int .i64 e] w (DOut w (if wi e then tC x e else 1) neg x e) := by
  refine dyadic_Make_vc neg s e w _ (newC_b fun b1 w1 hb1 h1 hs1 B1 => newC_b fun b2 w2 hb2 h2 hs2 B2 => ?_)
  have h12 := h1.trans h2
  have hb : w.heap.size ≤ b2 := by have := h1.size; omega
  refine Calls.mono within_spec ?_
  rintro en w3 ⟨rfl, rfl⟩
  refine ⟨_, rfl, br_intro (fun hw => ?_) (fun hw => ?_)⟩
  · have hw' : ¬ wi e := by simpa using hw
    exact ret3 B2 fun w' u _ => DOut.refused (u.ahead h12 hb) (if_neg hw') (by omega)
  · have hw' : wi e := by simpa using hw
    rw [if_pos hw']
    refine get2 (B1.ahead h2) rfl rfl (Calls.mono (told_spec (hT.ahead h12) (h.ahead h12) (by unfold wi at hw'; omega)) ?_)
    rintro en w7 ⟨h7, s3, rfl, o3⟩
    exact ⟨_, _, _, _, rfl, ret3 (B2.ahead h7) fun w' u _ => ⟨u.ahead (h12.trans h7) hb, s3, rfl, (u.own o3 (by omega)).mono h12.size⟩⟩

theorem in_spec {w : World} {neg : Bool} {s : Slc} {e : Int} : Calls pr surdlaw08_in_id #[.agg (c3 neg s e)] w fun en w' => Ahead w w' ∧ en = .returned (.agg (c3 neg s e)) := by
  refine surdlaw08_in_vc neg s e w _ (newC_b fun b1 w1 hb1 h1 hs1 B1 => newC_b fun b2 w2 hb2 h2 hs2 B2 => ?_)
  refine get3 (B1.ahead h2) (ret3 B2 fun w' u _ => ⟨u.ahead (h1.trans h2) (by have := h1.size; omega), rfl⟩)

end Dy
end Go.Proofs.YtahbekmnphkiiaaDoor
namespace Go.Proofs.YtahbekmnphkiiaaDoor
open Go Go.RowKit Eng Sp Dg
open Go.ChangeShapes Go.WideShapes
set_option linter.unusedVariables false
set_option linter.unusedSimpArgs false

theorem open_D {H : Type} {enc : TypeId × Value → H} {P : Program} {W : World} {t e : TypeId} {f0 f1 f2 : Field} {cs : Array Value} {d : DataW H} {ps : List MemPlace} {ts : List TypeId} {ds : List (DataW H)} {j : Nat}
    (ht : P.underlying t = some (.struct #[f0, f1, f2])) (ho : f0.offset = 0 ∧ f1.offset = 1 ∧ f2.offset = 2) (hc : P.cellsOf f0.type = 1 ∧ P.cellsOf f1.type = 1 ∧ P.cellsOf f2.type = 1 ∧ P.cellsOf t = 3)
    (hu : P.underlying f0.type = some .bool ∧ P.underlying f1.type = some (.slice e) ∧ P.underlying f2.type = some (.int .i64)) (he : P.underlying e = some (.int .u64)) (hce : P.cellsOf e = 1) (hb : P.bytesOf e = 8)
    (hsz : (DataW.weightsEach P ts ds).all (· ≤ reachBytes) = true) (htj : ts[j]? = some t) (hdj : ds[j]? = some d)
    (h : DataW.Trod enc P W 0 (fun _ => true) true t (.agg cs) d ps) :
    ∃ (b : Bool) (s : Slc) (x : Int) (l : List Nat), cs = Sb.c3 b s x ∧ Rd .u64 W s (nn l) ∧ ok B64 l ∧ l.length * 8 ≤ 140737488351232 ∧ -9223372036854775808 ≤ x ∧ x ≤ 9223372036854775807 := by
  obtain ⟨fuel, hf⟩ := h
  obtain ⟨y0, y1, y2, n, hx, hl, g0, g1, g2⟩ := Go.Deep.trod_struct3 ht hf
  rw [hc.1, ho.1] at g0
  rw [hc.2.1, ho.2.1] at g1
  rw [hc.2.2.1, ho.2.2] at g2
  rw [hc.2.2.2] at hl
  have hcs : (Value.agg cs).cells = cs := rfl
  rw [hcs] at hl g0 g1 g2
  obtain ⟨hd, _⟩ := Prod.mk.inj hx
  obtain ⟨b, hb0, _⟩ := DataW.trod_bool hu.1 g0
  obtain ⟨x, hx2, _, hw⟩ := DataW.trod_int hu.2.2 g2
  have hx' := wf_i64 hw
  obtain ⟨A, m, c, zs, hs1, hrow, hlen⟩ : ∃ A m c zs, (cs.toList.drop 1).take 1 = [Value.slice A m c] ∧ IsRow .u64 W A m c zs ∧ m * 8 ≤ 140737488351232 := by
    rcases open_ints hu.2.1 he hce g1 with ⟨hs, _⟩ | ⟨a, m, c, zs, hs, _, hl1, hm, hz, hy1, hcell, hwz⟩
    · exact ⟨none, 0, 0, [], hs, .inl ⟨rfl, rfl, rfl, rfl⟩, by omega⟩
    · refine ⟨some a, m, c, zs, hs, .inr ⟨a, rfl, hl1, hm, by simpa using hz, hcell, hwz⟩, ?_⟩
      have hmem : ((zs.take m).length + (zs.drop m).length) * 8 ∈ d.weights P t := by
        rw [hd, hy1]
        simp [DataW.weights, ht, DataW.weightsEach, hu.2.1, hb, lits]
      have := List.all_eq_true.1 hsz _ (DataW.weights_mem_each htj hdj _ hmem)
      have h1 : (zs.take m).length + (zs.drop m).length = zs.length := by simp; omega
      have hz' : zs.length = c := by simpa using hz
      rw [h1, hz'] at this
      have h2 : c * 8 ≤ reachBytes := by simpa using this
      have h3 : reachBytes = 140737488351232 := by decide
      omega
  obtain ⟨l, hll, hr, ho'⟩ := hrow.rd
  refine ⟨b, ⟨A, m, c⟩, x, l, ?_, hr, ho', by omega, hx'.1, hx'.2⟩
  obtain ⟨cl⟩ := cs
  match cl, hl with
  | [a0, a1, a2], _ =>
    simp at hb0 hs1 hx2
    rw [hb0, hs1, hx2]; rfl

/-- The listed table. -/
theorem tab_of {W : World} {rest : List (String × DataW Unit)} (hg : pr.globalNamed "math/bits.deBruijn64tab" = some 0) {t e : TypeId} (hty : (pr.globals[0]?).map (·.type) = some t) (ht : pr.underlying t = some (.array 64 e)) (he : pr.underlying e = some (.int .u8)) (hce : pr.cellsOf e = 1) (hct : pr.cellsOf t = 64)
    (h : laidMet pr (("math/bits.deBruijn64tab", Lib.tabData .u8 (Lib.deBruijn64tab.map fun n : Nat => (n : Int))) :: rest) W) : Dy.Tab W := by
  have h1 := Lib.tabIs_of_head hg hty ht he hce hct h
  intro j hj
  have := h1.cell hg j (by simpa [Lib.deBruijn64tab] using hj)
  rw [this]
  simp [List.getD_eq_getElem?_getD, List.getElem?_map]
  have hj' : j < Lib.deBruijn64tab.length := by simpa [Lib.deBruijn64tab] using hj
  simp [hj']

end Go.Proofs.YtahbekmnphkiiaaDoor
namespace Go.Proofs.YtahbekmnphkiiaaDoor
open Go Go.RowKit Eng Sp Dg
set_option linter.unusedVariables false
set_option linter.unusedSimpArgs false
set_option maxRecDepth 100000
namespace Dl
open _root_.Go.Proofs.YtahbekmnphkiiaaDoor.Mul (Only)
open Sb

/-- A dyadic as it lies in memory. -/
structure DY where
  n : Bool
  s : Slc
  e : Int
def DY.cs (d : DY) : List Value := [.bool d.n, d.s.v, .int .i64 d.e]
def zDY : DY := ⟨false, ⟨none, 0, 0⟩, 0⟩
def dys : List DY → List Value
  | [] => []
  | d :: l => d.cs ++ dys l
theorem dys_len : ∀ l : List DY, (dys l).length = l.length * 3
  | [] => rfl
  | d :: l => by
    have : (dys (d :: l)).length = (dys l).length + 3 := rfl
    rw [this, dys_len l, List.length_cons, Nat.add_mul]
theorem dys_append : ∀ (l k : List DY), dys (l ++ k) = dys l ++ dys k
  | [], k => rfl
  | a :: l, k => by
    show a.cs ++ dys (l ++ k) = a.cs ++ dys l ++ dys k
    rw [dys_append l k, List.append_assoc]
theorem dys_get : ∀ (l : List DY) (i : Nat), i < l.length → (dys l)[3 * i]? = some (.bool (l.getD i zDY).n) ∧ (dys l)[3 * i + 1]? = some (l.getD i zDY).s.v ∧ (dys l)[3 * i + 2]? = some (.int .i64 (l.getD i zDY).e)
  | [], i, h => by simp at h
  | a :: l, 0, h => ⟨rfl, rfl, rfl⟩
  | a :: l, i + 1, h => by
    have := dys_get l i (by simpa using h)
    have e : ∀ k, (dys (a :: l))[3 * (i + 1) + k]? = (dys l)[3 * i + k]? := fun k => by
      show (a.cs ++ dys l)[3 * (i + 1) + k]? = _
      rw [List.getElem?_append_right (by show 3 ≤ _; omega)]
      congr 1
      show 3 * (i + 1) + k - 3 = _
      omega
    rw [show 3 * (i + 1) = 3 * (i + 1) + 0 from rfl, e 0, e 1, e 2]
    exact this
def nU (v : Value) : Bool := match v with
  | .int .u64 _ => false
  | _ => true
theorem noUof {cs : Array Value} (h : ∀ v ∈ cs.toList, nU v = true) : noU cs = true := List.all_eq_true.2 h
theorem noU_out {cs : Array Value} (h : noU cs = true) : ∀ v ∈ cs.toList, nU v = true := List.all_eq_true.1 h
theorem nU_dys : ∀ (l : List DY), ∀ v ∈ dys l, nU v = true
  | [], v, h => by cases h
  | d :: l, v, h => by
    rcases List.mem_append.1 h with h | h
    · unfold DY.cs at h
      rcases List.mem_cons.1 h with rfl | h
      · rfl
      · rcases List.mem_cons.1 h with rfl | h
        · rfl
        · rcases List.mem_cons.1 h with rfl | h
          · rfl
          · cases h
    · exact nU_dys l v h
theorem one_dys : ∀ (l : List DY), ∀ v ∈ dys l, v.oneCell' = true
  | [], v, h => by cases h
  | d :: l, v, h => by
    rcases List.mem_append.1 h with h | h
    · unfold DY.cs at h
      rcases List.mem_cons.1 h with rfl | h
      · rfl
      · rcases List.mem_cons.1 h with rfl | h
        · simp [Value.oneCell', Slc.v]
        · rcases List.mem_cons.1 h with rfl | h
          · rfl
          · cases h
    · exact one_dys l v h
theorem nU_zero {z : Array Value} (hz : noU z = true) (n : Nat) : ∀ v ∈ (Builtin.zeroCells z n).toList, nU v = true := by
  intro v hv
  unfold Builtin.zeroCells at hv
  rw [Array.toList_map, List.mem_map] at hv
  obtain ⟨i, hi, rfl⟩ := hv
  have hi' : i < n * z.size := by simpa using hi
  have hp : 0 < z.size := by
    rcases Nat.eq_zero_or_pos z.size with h | h
    · rw [h] at hi'; omega
    · exact h
  have hm := Nat.mod_lt i hp
  have : z[i % z.size]! = z[i % z.size] := by simp [hm]
  rw [this]
  exact noU_out hz _ (by simp)

theorem add_atN {b i j : Nat} : (⟨b, i, none⟩ : Addr).add j = ⟨b, i + j, none⟩ := by
  unfold Addr.add; split
  · rename_i h; subst h; rfl
  · rfl
/-- The slice reads as these dyadics. -/
structure RL (w : World) (s : Slc) (ys : List DY) : Prop where
  n : s.n = ys.length
  c : ys.length ≤ s.c
  get : ys ≠ [] → ∃ g o, s.A = some ⟨g, o, none⟩ ∧ ∀ j u, (dys ys)[j]? = some u → w.cell? ⟨g, o + j, none⟩ = some u
theorem RL.nil {w : World} : RL w ⟨none, 0, 0⟩ [] := ⟨rfl, Nat.le_refl _, fun h => absurd rfl h⟩
theorem RL.ahead {w w' : World} {s : Slc} {ys : List DY} (h : RL w s ys) (a : Ahead w w') : RL w' s ys :=
  ⟨h.n, h.c, fun q => by obtain ⟨g, o, hA, hg⟩ := h.get q; exact ⟨g, o, hA, fun j u hj => a.cell (hg j u hj)⟩⟩
def isS3 (P : Program) (t : TypeId) : Bool := match P.underlying t with
  | some (.slice e) => match P.info? e with
    | some i => i.size == 3
    | none => false
  | _ => false
theorem isS3_out {P : Program} {t : TypeId} (h : isS3 P t = true) : ∃ e i, P.underlying t = some (.slice e) ∧ P.info? e = some i ∧ i.size = 3 := by
  unfold isS3 at h
  split at h
  · rename_i e hu
    split at h
    · rename_i i hi
      exact ⟨e, i, hu, hi, by simpa using h⟩
    · cases h
  · cases h
theorem run_ix3 {P : Program} {t : TypeId} (hT : isS3 P t = true) (w : World) {s : Slc} {g o i : Nat} (hA : s.A = some ⟨g, o, none⟩) (h1 : i < s.n) :
    (Instr.indexAt t s.v (.int .i64 (i : Int))).run P w = .ok (.pointer (some ⟨g, o + 3 * i, none⟩)) w := by
  obtain ⟨e, inf, hu, hi, hs⟩ := isS3_out hT
  obtain ⟨A, n, c⟩ := s
  simp only at hA h1
  subst hA
  have e1 : (⟨g, o, none⟩ : Addr).add (i * 3) = ⟨g, o + 3 * i, none⟩ := by rw [add_atN, Nat.mul_comm]
  simp only [Instr.indexAt, asIntOf, Slc.v, underlying, program, Sem.run_bind, Sem.run, Result.andThen, hu, Sem.run_pure]
  simp [h1, show (i : Int) < (n : Int) by omega, show (0 : Int) ≤ (i : Int) by omega, sizeOf, typeInfo, program, Sem.run, hi, hs, hu, e1]
/-- An element read. -/
theorem RL.ix {t : TypeId} {w : World} {s : Slc} {ys : List DY} (h : RL w s ys) {i : Nat} (hi : i < ys.length) {K : Bool → Slc → Int → World → Prop} (hk : K (ys.getD i zDY).n (ys.getD i zDY).s (ys.getD i zDY).e w) (hT : isS3 pr t = true := by kernel_rfl) :
    semA pr (Instr.indexAt t s.v (.int .i64 (i : Int))) w fun ad w1 => ldB ad w1 fun b => ldS (ad.add 1) w1 fun u => ldI .i64 (ad.add 2) w1 fun x => K b u x w1 := by
  obtain ⟨g, o, hA, hg⟩ := h.get (fun q => by rw [q] at hi; simp at hi)
  obtain ⟨q0, q1, q2⟩ := dys_get ys i hi
  unfold semA
  rw [Sem.wp_iff_run, run_ix3 hT w hA (by rw [h.n]; exact hi)]
  refine ⟨_, rfl, _, hg _ _ q0, _, ?_, _, ?_, hk⟩
  · rw [add_atN, Nat.add_assoc]; exact hg _ _ q1
  · rw [add_atN, Nat.add_assoc]; exact hg _ _ q2
theorem RL.any {t : TypeId} {w : World} {s : Slc} {ys : List DY} (h : RL w s ys) {i : Nat} (hi : i < ys.length) : ∃ g o, (∀ (P : Program) w', isS3 P t = true → (Instr.indexAt t s.v (.int .i64 (i : Int))).run P w' = .ok (.pointer (some ⟨g, o, none⟩)) w') ∧
    w.cell? ⟨g, o, none⟩ = some (.bool (ys.getD i zDY).n) ∧ w.cell? ⟨g, o + 1, none⟩ = some (ys.getD i zDY).s.v ∧ w.cell? ⟨g, o + 2, none⟩ = some (.int .i64 (ys.getD i zDY).e) := by
  obtain ⟨g, o, hA, hg⟩ := h.get (fun q => by rw [q] at hi; simp at hi)
  obtain ⟨q0, q1, q2⟩ := dys_get ys i hi
  exact ⟨g, o + 3 * i, fun P w' hT => run_ix3 hT w' hA (by rw [h.n]; exact hi), hg _ _ q0, by rw [Nat.add_assoc]; exact hg _ _ q1, by rw [Nat.add_assoc]; exact hg _ _ q2⟩

/-- What an append to a row may change. -/
structure Grw (row : Option Nat) (w w' : World) : Prop where
  rd : ∀ s l, Rd .u64 w s l → Rd .u64 w' s l
  ah : ∀ w0, Ahead w0 w → (∀ g, row = some g → w0.heap.size ≤ g) → Ahead w0 w'
  bl : ∀ b cs, Blk w b cs → some b ≠ row → Blk w' b cs
  sz : w.heap.size ≤ w'.heap.size
  hp : ∀ b, some b ≠ row → b < w.heap.size → w'.heap[b]? = w.heap[b]?
  os : w'.os = w.os
  tape : w'.tape = w.tape
  output : w'.output = w.output
def DRow (e : TypeId) (base : Nat) (w : World) (s : Slc) (ds : List DY) : Prop := (s = ⟨none, 0, 0⟩ ∧ ds = []) ∨
  ds ≠ [] ∧ ∃ g cap cur, s = ⟨some ⟨g, 0, none⟩, ds.length, cap⟩ ∧ base ≤ g ∧ w.heap[g]? = some (.cells cur e (0, 0)) ∧ ds.length ≤ cap ∧ cap ≤ maxLen ∧ cur.size = cap * 3 ∧ cur.toList.take (ds.length * 3) = dys ds ∧ noU cur = true
theorem DRow.nil {e : TypeId} {base : Nat} {w : World} : DRow e base w ⟨none, 0, 0⟩ [] := .inl ⟨rfl, rfl⟩
theorem DRow.keep {e : TypeId} {base : Nat} {w w' : World} {s : Slc} {ds : List DY} (h : DRow e base w s ds) (hk : ∀ g, s.v.ownBlock = some g → g < w.heap.size → w'.heap[g]? = w.heap[g]?) : DRow e base w' s ds := by
  rcases h with h | ⟨hne, g, cap, cur, rfl, hg, hh, hr⟩
  · exact .inl h
  · exact .inr ⟨hne, g, cap, cur, rfl, hg, by rw [hk g rfl (Array.getElem?_eq_some_iff.1 hh).1, hh], hr⟩
theorem DRow.ahead {e : TypeId} {base : Nat} {w w' : World} {s : Slc} {ds : List DY} (h : DRow e base w s ds) (a : Ahead w w') : DRow e base w' s ds :=
  h.keep fun g _ hg => Below.block a g hg
theorem DRow.grw {e : TypeId} {base : Nat} {row : Option Nat} {w w' : World} {s : Slc} {ds : List DY} (h : DRow e base w s ds) (u : Grw row w w') (hb : ∀ g, s.v.ownBlock = some g → some g ≠ row) : DRow e base w' s ds :=
  h.keep fun g e hl => u.hp g (hb g e) hl
theorem DRow.lt {e : TypeId} {base : Nat} {w : World} {s : Slc} {ds : List DY} (h : DRow e base w s ds) {g : Nat} (hg : s.v.ownBlock = some g) : base ≤ g ∧ g < w.heap.size := by
  rcases h with ⟨rfl, _⟩ | ⟨_, g', cap, cur, rfl, h1, hh, _⟩
  · cases hg
  · obtain rfl : g' = g := Option.some.inj hg
    exact ⟨h1, (Array.getElem?_eq_some_iff.1 hh).1⟩
theorem DRow.rl {e : TypeId} {base : Nat} {w : World} {s : Slc} {ds : List DY} (h : DRow e base w s ds) : RL w s ds := by
  rcases h with ⟨rfl, rfl⟩ | ⟨_, g, cap, cur, rfl, h1, hh, hc, _, hs, ht, _⟩
  · exact RL.nil
  · refine ⟨rfl, hc, fun _ => ⟨g, 0, rfl, fun j u hj => ?_⟩⟩
    rw [Nat.zero_add]
    refine Blk.cell ⟨e, hh⟩ ?_
    rw [← ht, List.getElem?_take] at hj
    split at hj
    · rw [← Array.getElem?_toList]; exact hj
    · cases hj
/-- One dyadic in a new block. -/
theorem one_row {e : TypeId} {base b : Nat} {w : World} {d : DY} (h : w.heap[b]? = some (.cells d.cs.toArray e (0, 0))) (hb : base ≤ b) : DRow e base w ⟨some ⟨b, 0, none⟩, 1, 1⟩ [d] :=
  .inr ⟨by simp, b, 1, _, rfl, hb, h, by simp, by unfold maxLen; omega, rfl, by simp [dys]; rfl, noUof fun v hv => nU_dys [d] v (by simpa [dys] using hv)⟩
/-- A type of slices of dyadics. -/
def sl3 (P : Program) (t e : TypeId) : Bool := match P.underlying t with
  | some (.slice e') => Nat.beq e' e && (match P.info? e with
    | some i => Nat.beq i.size 3 && Nat.ble i.bytes 48 && (match i.zero with
      | some z => Nat.beq z.cells.size 3 && noU z.cells
      | none => false)
    | none => false)
  | _ => false
theorem sl3_out {P : Program} {t e : TypeId} (h : sl3 P t e = true) : P.underlying t = some (.slice e) ∧ ∃ i z, P.info? e = some i ∧ i.size = 3 ∧ i.bytes ≤ 48 ∧ i.zero = some z ∧ z.cells.size = 3 ∧ noU z.cells = true := by
  unfold sl3 at h
  split at h
  · rename_i e' hu
    simp only [Bool.and_eq_true] at h
    obtain ⟨h1, h2⟩ := h
    have : e' = e := Nat.eq_of_beq_eq_true h1
    subst this
    split at h2
    · rename_i i hi
      simp only [Bool.and_eq_true] at h2
      obtain ⟨⟨h3, h4⟩, h5⟩ := h2
      split at h5
      · rename_i z hz
        simp only [Bool.and_eq_true] at h5
        exact ⟨hu, i, z, hi, Nat.eq_of_beq_eq_true h3, Nat.le_of_ble_eq_true h4, hz, Nat.eq_of_beq_eq_true h5.1, h5.2⟩
      · cases h5
    · cases h2
  · cases h
theorem news_row {xs ys : List Value} {z : Array Value} {m k c : Nat} (hx : xs.length = m * 3) (hy : ys.length = k * 3) (hz : z.size = 3) (hnz : noU z = true) (hxy : ∀ v ∈ xs ++ ys, nU v = true) (hc : m + k ≤ c) :
    noU (xs.toArray ++ ys.toArray ++ Builtin.zeroCells z (c - (m + k))) = true ∧ (xs.toArray ++ ys.toArray ++ Builtin.zeroCells z (c - (m + k))).size = c * 3 ∧ (xs.toArray ++ ys.toArray ++ Builtin.zeroCells z (c - (m + k))).toList.take ((m + k) * 3) = xs ++ ys := by
  refine ⟨noUof fun v hv => ?_, ?_, ?_⟩
  · simp only [Array.toList_append] at hv
    rcases List.mem_append.1 hv with h | h
    · exact hxy v h
    · exact nU_zero hnz _ v h
  · simp only [Array.size_append, List.size_toArray, size_zeroCells, hx, hy, hz]
    omega
  · simp only [Array.toList_append]
    have : (m + k) * 3 = (xs ++ ys).length := by rw [List.length_append, hx, hy]; omega
    rw [this]
    exact List.take_left
/-- append of some dyadics. -/
theorem appN {t e ty : TypeId} {base : Nat} {w : World} {s x : Slc} {ds ys : List DY} (h : DRow e base w s ds) (hx : RL w x ys) (hy : ys ≠ []) (hb : base ≤ w.heap.size) (hsz : ds.length + ys.length ≤ 1000000) {K : Slc → World → Prop}
    (hk : ∀ s' w', DRow e base w' s' (ds ++ ys) → Grw s.v.ownBlock w w' → (s'.v.ownBlock = s.v.ownBlock ∨ s'.v.ownBlock = some w.heap.size) → K s' w') (hT : sl3 pr t e = true := by kernel_rfl) :
    semS pr (Builtin.append_ #[t, t] ty #[s.v, x.v]) w K := by
  obtain ⟨hu, inf, z, hinf, hs, hby, hz, hzc, hnz⟩ := sl3_out hT
  obtain ⟨ga, oa, hA, hcell⟩ := hx.get hy
  have hm : 0 < ys.length := List.length_pos_iff.2 hy
  have hnews : ∀ j u, (dys ys)[j]? = some u → w.cell? ((⟨ga, oa, none⟩ : Addr).add j) = some u := fun j u hj => by rw [add_atN]; exact hcell j u hj
  have hl1 : (dys ys).length = ys.length * inf.size := by rw [hs]; exact dys_len ys
  have hnd : ∀ v ∈ dys ds ++ dys ys, nU v = true := by rw [← dys_append]; exact nU_dys _
  have hbyt : ∀ k, k ≤ 1000000 → k * inf.bytes ≤ 140737488355328 := fun k hk => Nat.le_trans (Nat.mul_le_mul hk hby) (by omega)
  have grown : ∀ c, ds.length + ys.length ≤ c → c ≤ maxLen → ∀ o, o = Obj.cells ((dys ds).toArray ++ (dys ys).toArray ++ Builtin.zeroCells z.cells (c - (ds.length + ys.length))) e (0, 0) →
      DRow e base (w.drew.alloc o) ⟨some ⟨w.heap.size, 0, none⟩, ds.length + ys.length, c⟩ (ds ++ ys) := by
    rintro c h1 h2 o rfl
    obtain ⟨n1, n2, n3⟩ := news_row (dys_len ds) (dys_len ys) hzc hnz hnd h1
    refine .inr ⟨by simp [hy], w.heap.size, c, _, by rw [List.length_append], hb, heap_alloc_new w.drew _, by rw [List.length_append]; exact h1, h2, n2, ?_, n1⟩
    rw [dys_append, List.length_append]
    exact n3
  have gr : ∀ (row : Option Nat) o, Grw row w (w.drew.alloc o) := fun row o => by
    have a : Ahead w (w.drew.alloc o) := Ahead.trans (Ahead.drew w) (Ahead.alloc w.drew o)
    exact ⟨fun s l r => r.ahead a, fun w0 h0 _ => Ahead.trans h0 a, fun b cs B _ => B.ahead a, a.size, fun b _ hl => Below.block a b hl, rfl, rfl, rfl⟩
  unfold semS
  rw [Sem.wp_iff_run]
  have hxv : x.v = .slice (some ⟨ga, oa, none⟩) ys.length x.c := by rw [Slc.v, hA, hx.n]
  rw [hxv]
  rcases h with ⟨rfl, rfl⟩ | ⟨hne, g, cap, cur, rfl, hg, hh, hc, hcm, hcs, htk, hnu⟩
  · have hb1 := hbyt ys.length (by omega)
    have hr := run_append_nil (P := pr) w t ty e inf z hu hinf hz ⟨ga, oa, none⟩ ys.length x.c (dys ys) hl1 hnews hm (by omega) (by omega)
    rw [show Slc.v ⟨none, 0, 0⟩ = .slice none 0 0 from rfl, hr]
    have hge := grownCap_ge w ys.length 0 e
    have hcm := grownCap_le_maxLen w ys.length 0 e (by unfold maxLen; simp at hsz; omega)
    have gn := grown (grownCap w ys.length 0 e) (by simpa using hge) hcm _ rfl
    simp only [List.length_nil, Nat.zero_add] at gn
    exact ⟨⟨some ⟨w.heap.size, 0, none⟩, ys.length, grownCap w ys.length 0 e⟩, rfl, hk _ _ (by simpa [dys] using gn) (gr _ _) (.inr rfl)⟩
  · by_cases hroom : ds.length + ys.length ≤ cap
    · have hfit : ds.length * inf.size + (dys ys).length ≤ cur.size := by rw [hs, hcs, dys_len]; omega
      have hr := run_append_room (P := pr) w t ty e inf hu hinf g ds.length cap cur hh ⟨ga, oa, none⟩ ys.length x.c (dys ys) hl1 hnews (one_dys ys) hroom hfit
      rw [show Slc.v ⟨some ⟨g, 0, none⟩, ds.length, cap⟩ = .slice (some ⟨g, 0, none⟩) ds.length cap from rfl, hr]
      have hB : Blk w g cur := ⟨e, hh⟩
      have ho : Only g w (w.setRow g (cur.toList.take (ds.length * inf.size) ++ dys ys ++ cur.toList.drop (ds.length * inf.size + (dys ys).length)).toArray) := ⟨rfl, rfl, rfl, by simp [World.setRow], fun j hj => setRow_other w g j _ hj⟩
      refine ⟨⟨some ⟨g, 0, none⟩, ds.length + ys.length, cap⟩, rfl, hk _ _ (.inr ⟨by simp [hy], g, cap, _, by rw [List.length_append], hg, setRow_heap w g cur _ e _ hh, by rw [List.length_append]; exact hroom, hcm, ?_, ?_, ?_⟩)
        ⟨fun s l r => ho.rd r (off_blk hB hnu r), fun w0 h0 hq => ho.ahead h0 (hq g rfl), fun b' cs' B' hne => B'.only ho (fun q => hne (by rw [q]; rfl)), Nat.le_of_eq ho.2.2.2.1.symm, fun b' hne _ => ho.2.2.2.2 b' (fun q => hne (by rw [q]; rfl)), rfl, rfl, rfl⟩ (.inl rfl)⟩
      · simp only [List.size_toArray, List.length_append, List.length_take, List.length_drop, Array.length_toList, hs, dys_len]
        omega
      · rw [hs, htk, dys_append, List.length_append]
        have : (ds.length + ys.length) * 3 = (dys ds ++ dys ys).length := by rw [List.length_append, dys_len, dys_len, Nat.add_mul]
        rw [this]
        exact List.take_left
      · refine noUof fun v hv => ?_
        rw [hs, htk] at hv
        rcases List.mem_append.1 hv with hv | hv
        · exact hnd v hv
        · exact noU_out hnu v (List.mem_of_mem_drop hv)
    · have holds : ∀ j u, (dys ds)[j]? = some u → w.cell? ((⟨g, 0, none⟩ : Addr).add j) = some u := by
        intro j u hj
        rw [add_off]
        refine Blk.cell ⟨e, hh⟩ ?_
        rw [← htk, List.getElem?_take] at hj
        split at hj
        · rw [← Array.getElem?_toList]; exact hj
        · cases hj
      have hb1 := hbyt (ds.length + ys.length) hsz
      have hr := run_append_grow (P := pr) w t ty e inf z hu hinf hz ⟨g, 0, none⟩ ds.length cap (dys ds) (by rw [dys_len, hs]) holds ⟨ga, oa, none⟩ ys.length x.c (dys ys) hl1 hnews (by omega) (by omega)
        (growslice_fits (by omega) hb1)
      rw [show Slc.v ⟨some ⟨g, 0, none⟩, ds.length, cap⟩ = .slice (some ⟨g, 0, none⟩) ds.length cap from rfl, hr]
      have hge := grownCap_ge w (ds.length + ys.length) cap e
      have hcm2 := grownCap_le_maxLen w (ds.length + ys.length) cap e (by unfold maxLen; omega)
      exact ⟨⟨some ⟨w.heap.size, 0, none⟩, ds.length + ys.length, grownCap w (ds.length + ys.length) cap e⟩, rfl, hk _ _ (grown _ hge hcm2 _ rfl) (gr _ _) (.inr rfl)⟩
/-- append of nothing, onto one dyadic. -/
theorem app_none {t e ty : TypeId} {w : World} {b : Nat} {K : Slc → World → Prop} (hk : K ⟨some ⟨b, 0, none⟩, 1, 1⟩ w) (h : ∃ cs, w.heap[b]? = some (.cells cs e (0, 0))) (hT : sl3 pr t e = true := by kernel_rfl) :
    semS pr (Builtin.append_ #[t, t] ty #[(⟨some ⟨b, 0, none⟩, 1, 1⟩ : Slc).v, Slc.v ⟨none, 0, 0⟩]) w K := by
  obtain ⟨hu, inf, z, hinf, hs, hby, hz, hzc, hnz⟩ := sl3_out hT
  unfold semS
  rw [Sem.wp_iff_run]
  have hr : (Builtin.append_ #[t, t] ty #[(⟨some ⟨b, 0, none⟩, 1, 1⟩ : Slc).v, Slc.v ⟨none, 0, 0⟩]).run pr w = .ok (.slice (some ⟨b, 0, none⟩) 1 1) w := by
    simp [Builtin.append_, Slc.v, run_underlying hu, sizeOf, typeInfo, hinf, hs, Builtin.lenOf, Builtin.firstCells, storeCells]
  rw [hr]
  exact ⟨⟨some ⟨b, 0, none⟩, 1, 1⟩, rfl, hk⟩
end Dl
end Go.Proofs.YtahbekmnphkiiaaDoor
