/- The contracts of nat's functions: Compare, Add, Sub. No condition. -/
import Derived.Test.YthhbjhdnaopcnaaDoorNat1
import Derived.Shelf.Spec.BitsCarry
namespace Go.Proofs.YthhbjhdnaopcnaaDoor
open Go Go.RowKit Eng Sp Dg
set_option linter.unusedVariables false
set_option linter.unusedSimpArgs false
set_option maxRecDepth 100000
namespace Nat

theorem add64 {x y c : Nat} (hc : c ≤ 1) {w : World} {K : Int → Int → World → Prop} (hk : K (((x + y + c) % B64 : Nat) : Int) (((x + y + c) / B64 : Nat) : Int) w) :
    Sem.wp pr (callFunc bits_Add64_id #[.int .u64 (x : Int), .int .u64 (y : Int), .int .u64 (c : Int)]) (fun n w' => ∃ s : Int, ∃ o : Int, n = .value (.tuple #[.int .u64 s, .int .u64 o]) ∧ K s o w') (fun _ _ => False) w := by
  rw [Sem.wp_iff_run, run_callFunc_extern Tryd.func135 (by kernel_rfl) (by kernel_rfl) (by kernel_rfl) (e := add64Entry) (by kernel_rfl), run_add64 x y c (by omega) (by omega) (by omega) (by omega)]
  exact ⟨_, _, rfl, hk⟩
theorem sub64 {x y c : Nat} (hc : c ≤ 1) {w : World} {K : Int → Int → World → Prop} (hk : K (((x + B64 - y - c) % B64 : Nat) : Int) (((if x < y + c then 1 else 0) : Nat) : Int) w) :
    Sem.wp pr (callFunc bits_Sub64_id #[.int .u64 (x : Int), .int .u64 (y : Int), .int .u64 (c : Int)]) (fun n w' => ∃ s : Int, ∃ o : Int, n = .value (.tuple #[.int .u64 s, .int .u64 o]) ∧ K s o w') (fun _ _ => False) w := by
  rw [Sem.wp_iff_run, run_callFunc_extern Tryd.func137 (by kernel_rfl) (by kernel_rfl) (by kernel_rfl) (e := sub64Entry) (by kernel_rfl), run_sub64 x y c hc]
  exact ⟨_, _, rfl, hk⟩

theorem Compare_spec {w : World} {p q : Slc} {a b : List Nat} (hp : Rd .u64 w p (nn a)) (hq : Rd .u64 w q (nn b)) (la : a.length ≤ 2 ^ 46) (lb : b.length ≤ 2 ^ 46) (oa : ok B64 a) (ob : ok B64 b) :
    Calls pr nat_Compare_id #[p.v, q.v] w fun e w' => Ahead w w' ∧ e = .returned (.int .i64 (cmpI (val B64 a) (val B64 b))) := by
  refine nat_Compare_vc p q w _ (fun s t i w' => Ahead w w' ∧ ∃ m : Nat, (digs B64 (val B64 a)).length = (digs B64 (val B64 b)).length ∧ Rd .u64 w' s (nn (digs B64 (val B64 a))) ∧ Rd .u64 w' t (nn (digs B64 (val B64 b))) ∧
    i = (m : Int) - 1 ∧ m ≤ (digs B64 (val B64 a)).length ∧ (digs B64 (val B64 a)).drop m = (digs B64 (val B64 b)).drop m) (fun _ _ i _ => (i + 1).toNat) ?_ ?_
  · refine Calls.mono (trim_spec hp la oa) ?_
    rintro e w' ⟨rfl, m, hm, hd, rfl⟩
    refine ⟨_, rfl, ?_⟩
    refine Calls.mono (trim_spec hq lb ob) ?_
    rintro e w' ⟨rfl, m', hm', hd', rfl⟩
    refine ⟨_, rfl, ?_⟩
    have hca := hp.c
    have hna : p.n = a.length := by rw [hp.n, nn_length]
    have hcb := hq.c
    have hnb : q.n = b.length := by rw [hq.n, nn_length]
    have hla : (digs B64 (val B64 a)).length = m := by rw [hd, List.length_take]; omega
    have hlb : (digs B64 (val B64 b)).length = m' := by rw [hd', List.length_take]; omega
    refine br_intro (fun hne => ?_) (fun heq => ?_)
    · refine br_intro (fun hlt => ?_) (fun hlt => ?_)
      · have hlt' : m < m' := by simp at hlt; omega
        refine ⟨Ahead.refl _, ?_⟩
        have := digs_len_lt two64 (m := val B64 a) (n := val B64 b) (by omega)
        rw [cmpI, if_pos this]
      · have hlt' : m' < m := by simp at hlt hne; omega
        refine ⟨Ahead.refl _, ?_⟩
        have := digs_len_lt two64 (m := val B64 b) (n := val B64 a) (by omega)
        rw [cmpI, if_neg (by omega), if_pos this]
    · have heq' : m = m' := by simp at heq; omega
      subst heq'
      refine ⟨Ahead.refl _, m, by omega, ?_, ?_, wrap_i64 (by simp only; omega) (by simp only; omega), by omega, ?_⟩
      · rw [hd, ← nn_take]; exact hp.take (by simp; omega) (by omega)
      · rw [hd', ← nn_take]; exact hq.take (by simp; omega) (by omega)
      · rw [List.drop_eq_nil_of_le (by omega), List.drop_eq_nil_of_le (by omega)]
  · rintro s t i w' ⟨ha, m, hl, hs, ht, rfl, hm, hdr⟩
    have h46 := len_le oa
    refine br_intro (fun h0 => ?_) (fun h0 => ?_)
    · have hm1 : 1 ≤ m := by simp at h0; omega
      have e2 : ((m : Int) - 1).toNat = m - 1 := by omega
      refine ldNf hs (by omega) (by omega) ?_
      refine ldNf ht (by omega) (by omega) ?_
      intro w3 ha3
      rw [e2]
      have hdr' : (digs B64 (val B64 a)).drop (m - 1 + 1) = (digs B64 (val B64 b)).drop (m - 1 + 1) := by rw [Nat.sub_add_cancel hm1]; exact hdr
      refine br_intro (fun hlt => ?_) (fun hlt => ?_)
      · refine ⟨ha.trans ha3, ?_⟩
        have := val_lt_top (ok_digs two64 _) (by omega) (by omega) hdr' (by simpa using hlt)
        rw [val_digs two64, val_digs two64] at this
        rw [cmpI, if_pos this]
      · refine ldNf (hs.ahead ha3) (by omega) (by omega) ?_
        refine ldNf (ht.ahead ha3) (by omega) (by omega) ?_
        intro w4 ha4
        rw [e2]
        refine br_intro (fun hgt => ?_) (fun hgt => ?_)
        · refine ⟨(ha.trans ha3).trans ha4, ?_⟩
          have := val_lt_top (ok_digs two64 _) (by omega) (by omega) hdr'.symm (by simpa using hgt)
          rw [val_digs two64, val_digs two64] at this
          rw [cmpI, if_neg (by omega), if_pos this]
        · have e3 : IntKind.i64.wrap ((m : Int) - 1 - 1) = ((m - 1 : Nat) : Int) - 1 := by rw [wrap_i64 (by omega) (by omega)]; omega
          refine ⟨⟨(ha.trans ha3).trans ha4, m - 1, hl, (hs.ahead ha3).ahead ha4, (ht.ahead ha3).ahead ha4, e3, by omega, ?_⟩, by rw [e3]; omega⟩
          have heq : (digs B64 (val B64 a)).getD (m - 1) 0 = (digs B64 (val B64 b)).getD (m - 1) 0 := by
            simp only [decide_eq_false_iff_not] at hlt hgt; omega
          have l1 : m - 1 < (digs B64 (val B64 a)).length := by omega
          have l2 : m - 1 < (digs B64 (val B64 b)).length := by omega
          rw [List.drop_eq_getElem_cons l1, List.drop_eq_getElem_cons l2, hdr', ← getD_lt _ 0 l1, ← getD_lt _ 0 l2, heq]
    · have hm0 : m = 0 := by simp at h0; omega
      subst hm0
      refine ⟨ha, ?_⟩
      have := digs_inj two64 (m := val B64 a) (n := val B64 b) (by simpa using hdr)
      rw [this, cmpI, if_neg (by omega), if_neg (by omega)]

theorem Add_spec {w : World} {p q : Slc} {a b : List Nat} (hp : Rd .u64 w p (nn a)) (hq : Rd .u64 w q (nn b)) (la : a.length ≤ 2 ^ 44) (lb : b.length ≤ 2 ^ 44) (oa : ok B64 a) (ob : ok B64 b) :
    Calls pr nat_Add_id #[p.v, q.v] w (Ans w (val B64 a + val B64 b)) := by
  have hB := B64v
  have key : ∀ (s t : Slc) (A C : List Nat) (w2 : World), Ahead w w2 → Rd .u64 w2 s (nn A) → Rd .u64 w2 t (nn C) → ok B64 A → ok B64 C → C.length ≤ A.length → A.length ≤ 2 ^ 44 → val B64 A + val B64 C = val B64 a + val B64 b → True := fun _ _ _ _ _ _ _ _ _ _ _ _ _ => trivial
  refine nat_Add_vc p q w _ (fun s t c k n i w' => Ahead w w' ∧ ∃ (A C l : List Nat) (j cr bb : Nat), Rd .u64 w' s (nn A) ∧ Rd .u64 w' t (nn C) ∧ ok B64 A ∧ ok B64 C ∧ C.length ≤ A.length ∧ A.length ≤ 2 ^ 44 ∧
    val B64 A + val B64 C = val B64 a + val B64 b ∧ n = (A.length : Int) ∧ i = (j : Int) ∧ j ≤ A.length ∧ k = (cr : Int) ∧ cr ≤ 1 ∧ Own .u64 tU64 w' c (nn l) bb ∧ c.c ≤ maxLen ∧ w.heap.size ≤ bb ∧
    l.length = A.length + 1 ∧ ok B64 l ∧ val B64 (l.take j) + cr * B64 ^ j = val B64 (A.take j) + val B64 (C.take j) ∧
    (∃ w1, Ahead w1 w' ∧ w1.heap.size ≤ bb ∧ Rd .u64 w1 s (nn A) ∧ Rd .u64 w1 t (nn C))) (fun _ _ _ _ n i _ => (n - i).toNat) ?_ ?_
  · refine Calls.mono (trim_spec hp (by omega) oa) ?_
    rintro e w' ⟨rfl, m, hm, hd, rfl⟩
    refine ⟨_, rfl, ?_⟩
    refine Calls.mono (trim_spec hq (by omega) ob) ?_
    rintro e w' ⟨rfl, m', hm', hd', rfl⟩
    refine ⟨_, rfl, ?_⟩
    have hca := hp.c
    have hna : p.n = a.length := by rw [hp.n, nn_length]
    have hcb := hq.c
    have hnb : q.n = b.length := by rw [hq.n, nn_length]
    have hla : (digs B64 (val B64 a)).length = m := by rw [hd, List.length_take]; omega
    have hlb : (digs B64 (val B64 b)).length = m' := by rw [hd', List.length_take]; omega
    have r1 : Rd .u64 w' ⟨p.A, m, p.c⟩ (nn (digs B64 (val B64 a))) := by rw [hd, ← nn_take]; exact hp.take (by simp; omega) (by omega)
    have r2 : Rd .u64 w' ⟨q.A, m', q.c⟩ (nn (digs B64 (val B64 b))) := by rw [hd', ← nn_take]; exact hq.take (by simp; omega) (by omega)
    refine br_intro (fun hlt => ?_) (fun hlt => ?_)
    · have hlt' : m < m' := by simp at hlt; omega
      simp only
      rw [wrap_i64 (x := (m' : Int) + 1) (by omega) (by omega)]
      refine mkN (by omega) (by omega) ?_
      intro s w1 hc ho ha hs
      refine ⟨ha, _, _, _, 0, 0, _, r2.ahead ha, r1.ahead ha, ok_digs two64 _, ok_digs two64 _, by omega, by omega, ?_, by simp only [hlb], rfl, Nat.zero_le _, rfl, Nat.zero_le _, ho, by rw [hc]; unfold maxLen; omega, Nat.le_refl _, by simp; omega, ok_replicate (by omega) _, by simp [val], w', ha, Nat.le_refl _, r2, r1⟩
      rw [val_digs two64, val_digs two64]; omega
    · have hlt' : m' ≤ m := by simp at hlt; omega
      simp only
      rw [wrap_i64 (x := (m : Int) + 1) (by omega) (by omega)]
      refine mkN (by omega) (by omega) ?_
      intro s w1 hc ho ha hs
      refine ⟨ha, _, _, _, 0, 0, _, r1.ahead ha, r2.ahead ha, ok_digs two64 _, ok_digs two64 _, by omega, by omega, ?_, by simp only [hla], rfl, Nat.zero_le _, rfl, Nat.zero_le _, ho, by rw [hc]; unfold maxLen; omega, Nat.le_refl _, by simp; omega, ok_replicate (by omega) _, by simp [val], w', ha, Nat.le_refl _, r1, r2⟩
      rw [val_digs two64, val_digs two64]
  · rintro s t c k n i w' ⟨ha, A, C, l, j, cr, bb, hs, ht, oA, oC, hCA, hA, hv, rfl, rfl, hj, rfl, hcr, ho, hcc, hbb, hl, ol, hval, w1, ha1, hw1, hs1, ht1⟩
    have htn : t.n = C.length := by rw [ht.n, nn_length]
    have hsn : s.n = A.length := by rw [hs.n, nn_length]
    -- what a round does with y
    have round : ∀ y : Nat, y < B64 → y = C.getD j 0 → j < A.length → semA pr (Instr.indexAt 29 s.v (.int .i64 (j : Int))) w' fun ad2 w5 => ldI .u64 ad2 w5 fun x2 =>
        Sem.wp pr (callFunc bits_Add64_id #[.int .u64 x2, .int .u64 (y : Int), .int .u64 (cr : Int)]) (fun n1 w6 => ∃ x3 : Int, ∃ x4 : Int, n1 = .value (.tuple #[.int .u64 x3, .int .u64 x4]) ∧
          (semA pr (Instr.indexAt 29 c.v (.int .i64 (j : Int))) w6 fun ad3 w7 => stC ad3 (.int .u64 x3) w7 fun w8 =>
            (Ahead w w8 ∧ ∃ (A C l : List Nat) (j' cr bb : Nat), Rd .u64 w8 s (nn A) ∧ Rd .u64 w8 t (nn C) ∧ ok B64 A ∧ ok B64 C ∧ C.length ≤ A.length ∧ A.length ≤ 2 ^ 44 ∧
    val B64 A + val B64 C = val B64 a + val B64 b ∧ (s.n : Int) = (A.length : Int) ∧ IntKind.i64.wrap ((j : Int) + 1) = (j' : Int) ∧ j' ≤ A.length ∧ x4 = (cr : Int) ∧ cr ≤ 1 ∧ Own .u64 tU64 w8 c (nn l) bb ∧ c.c ≤ maxLen ∧ w.heap.size ≤ bb ∧
    l.length = A.length + 1 ∧ ok B64 l ∧ val B64 (l.take j') + cr * B64 ^ j' = val B64 (A.take j') + val B64 (C.take j') ∧
    (∃ w1, Ahead w1 w8 ∧ w1.heap.size ≤ bb ∧ Rd .u64 w1 s (nn A) ∧ Rd .u64 w1 t (nn C))) ∧ ((s.n : Int) - IntKind.i64.wrap ((j : Int) + 1)).toNat < ((s.n : Int) - (j : Int)).toNat)) (fun _ _ => False) w5 := by
      intro y hy hyC hjA
      refine ldN hs (by omega) (by omega) ?_
      refine add64 hcr ?_
      refine stN ho (by omega) (by omega) ?_
      intro w8 ho8 hah hsz
      have e1 : IntKind.i64.wrap ((j : Int) + 1) = ((j + 1 : Nat) : Int) := by rw [wrap_i64 (by omega) (by omega)]; omega
      have hx := ok_getD oA (by omega : 0 < B64) j
      have ha8 := hah w1 ha1 hw1
      simp only [Int.toNat_natCast] at ho8 ⊢
      have hq1 : (A.getD j 0 + y + cr) / B64 ≤ 1 := by
        have : A.getD j 0 + y + cr < 2 * B64 := by omega
        have := (Nat.div_lt_iff_lt_mul (by omega : 0 < B64)).2 this
        omega
      refine ⟨⟨hah w ha hbb, A, C, _, j + 1, _, bb, hs1.ahead ha8, ht1.ahead ha8, oA, oC, hCA, hA, hv, by omega, e1, by omega, rfl, hq1, ho8, hcc, hbb, by simpa using hl, ok_set ol (Nat.mod_lt _ (by omega)), ?_, w1, ha8, hw1, hs1, ht1⟩, by rw [e1]; omega⟩
      rw [val_take_set _ _ _ (by omega), val_take_succ', val_take_succ', Nat.pow_succ, ← hyC]
      exact add_step (by have := Nat.mod_add_div (A.getD j 0 + y + cr) B64; omega) hval
    refine br_intro (fun hlt => ?_) (fun hge => ?_)
    · have hjA : j < A.length := by simpa using hlt
      have e0 : ((A.length : Nat) : Int) = (s.n : Int) := by omega
      rw [e0]
      refine br_intro (fun hjC => ?_) (fun hjC => ?_)
      · have hjC' : j < C.length := by simp at hjC; omega
        refine ldN ht (by omega) (by omega) ?_
        exact round _ (ok_getD oC (by omega) j) rfl hjA
      · have hjC' : C.length ≤ j := by simp at hjC; omega
        exact round 0 (by omega) (getD_ge _ _ hjC').symm hjA
    · have hjA : j = A.length := by simp at hge; omega
      subst hjA
      rw [hsn]
      refine stN ho (by omega) (by omega) ?_
      intro w8 ho8 hah hsz
      simp only [Int.toNat_natCast] at ho8
      have hfin : val B64 (l.set A.length cr) = val B64 a + val B64 b := by
        rw [← val_take_all (l.set A.length cr) (m := A.length + 1) (by simp; omega), val_take_set _ _ _ (by omega), ← hv]
        rw [val_take_all A (Nat.le_refl _), val_take_all C hCA] at hval
        rw [Nat.mul_comm]; exact hval
      refine Calls.mono (told_own ho8 hbb hcc (hah w ha hbb) (by simp; omega) (ok_set ol (by omega))) ?_
      rw [hfin]
      rintro e w'' ⟨h1, s', c', rfl, h2⟩
      exact ⟨_, _, rfl, h1, _, _, rfl, h2⟩

theorem Sub_spec {w : World} {p q : Slc} {a b : List Nat} (hp : Rd .u64 w p (nn a)) (hq : Rd .u64 w q (nn b)) (la : a.length ≤ 2 ^ 44) (lb : b.length ≤ 2 ^ 44) (oa : ok B64 a) (ob : ok B64 b) :
    Calls pr nat_Sub_id #[p.v, q.v] w fun e w' => (val B64 a < val B64 b ∧ Ahead w w' ∧ e = .returned (.tuple #[Slc.v ⟨none, 0, 0⟩, .int .i64 10])) ∨ (val B64 b ≤ val B64 a ∧ Ans w (val B64 a - val B64 b) e w') := by
  have hB := B64v
  refine nat_Sub_vc p q w _ (fun s t c k n i w' => val B64 b ≤ val B64 a ∧ Ahead w w' ∧ ∃ (A C l : List Nat) (j cr bb : Nat), Rd .u64 w' s (nn A) ∧ Rd .u64 w' t (nn C) ∧ ok B64 A ∧ ok B64 C ∧ A.length ≤ 2 ^ 44 ∧
    val B64 A = val B64 a ∧ val B64 C = val B64 b ∧ C.length ≤ A.length ∧ n = (A.length : Int) ∧ i = (j : Int) ∧ j ≤ A.length ∧ k = (cr : Int) ∧ cr ≤ 1 ∧ Own .u64 tU64 w' c (nn l) bb ∧ c.c ≤ maxLen ∧ w.heap.size ≤ bb ∧
    l.length = A.length ∧ ok B64 l ∧ val B64 (l.take j) + val B64 (C.take j) = val B64 (A.take j) + cr * B64 ^ j ∧
    (∃ w1, Ahead w1 w' ∧ w1.heap.size ≤ bb ∧ Rd .u64 w1 s (nn A) ∧ Rd .u64 w1 t (nn C))) (fun _ _ _ _ n i _ => (n - i).toNat) ?_ ?_
  · refine Calls.mono (Compare_spec hp hq (by omega) (by omega) oa ob) ?_
    rintro e w1 ⟨ha1, rfl⟩
    refine ⟨_, rfl, ?_⟩
    refine br_intro (fun hlt => ?_) (fun hge => ?_)
    · exact .inl ⟨cmpI_neg.1 (by simpa using hlt), ha1, rfl⟩
    · have hle : val B64 b ≤ val B64 a := by
        simp only [decide_eq_false_iff_not, cmpI_neg] at hge; omega
      refine Calls.mono (trim_spec (hp.ahead ha1) (by omega) oa) ?_
      rintro e w' ⟨rfl, m, hm, hd, rfl⟩
      refine ⟨_, rfl, ?_⟩
      refine Calls.mono (trim_spec (hq.ahead ha1) (by omega) ob) ?_
      rintro e w' ⟨rfl, m', hm', hd', rfl⟩
      refine ⟨_, rfl, ?_⟩
      have hca := hp.c
      have hna : p.n = a.length := by rw [hp.n, nn_length]
      have hcb := hq.c
      have hnb : q.n = b.length := by rw [hq.n, nn_length]
      have hla : (digs B64 (val B64 a)).length = m := by rw [hd, List.length_take]; omega
      have hlb : (digs B64 (val B64 b)).length = m' := by rw [hd', List.length_take]; omega
      have r1 : Rd .u64 w' ⟨p.A, m, p.c⟩ (nn (digs B64 (val B64 a))) := by rw [hd, ← nn_take]; exact (hp.ahead ha1).take (by simp; omega) (by omega)
      have r2 : Rd .u64 w' ⟨q.A, m', q.c⟩ (nn (digs B64 (val B64 b))) := by rw [hd', ← nn_take]; exact (hq.ahead ha1).take (by simp; omega) (by omega)
      have hmm : m' ≤ m := by
        rcases Nat.lt_or_ge m m' with h | h
        · have := digs_len_lt two64 (m := val B64 a) (n := val B64 b) (by omega); omega
        · exact h
      refine mkN (by simp only; omega) (by simp only; omega) ?_
      intro s w2 hc ho ha hs
      have hsz := ha1.size
      refine ⟨hle, ha1.trans ha, _, _, _, 0, 0, _, r1.ahead ha, r2.ahead ha, ok_digs two64 _, ok_digs two64 _, by omega, val_digs two64 _, val_digs two64 _, by omega, by simp only [hla], rfl, Nat.zero_le _, rfl, Nat.zero_le _, ho, by rw [hc]; unfold maxLen; simp only; omega, by omega, by simp; omega, ok_replicate (by omega) _, by simp [val], w', ha, Nat.le_refl _, r1, r2⟩
  · rintro s t c k n i w' ⟨hle, ha, A, C, l, j, cr, bb, hs, ht, oA, oC, hA, hvA, hvC, hCA, rfl, rfl, hj, rfl, hcr, ho, hcc, hbb, hl, ol, hval, w1, ha1, hw1, hs1, ht1⟩
    have htn : t.n = C.length := by rw [ht.n, nn_length]
    have hsn : s.n = A.length := by rw [hs.n, nn_length]
    have round : ∀ y : Nat, y < B64 → y = C.getD j 0 → j < A.length → semA pr (Instr.indexAt 29 s.v (.int .i64 (j : Int))) w' fun ad2 w5 => ldI .u64 ad2 w5 fun x2 =>
        Sem.wp pr (callFunc bits_Sub64_id #[.int .u64 x2, .int .u64 (y : Int), .int .u64 (cr : Int)]) (fun n1 w6 => ∃ x3 : Int, ∃ x4 : Int, n1 = .value (.tuple #[.int .u64 x3, .int .u64 x4]) ∧
          (semA pr (Instr.indexAt 29 c.v (.int .i64 (j : Int))) w6 fun ad3 w7 => stC ad3 (.int .u64 x3) w7 fun w8 =>
            (val B64 b ≤ val B64 a ∧ Ahead w w8 ∧ ∃ (A' C' l : List Nat) (j' cr bb : Nat), Rd .u64 w8 s (nn A') ∧ Rd .u64 w8 t (nn C') ∧ ok B64 A' ∧ ok B64 C' ∧ A'.length ≤ 2 ^ 44 ∧
    val B64 A' = val B64 a ∧ val B64 C' = val B64 b ∧ C'.length ≤ A'.length ∧ (A.length : Int) = (A'.length : Int) ∧ IntKind.i64.wrap ((j : Int) + 1) = (j' : Int) ∧ j' ≤ A'.length ∧ x4 = (cr : Int) ∧ cr ≤ 1 ∧ Own .u64 tU64 w8 c (nn l) bb ∧ c.c ≤ maxLen ∧ w.heap.size ≤ bb ∧
    l.length = A'.length ∧ ok B64 l ∧ val B64 (l.take j') + val B64 (C'.take j') = val B64 (A'.take j') + cr * B64 ^ j' ∧
    (∃ w1, Ahead w1 w8 ∧ w1.heap.size ≤ bb ∧ Rd .u64 w1 s (nn A') ∧ Rd .u64 w1 t (nn C'))) ∧ ((A.length : Int) - IntKind.i64.wrap ((j : Int) + 1)).toNat < ((A.length : Int) - (j : Int)).toNat)) (fun _ _ => False) w5 := by
      intro y hy hyC hjA
      refine ldN hs (by omega) (by omega) ?_
      refine sub64 hcr ?_
      refine stN ho (by omega) (by omega) ?_
      intro w8 ho8 hah hsz
      have e1 : IntKind.i64.wrap ((j : Int) + 1) = ((j + 1 : Nat) : Int) := by rw [wrap_i64 (by omega) (by omega)]; omega
      have hx := ok_getD oA (by omega : 0 < B64) j
      have ha8 := hah w1 ha1 hw1
      simp only [Int.toNat_natCast] at ho8 ⊢
      have hq1 : (if A.getD j 0 < y + cr then 1 else 0) ≤ 1 := by split <;> omega
      have hst : (A.getD j 0 + B64 - y - cr) % B64 + y + cr = A.getD j 0 + B64 * (if A.getD j 0 < y + cr then 1 else 0) := by
        generalize A.getD j 0 = x at *
        split
        · rename_i h
          rw [Nat.mod_eq_of_lt (by omega)]; omega
        · rename_i h
          have : x + B64 - y - cr = (x - y - cr) + B64 := by omega
          rw [this, Nat.add_mod_right, Nat.mod_eq_of_lt (by omega)]; omega
      refine ⟨⟨hle, hah w ha hbb, A, C, _, j + 1, _, bb, hs1.ahead ha8, ht1.ahead ha8, oA, oC, hA, hvA, hvC, hCA, rfl, e1, by omega, rfl, hq1, ho8, hcc, hbb, by simpa using hl, ok_set ol (Nat.mod_lt _ (by omega)), ?_, w1, ha8, hw1, hs1, ht1⟩, by rw [e1]; omega⟩
      rw [val_take_set _ _ _ (by omega), val_take_succ', val_take_succ', Nat.pow_succ, ← hyC]
      exact sub_step hst hval
    refine br_intro (fun hlt => ?_) (fun hge => ?_)
    · have hjA : j < A.length := by simpa using hlt
      refine br_intro (fun hjC => ?_) (fun hjC => ?_)
      · have hjC' : j < C.length := by simp at hjC; omega
        refine ldN ht (by omega) (by omega) ?_
        exact round _ (ok_getD oC (by omega) j) rfl hjA
      · have hjC' : C.length ≤ j := by simp at hjC; omega
        exact round 0 (by omega) (getD_ge _ _ hjC').symm hjA
    · have hjA : j = A.length := by simp at hge; omega
      subst hjA
      have hfin : val B64 l = val B64 a - val B64 b := by
        rw [val_take_all l (by omega), val_take_all A (Nat.le_refl _), val_take_all C hCA, hvA, hvC] at hval
        have hlt := val_lt ol
        rw [hl] at hlt
        have : cr = 0 := by
          rcases Nat.lt_or_ge cr 1 with h | h
          · omega
          · have : cr = 1 := by omega
            subst this
            omega
        subst this
        omega
      refine Calls.mono (told_own ho hbb hcc ha (by omega) ol) ?_
      rw [hfin]
      rintro e w'' ⟨h1, s', c', rfl, h2⟩
      exact ⟨_, _, rfl, .inr ⟨hle, h1, _, _, rfl, h2⟩⟩

end Nat
end Go.Proofs.YthhbjhdnaopcnaaDoor
