/- The contracts of the reference's naturals: Cmp, Limbs, Is, Int, Add, Sub. No condition. -/
import Derived.Test.YthhbjhdnaopcnaaDoorRef1
namespace Go.Proofs.YthhbjhdnaopcnaaDoor
open Go Go.RowKit Eng Sp Dg
set_option linter.unusedVariables false
set_option linter.unusedSimpArgs false
set_option maxRecDepth 100000
namespace Ref
open _root_.Go.Proofs.YthhbjhdnaopcnaaDoor.Nat (ldN ldNf stN mkN cutHi cutLo cutCap Fill mkF stF stFf Num OwnNil)

theorem Cmp_spec {w : World} {p q : Slc} {x y : Nat} (hp : RN w p x) (hq : RN w q y) (la : (digs B32 x).length ≤ 2 ^ 46) (lb : (digs B32 y).length ≤ 2 ^ 46) :
    Calls pr surdref01_Cmp_id #[p.v, q.v] w fun e w' => Ahead w w' ∧ e = .returned (.int .i64 (cmpI x y)) := by
  have hna := hp.n
  have hnb := hq.n
  refine surdref01_Cmp_vc p q w _ (fun s t i w' => Ahead w w' ∧ s = p ∧ t = q ∧ (digs B32 x).length = (digs B32 y).length ∧ ∃ m : Nat, i = (m : Int) - 1 ∧ m ≤ (digs B32 x).length ∧ (digs B32 x).drop m = (digs B32 y).drop m) (fun _ _ i _ => (i + 1).toNat) ?_ ?_
  · refine br_intro (fun hne => ?_) (fun heq => ?_)
    · refine br_intro (fun hlt => ?_) (fun hlt => ?_)
      · refine ⟨Ahead.refl _, ?_⟩
        have := digs_len_lt two32 (m := x) (n := y) (by simp at hlt; omega)
        rw [cmpI, if_pos this]
      · refine ⟨Ahead.refl _, ?_⟩
        have := digs_len_lt two32 (m := y) (n := x) (by simp at hlt hne; omega)
        rw [cmpI, if_neg (by omega), if_pos this]
    · have heq' : p.n = q.n := by simp at heq; omega
      refine ⟨Ahead.refl _, rfl, rfl, by omega, p.n, wrap_i64 (by omega) (by omega), by omega, ?_⟩
      rw [List.drop_eq_nil_of_le (by omega), List.drop_eq_nil_of_le (by omega)]
  · rintro s t i w' ⟨ha, rfl, rfl, hl, m, rfl, hm, hdr⟩
    have hs := hp.ahead ha
    have ht := hq.ahead ha
    refine br_intro (fun h0 => ?_) (fun h0 => ?_)
    · have hm1 : 1 ≤ m := by simp at h0; omega
      have e2 : ((m : Int) - 1).toNat = m - 1 := by omega
      refine ldNf hs (by omega) (by omega) ?_
      refine ldNf ht (by omega) (by omega) ?_
      intro w3 ha3
      rw [e2]
      have hdr' : (digs B32 x).drop (m - 1 + 1) = (digs B32 y).drop (m - 1 + 1) := by rw [Nat.sub_add_cancel hm1]; exact hdr
      refine br_intro (fun hlt => ?_) (fun hlt => ?_)
      · refine ⟨ha.trans ha3, ?_⟩
        have := val_lt_top (ok_digs two32 x) (by omega) (by omega) hdr' (by simpa using hlt)
        rw [val_digs two32, val_digs two32] at this
        rw [cmpI, if_pos this]
      · refine ldNf (hs.ahead ha3) (by omega) (by omega) ?_
        refine ldNf (ht.ahead ha3) (by omega) (by omega) ?_
        intro w4 ha4
        rw [e2]
        refine br_intro (fun hgt => ?_) (fun hgt => ?_)
        · refine ⟨(ha.trans ha3).trans ha4, ?_⟩
          have := val_lt_top (ok_digs two32 y) (by omega) (by omega) hdr'.symm (by simpa using hgt)
          rw [val_digs two32, val_digs two32] at this
          rw [cmpI, if_neg (by omega), if_pos this]
        · have e3 : IntKind.i64.wrap ((m : Int) - 1 - 1) = ((m - 1 : Nat) : Int) - 1 := by rw [wrap_i64 (by omega) (by omega)]; omega
          refine ⟨⟨(ha.trans ha3).trans ha4, rfl, rfl, hl, m - 1, e3, by omega, ?_⟩, by rw [e3]; omega⟩
          have heq : (digs B32 x).getD (m - 1) 0 = (digs B32 y).getD (m - 1) 0 := by
            simp only [decide_eq_false_iff_not] at hlt hgt; omega
          have l1 : m - 1 < (digs B32 x).length := by omega
          have l2 : m - 1 < (digs B32 y).length := by omega
          rw [List.drop_eq_getElem_cons l1, List.drop_eq_getElem_cons l2, hdr', ← getD_lt _ 0 l1, ← getD_lt _ 0 l2, heq]
    · have hm0 : m = 0 := by simp at h0; omega
      subst hm0
      refine ⟨ha, ?_⟩
      have := digs_inj two32 (m := x) (n := y) (by simpa using hdr)
      rw [this, cmpI, if_neg (by omega), if_neg (by omega)]

theorem digs_lt_iff {B n j : Nat} (hB : 2 ≤ B) : j < (digs B n).length ↔ B ^ j ≤ n := by
  by_cases hn : n = 0
  · subst hn
    rw [digs_zero]
    have : 0 < B ^ j := Nat.pow_pos (by omega)
    simp; omega
  · obtain ⟨h1, h2⟩ := digs_length_bounds hB hn
    constructor
    · intro h
      exact Nat.le_trans (Nat.pow_le_pow_right (by omega) (by omega)) h1
    · intro h
      exact (Nat.pow_lt_pow_iff_right (by omega)).1 (Nat.lt_of_le_of_lt h h2)
theorem b64_sq (j : Nat) : B64 ^ j = B32 ^ (2 * j) := by rw [show B64 = B32 ^ 2 by decide, ← Nat.pow_mul]
theorem digs_64_32 {n j : Nat} : j < (digs B64 n).length ↔ 2 * j < (digs B32 n).length := by
  rw [digs_lt_iff two64, digs_lt_iff two32, b64_sq]
theorem limb_eq (n j : Nat) : (digs B64 n).getD j 0 = (digs B32 n).getD (2 * j) 0 + (digs B32 n).getD (2 * j + 1) 0 * B32 := by
  rw [digit (by have := B64v; omega) _ (ok_digs two64 n), digit (by have := B32v; omega) _ (ok_digs two32 n), digit (by have := B32v; omega) _ (ok_digs two32 n), val_digs two64, val_digs two32, b64_sq, Nat.pow_succ, ← Nat.div_div_eq_div_mul]
  generalize n / B32 ^ (2 * j) = U
  rw [show B64 = B32 * B32 by decide, Nat.mod_mul, Nat.mul_comm B32]

theorem Limbs_spec {w : World} {s : Slc} {n : Nat} (h : RN w s n) (hl : (digs B64 n).length ≤ 2 ^ 44) :
    Calls pr surdref01_Num_Limbs_id #[s.v] w fun e w' => Ahead w w' ∧ ∃ s', e = .returned (Slc.v s') ∧ OwnNil w.heap.size w' s' (digs B64 n) := by
  have hB := B64v
  have hB32 := B32v
  have hn := h.n
  have hok := ok_digs two32 n
  have hbnd : (digs B32 n).length ≤ 2 ^ 45 := by
    rcases Nat.lt_or_ge (2 ^ 45) (digs B32 n).length with h1 | h1
    · have := digs_64_32 (n := n) (j := 2 ^ 44)
      omega
    · exact h1
  refine surdref01_Num_Limbs_vc s w _ (fun t out i w' => t = s ∧ Ahead w w' ∧ ∃ j : Nat, i = 2 * (j : Int) ∧ j ≤ (digs B64 n).length ∧ OwnNil w.heap.size w' out ((digs B64 n).take j)) (fun _ _ i _ => (2 * ((digs B64 n).length : Int) - i).toNat)
    ⟨rfl, Ahead.refl _, 0, rfl, Nat.zero_le _, OwnNil.nil⟩ ?_
  rintro t out i w1 ⟨rfl, ha, j, rfl, hj, ho⟩
  have hiff := digs_64_32 (n := n) (j := j)
  refine br_intro (fun hlt => ?_) (fun hge => ?_)
  · have hj' : 2 * j < (digs B32 n).length := by simp at hlt; omega
    have hjj := hiff.2 hj'
    have hlimb := limb_eq n j
    have hx := ok_getD hok (by omega : 0 < B32) (2 * j)
    have hy := ok_getD hok (by omega : 0 < B32) (2 * j + 1)
    have hL := ok_getD (ok_digs two64 n) (by omega : 0 < B64) j
    have e8 : IntKind.i64.wrap (2 * (j : Int) + 2) = 2 * ((j + 1 : Nat) : Int) := by rw [wrap_i64 (by omega) (by omega)]; omega
    have e9 : IntKind.i64.wrap (2 * (j : Int) + 1) = ((2 * j + 1 : Nat) : Int) := by rw [wrap_i64 (by omega) (by omega)]; omega
    have ei : (2 * (j : Int)).toNat = 2 * j := by omega
    have step : ∀ (T : TypeId) (hT : isSl pr T .u64 = some tU64) (v : Nat), v = (digs B64 n).getD j 0 → newC w1 #[Value.int .u64 (v : Int)] tU64 fun ad3 w3 =>
        semS pr (Builtin.append_ #[T, T] T #[out.v, (⟨some ad3, 1, 1⟩ : Slc).v]) w3 fun s1 w4 =>
        (t = t ∧ Ahead w w4 ∧ ∃ j' : Nat, IntKind.i64.wrap (2 * (j : Int) + 2) = 2 * (j' : Int) ∧ j' ≤ (digs B64 n).length ∧ OwnNil w.heap.size w4 s1 ((digs B64 n).take j')) ∧
        (2 * ((digs B64 n).length : Int) - IntKind.i64.wrap (2 * (j : Int) + 2)).toNat < (2 * ((digs B64 n).length : Int) - 2 * (j : Int)).toNat := by
      rintro T hT v rfl
      have hal := Ahead.alloc w1 (.cells #[Value.int .u64 (((digs B64 n).getD j 0 : Nat) : Int)] tU64 (0, 0))
      have hlit : Rd .u64 (w1.alloc (.cells #[Value.int .u64 (((digs B64 n).getD j 0 : Nat) : Int)] tU64 (0, 0))) ⟨some ⟨w1.heap.size, 0, none⟩, 1, 1⟩ (nn [(digs B64 n).getD j 0]) :=
        Own.rd (t := tU64) (b := w1.heap.size) ⟨rfl, [], rfl, by rw [get_alloc]; rfl⟩
      refine app (t := _) (e := tU64) (k := .u64) (l := nn ((digs B64 n).take j)) (base := w.heap.size) hT hlit (by simp)
        ((ho.ahead hal).imp (fun h => ⟨h.1, by rw [h.2]; rfl⟩) id) (ha.trans hal).size (by simp; omega) ?_
      intro s' w5 b' hb' hc' hown hbel hah
      refine ⟨⟨rfl, ?_, j + 1, e8, hjj, .inr ⟨b', hb', hc', ?_⟩⟩, by rw [e8]; omega⟩
      · refine hah w (ha.trans hal) fun b hb => ?_
        rcases ho with ⟨rfl, _⟩ | ⟨b2, h1, _, h3⟩
        · simp at hb
        · rw [h3.A] at hb; simp at hb; omega
      · rw [List.take_succ_eq_append_getElem hjj, nn_append, ← getD_lt _ 0 hjj]
        exact hown
    refine ldN (h.ahead ha) (by omega) (by omega) ?_
    rw [ei]
    refine br_intro (fun hin => ?_) (fun hin => ?_)
    · have hin' : 2 * j + 1 < (digs B32 n).length := by rw [e9] at hin; simp at hin; omega
      rw [e9]
      refine ldN (h.ahead ha) (by omega) (by omega) ?_
      rw [Int.toNat_natCast]
      have ev : IntKind.u64.wrap ((((digs B32 n).getD (2 * j) 0 : Nat) : Int) + IntKind.u64.wrap ((((digs B32 n).getD (2 * j + 1) 0 : Nat) : Int) * 4294967296)) = (((digs B64 n).getD j 0 : Nat) : Int) := by
        rw [hlimb]
        generalize (digs B32 n).getD (2 * j) 0 = a at *
        generalize (digs B32 n).getD (2 * j + 1) 0 = b at *
        rw [hB32] at *
        rw [wrap_u64' (x := (b : Int) * 4294967296) (by omega) (by omega), wrap_u64' (by omega) (by omega)]
        omega
      rw [ev]
      exact step _ (by kernel_rfl) _ rfl
    · have hin' : (digs B32 n).length ≤ 2 * j + 1 := by rw [e9] at hin; simp at hin; omega
      refine step _ (by kernel_rfl) _ ?_
      rw [hlimb, getD_ge _ 0 hin', Nat.zero_mul, Nat.add_zero]
  · have hj' : j = (digs B64 n).length := by
      have : ¬ 2 * j < (digs B32 n).length := by simp at hge; omega
      have := mt hiff.1 this
      omega
    subst hj'
    rw [List.take_length] at ho
    exact ⟨ha, _, rfl, ho⟩

theorem Is_spec {w : World} {s t : Slc} {n : Nat} (h : RN w s n) (ht : Rd .u64 w t (nn (digs B64 n))) (hl : (digs B64 n).length ≤ 2 ^ 44) :
    Calls pr surdref01_Num_Is_id #[s.v, t.v] w fun e w' => Ahead w w' ∧ e = .returned (.bool true) := by
  have htn : t.n = (digs B64 n).length := by rw [ht.n, nn_length]
  refine surdref01_Num_Is_vc s t w _ (fun p q m i w' => p = t ∧ m = ((digs B64 n).length : Int) ∧ Ahead w w' ∧ Rd .u64 w' q (nn (digs B64 n)) ∧ ∃ j : Nat, i = (j : Int) ∧ j ≤ (digs B64 n).length) (fun _ _ m i _ => (m - i).toNat) ?_ ?_
  · refine Calls.mono (Limbs_spec h hl) ?_
    rintro e w1 ⟨ha, s', rfl, ho⟩
    have hr := ho.rd
    have hn' : s'.n = (digs B64 n).length := by rw [hr.n, nn_length]
    exact ⟨_, rfl, br_false (by rw [hn', htn]; simp) ⟨rfl, by rw [hn'], ha, hr, 0, rfl, Nat.zero_le _⟩⟩
  · rintro p q m i w1 ⟨rfl, rfl, ha, hr, j, rfl, hj⟩
    refine br_intro (fun hlt => ?_) (fun hge => ?_)
    · have hj' : j < (digs B64 n).length := by simp at hlt; omega
      refine ldNf hr (by omega) (by omega) ?_
      refine ldNf (ht.ahead ha) (by omega) (by omega) ?_
      intro w2 ha2
      have e8 : IntKind.i64.wrap ((j : Int) + 1) = ((j + 1 : Nat) : Int) := by rw [wrap_i64 (by omega) (by omega)]; omega
      exact br_false (by simp) ⟨⟨rfl, rfl, ha.trans ha2, hr.ahead ha2, j + 1, e8, hj'⟩, by rw [e8]; omega⟩
    · exact ⟨ha, rfl⟩

theorem Int_spec {w : World} {v : Nat} (hv : v < 9223372036854775808) :
    Calls pr surdref01_Int_id #[.int .i64 (v : Int)] w fun e w' => Ahead w w' ∧ ∃ s', e = .returned (Slc.v s') ∧ RN w' s' v := by
  have hB := B64v
  refine surdref01_Int_vc _ w _ ?_
  rw [wrap_u64' (by omega) (by omega)]
  have hal := Ahead.alloc w (.cells #[Value.int .u64 (v : Int)] tU64 (0, 0))
  have hlit : Rd .u64 (w.alloc (.cells #[Value.int .u64 (v : Int)] tU64 (0, 0))) ⟨some ⟨w.heap.size, 0, none⟩, 1, 1⟩ (nn [v]) := Own.rd (t := tU64) (b := w.heap.size) ⟨rfl, [], rfl, by rw [get_alloc]; rfl⟩
  refine Calls.mono (Of_spec hlit (by simp) (by intro y hy; simp at hy; omega)) ?_
  rintro e w2 ⟨ha, s', rfl, hr⟩
  exact ⟨_, rfl, hal.trans ha, _, rfl, by simpa [val] using hr⟩

theorem Fill.norm {w0 w : World} {c : Slc} {l : List Nat} {S : World → Prop} (h : Fill w0 w c l S) (hl : l.length ≤ 2 ^ 46) (hok : ok B32 l) :
    Calls pr surdref01_norm_id #[c.v] w fun e w' => w' = w ∧ ∃ s', e = .returned (Slc.v s') ∧ RN w s' (val B32 l) := norm_spec h.rd hl hok

theorem Fill.normN {w0 w : World} {c : Slc} {l : List Nat} {S : World → Prop} (h : Fill w0 w c l S) (hl : l.length ≤ 2 ^ 46) (hok : ok B32 l) :
    Calls pr surdref01_norm_id #[c.v] w fun e w' => w' = w ∧ ∃ s', e = .returned (Slc.v s') ∧ RN w s' (val B32 l) ∧ ∀ ad, s'.A = some ad → w0.heap.size ≤ ad.block :=
  Calls.mono (norm_specA h.rd hl hok) fun e w' ⟨h1, s', h2, h3, hA⟩ => ⟨h1, s', h2, h3, fun ad had => by
    rw [hA] at had
    obtain ⟨b, _, ho, _, hb, _⟩ := h
    rw [ho.A] at had
    obtain rfl := Option.some.inj had
    exact hb⟩

theorem Add_specN {w : World} {p q : Slc} {x y : Nat} (hp : RN w p x) (hq : RN w q y) (la : (digs B32 x).length + 1 ≤ 2 ^ 45) (lb : (digs B32 y).length + 1 ≤ 2 ^ 45) :
    Calls pr surdref01_Add_id #[p.v, q.v] w fun e w' => Ahead w w' ∧ ∃ s', e = .returned (Slc.v s') ∧ RN w' s' (x + y) ∧ ∀ ad, s'.A = some ad → w.heap.size ≤ ad.block := by
  have hB32 := B32v
  have hna := hp.n
  have hnb := hq.n
  have oa := ok_digs two32 x
  have ob := ok_digs two32 y
  have vx := val_digs two32 x
  have vy := val_digs two32 y
  unfold RN at hp hq
  generalize digs B32 x = A at *
  generalize digs B32 y = C at *
  refine surdref01_Add_vc p q w _ (fun s t n out k i w' => s = p ∧ t = q ∧ ∃ (m : Nat) (l : List Nat) (j cr : Nat), n = (m : Int) ∧ A.length ≤ m ∧ C.length ≤ m ∧ m + 1 ≤ 2 ^ 45 ∧ k = (cr : Int) ∧ cr ≤ 1 ∧ i = (j : Int) ∧ j ≤ m + 1 ∧
    Fill w w' out l (fun _ => True) ∧ l.length = m + 1 ∧ ok B32 l ∧ val B32 (l.take j) + cr * B32 ^ j = val B32 (A.take j) + val B32 (C.take j)) (fun _ _ n _ _ i _ => (n + 1 - i).toNat) ?_ ?_
  · refine br_intro (fun hlt => ?_) (fun hlt => ?_)
    · rw [wrap_i64 (x := (q.n : Int) + 1) (by omega) (by omega)]
      refine mkF (S := fun _ => True) (w0 := w) (by omega) (by omega) (Ahead.refl _) trivial ?_
      intro s w1 hsn hf ha
      refine ⟨rfl, rfl, q.n, _, 0, 0, rfl, by simp at hlt; omega, by omega, by omega, rfl, by omega, rfl, Nat.zero_le _, hf, by rw [List.length_replicate]; omega, ok_replicate (by omega) _, by simp [val]⟩
    · rw [wrap_i64 (x := (p.n : Int) + 1) (by omega) (by omega)]
      refine mkF (S := fun _ => True) (w0 := w) (by omega) (by omega) (Ahead.refl _) trivial ?_
      intro s w1 hsn hf ha
      refine ⟨rfl, rfl, p.n, _, 0, 0, rfl, by omega, by simp at hlt; omega, by omega, rfl, by omega, rfl, Nat.zero_le _, hf, by rw [List.length_replicate]; omega, ok_replicate (by omega) _, by simp [val]⟩
  · rintro s t n out k i w1 ⟨rfl, rfl, m, l, j, cr, rfl, hA, hC, hm, rfl, hcr, rfl, hj, hf, hl, ol, hv⟩
    refine br_intro (fun hlt => ?_) (fun hge => ?_)
    · have hj' : j < m + 1 := by simp at hlt; omega
      refine Calls.mono (at_spec (hp.ahead hf.base) (by omega)) ?_
      rintro e w2 ⟨rfl, rfl⟩
      refine ⟨_, rfl, Calls.mono (at_spec (hq.ahead hf.base) (by omega)) ?_⟩
      rintro e w3 ⟨rfl, rfl⟩
      refine ⟨_, rfl, ?_⟩
      simp only [Int.toNat_natCast]
      have hx := ok_getD oa (by omega : 0 < B32) j
      have hy := ok_getD ob (by omega : 0 < B32) j
      have e8 : IntKind.i64.wrap ((j : Int) + 1) = ((j + 1 : Nat) : Int) := by rw [wrap_i64 (by omega) (by omega)]; omega
      have t1 := val_take_succ' A j (B := B32)
      have t2 := val_take_succ' C j (B := B32)
      generalize A.getD j 0 = a at *
      generalize C.getD j 0 = c at *
      have e1 : IntKind.u64.wrap (IntKind.u64.wrap ((a : Int) + (c : Int)) + (cr : Int)) = ((a + c + cr : Nat) : Int) := by
        rw [wrap_u64' (x := (a : Int) + c) (by omega) (by omega), wrap_u64' (by omega) (by omega)]; omega
      have e2 : Int.tmod ((a + c + cr : Nat) : Int) 4294967296 = (((a + c + cr) % B32 : Nat) : Int) := by rw [Int.tmod_eq_emod_of_nonneg (by omega), hB32]; omega
      have e3 : IntKind.u64.wrap (Int.tdiv ((a + c + cr : Nat) : Int) 4294967296) = (((a + c + cr) / B32 : Nat) : Int) := by
        have : Int.tdiv ((a + c + cr : Nat) : Int) 4294967296 = (((a + c + cr) / 4294967296 : Nat) : Int) := by rw [Int.tdiv_eq_ediv_of_nonneg (by omega)]; omega
        rw [this, wrap_u64' (by omega) (by omega), hB32]
      rw [e1, e2, e3]
      refine stF hf (by omega) (by omega) ?_
      intro w5 hf5
      simp only [Int.toNat_natCast] at hf5
      refine ⟨⟨by trivial, by trivial, m, _, j + 1, (a + c + cr) / B32, rfl, hA, hC, hm, rfl, ?_, e8, hj', hf5, by simpa using hl, ok_set ol (Nat.mod_lt _ (by omega)), ?_⟩, by rw [e8]; omega⟩
      · rw [hB32]; omega
      · rw [val_take_set _ _ _ (by omega), t1, t2, Nat.pow_succ]
        exact add_step (by have := Nat.mod_add_div (a + c + cr) B32; omega) hv
    · have hj' : j = m + 1 := by simp at hge; omega
      subst hj'
      rw [val_take_all l (by omega), val_take_all A (by omega), val_take_all C (by omega), vx, vy] at hv
      have h1 : x < B32 ^ m := by rw [← vx]; exact Nat.lt_of_lt_of_le (val_lt oa) (Nat.pow_le_pow_right (by omega) hA)
      have h2 : y < B32 ^ m := by rw [← vy]; exact Nat.lt_of_lt_of_le (val_lt ob) (Nat.pow_le_pow_right (by omega) hC)
      have h3 : cr = 0 := by
        rcases Nat.lt_or_ge cr 1 with h | h
        · omega
        · have hc1 : cr = 1 := by omega
          subst hc1
          have : 2 * B32 ^ m ≤ B32 ^ (m + 1) := by rw [Nat.pow_succ, Nat.mul_comm]; exact Nat.mul_le_mul_left _ (by omega)
          omega
      subst h3
      have hv' : val B32 l = x + y := by omega
      refine Calls.mono (Fill.normN hf (by omega) ol) ?_
      rintro e w6 ⟨rfl, s', rfl, hr, hA⟩
      rw [hv'] at hr
      exact ⟨_, rfl, hf.base, _, rfl, hr, hA⟩
theorem Add_spec {w : World} {p q : Slc} {x y : Nat} (hp : RN w p x) (hq : RN w q y) (la : (digs B32 x).length + 1 ≤ 2 ^ 45) (lb : (digs B32 y).length + 1 ≤ 2 ^ 45) :
    Calls pr surdref01_Add_id #[p.v, q.v] w fun e w' => Ahead w w' ∧ ∃ s', e = .returned (Slc.v s') ∧ RN w' s' (x + y) :=
  Calls.mono (Add_specN hp hq la lb) fun e w' ⟨h1, s', h2, h3, _⟩ => ⟨h1, s', h2, h3⟩

theorem Sub_specN {w : World} {p q : Slc} {x y : Nat} (hp : RN w p x) (hq : RN w q y) (hle : y ≤ x) (la : (digs B32 x).length ≤ 2 ^ 45) :
    Calls pr surdref01_Sub_id #[p.v, q.v] w fun e w' => Ahead w w' ∧ ∃ s', e = .returned (Slc.v s') ∧ RN w' s' (x - y) ∧ ∀ ad, s'.A = some ad → w.heap.size ≤ ad.block := by
  have hB32 := B32v
  have hna := hp.n
  have hnb := hq.n
  have oa := ok_digs two32 x
  have ob := ok_digs two32 y
  have vx := val_digs two32 x
  have vy := val_digs two32 y
  have hlen : (digs B32 y).length ≤ (digs B32 x).length := by
    rcases Nat.lt_or_ge (digs B32 x).length (digs B32 y).length with h | h
    · have := digs_len_lt two32 h; omega
    · exact h
  unfold RN at hp hq
  generalize digs B32 x = A at *
  generalize digs B32 y = C at *
  refine surdref01_Sub_vc p q w _ (fun s t out k n i w' => s = p ∧ t = q ∧ n = (A.length : Int) ∧ ∃ (l : List Nat) (j cr : Nat), k = (cr : Int) ∧ cr ≤ 1 ∧ i = (j : Int) ∧ j ≤ A.length ∧
    Fill w w' out l (fun _ => True) ∧ l.length = A.length ∧ ok B32 l ∧ val B32 (l.take j) + val B32 (C.take j) = val B32 (A.take j) + cr * B32 ^ j) (fun _ _ _ _ n i _ => (n - i).toNat) ?_ ?_
  · refine mkF (S := fun _ => True) (w0 := w) (by omega) (by omega) (Ahead.refl _) trivial ?_
    intro s w1 hsn hf ha
    refine ⟨rfl, rfl, by rw [hna], _, 0, 0, rfl, by omega, rfl, Nat.zero_le _, hf, by rw [List.length_replicate]; omega, ok_replicate (by omega) _, by simp [val]⟩
  · rintro s t out k n i w1 ⟨rfl, rfl, rfl, l, j, cr, rfl, hcr, rfl, hj, hf, hl, ol, hv⟩
    refine br_intro (fun hlt => ?_) (fun hge => ?_)
    · have hj' : j < A.length := by simp at hlt; omega
      refine ldNf ((hp.ahead hf.base).ahead (Ahead.drew _)) (by omega) (by omega) ?_
      refine Calls.mono (at_spec ((hq.ahead hf.base).ahead (Ahead.drew _)) (by omega)) ?_
      rintro e w4 ⟨rfl, rfl⟩
      have ha4 : Ahead w1 w1.drew := Ahead.drew _
      refine ⟨_, rfl, Ahead.refl _, ?_⟩
      simp only [Int.toNat_natCast]
      have hx := ok_getD oa (by omega : 0 < B32) j
      have hy := ok_getD ob (by omega : 0 < B32) j
      have e8 : IntKind.i64.wrap ((j : Int) + 1) = ((j + 1 : Nat) : Int) := by rw [wrap_i64 (by omega) (by omega)]; omega
      have t1 := val_take_succ' A j (B := B32)
      have t2 := val_take_succ' C j (B := B32)
      generalize A.getD j 0 = a at *
      generalize C.getD j 0 = c at *
      have e1 : IntKind.u64.wrap (IntKind.u64.wrap (IntKind.u64.wrap ((a : Int) + 4294967296) - (c : Int)) - (cr : Int)) = ((a + 4294967296 - c - cr : Nat) : Int) := by
        rw [wrap_u64' (x := (a : Int) + 4294967296) (by omega) (by omega), wrap_u64' (x := (a : Int) + 4294967296 - c) (by omega) (by omega), wrap_u64' (by omega) (by omega)]; omega
      have e2 : Int.tmod ((a + 4294967296 - c - cr : Nat) : Int) 4294967296 = (((a + 4294967296 - c - cr) % B32 : Nat) : Int) := by rw [Int.tmod_eq_emod_of_nonneg (by omega), hB32]; omega
      have e3 : IntKind.u64.wrap (1 - IntKind.u64.wrap (Int.tdiv ((a + 4294967296 - c - cr : Nat) : Int) 4294967296)) = ((if a < c + cr then 1 else 0 : Nat) : Int) := by
        have : Int.tdiv ((a + 4294967296 - c - cr : Nat) : Int) 4294967296 = (((a + 4294967296 - c - cr) / 4294967296 : Nat) : Int) := by rw [Int.tdiv_eq_ediv_of_nonneg (by omega)]; omega
        rw [this, wrap_u64' (x := (((a + 4294967296 - c - cr) / 4294967296 : Nat) : Int)) (by omega) (by omega), wrap_u64' (by omega) (by omega)]
        split <;> omega
      rw [e1, e2, e3]
      refine stF (hf.ahead ha4) (by omega) (by omega) ?_
      intro w5 hf5
      simp only [Int.toNat_natCast] at hf5
      refine ⟨⟨by trivial, by trivial, by trivial, _, j + 1, if a < c + cr then 1 else 0, rfl, by split <;> omega, e8, hj', hf5, by simpa using hl, ok_set ol (Nat.mod_lt _ (by omega)), ?_⟩, by rw [e8]; omega⟩
      rw [val_take_set _ _ _ (by omega), t1, t2, Nat.pow_succ]
      refine sub_step ?_ hv
      rw [hB32]
      rw [hB32] at hx hy
      split <;> omega
    · have hj' : j = A.length := by simp at hge; omega
      subst hj'
      rw [val_take_all l (by omega), val_take_all A (by omega), val_take_all C (by omega), vx, vy] at hv
      have hlt := val_lt ol
      rw [hl] at hlt
      have h3 : cr = 0 := by
        rcases Nat.lt_or_ge cr 1 with h | h
        · omega
        · have hc1 : cr = 1 := by omega
          subst hc1
          omega
      subst h3
      have hv' : val B32 l = x - y := by omega
      refine Calls.mono (Fill.normN hf (by omega) ol) ?_
      rintro e w6 ⟨rfl, s', rfl, hr, hA⟩
      rw [hv'] at hr
      exact ⟨_, rfl, hf.base, _, rfl, hr, hA⟩
theorem Sub_spec {w : World} {p q : Slc} {x y : Nat} (hp : RN w p x) (hq : RN w q y) (hle : y ≤ x) (la : (digs B32 x).length ≤ 2 ^ 45) :
    Calls pr surdref01_Sub_id #[p.v, q.v] w fun e w' => Ahead w w' ∧ ∃ s', e = .returned (Slc.v s') ∧ RN w' s' (x - y) :=
  Calls.mono (Sub_specN hp hq hle la) fun e w' ⟨h1, s', h2, h3, _⟩ => ⟨h1, s', h2, h3⟩

end Ref
end Go.Proofs.YthhbjhdnaopcnaaDoor
