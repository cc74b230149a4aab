/- What the law leans on, part 3. No condition. -/
import Derived.Test.YtahbekmnphkiiaaDoorZDyadicOwn2
namespace Go.Proofs.YtahbekmnphkiiaaDoor
open Go Go.RowKit Eng Sp Dg
set_option linter.unusedVariables false
set_option linter.unusedSimpArgs false
set_option maxRecDepth 100000
namespace Ref
open _root_.Go.Proofs.YtahbekmnphkiiaaDoor.Nat (ldN ldNf stN mkN cutHi cutCap Fill mkF stF stFf Num OwnNil)

theorem Cmp_spec {w : World} {p q : Slc} {x y : Nat} (hp : RN w p x) (hq : RN w q y) (la : (digs B32 x).length ≤ 2 ^ 46) (lb : (digs B32 y).length ≤ 2 ^ 46) :
    Calls pr surdref01_Cmp_id #[p.v, q.v] w fun e w' => Ahead w w' ∧ e = .returned (.int .i64 (cmpI x y)) := by
  have hna := hp.n
  have hnb := hq.n
  refine surdref01_Cmp_vc p q w _ (fun s t i w' => Ahead w w' ∧ s = p ∧ t = q ∧ (digs B32 x).length = (digs B32 y).length ∧ ∃ m : Nat, i = (m : Int) - 1 ∧ m ≤ (digs B32 x).length ∧ (digs B32 x).drop m = (digs B32 y).drop m) (fun _ _ i _ => (i + 1).toNat) ?_ ?_
  · refine br_intro (fun hne => ?_) (fun heq => ?_)
    · refine br_intro (fun hlt => ?_) (fun hlt => ?_)
      · refine ⟨Ahead.refl _, ?_⟩
        have := digs_len_lt two32 (m := x) (n := y) (by simp at hlt; omega)
        rw [cmpI, if_pos this]
      · refine ⟨Ahead.refl _, ?_⟩
        have := digs_len_lt two32 (m := y) (n := x) (by simp at hlt hne; omega)
        rw [cmpI, if_neg (by omega), if_pos this]
    · have heq' : p.n = q.n := by simp at heq; omega
      refine ⟨Ahead.refl _, rfl, rfl, by omega, p.n, wrap_i64 (by omega) (by omega), by omega, ?_⟩
      rw [List.drop_eq_nil_of_le (by omega), List.drop_eq_nil_of_le (by omega)]
  · rintro s t i w' ⟨ha, rfl, rfl, hl, m, rfl, hm, hdr⟩
    have hs := hp.ahead ha
    have ht := hq.ahead ha
    refine br_intro (fun h0 => ?_) (fun h0 => ?_)
    · have hm1 : 1 ≤ m := by simp at h0; omega
      have e2 : ((m : Int) - 1).toNat = m - 1 := by omega
      refine ldNf hs (by omega) (by omega) ?_
      refine ldNf ht (by omega) (by omega) ?_
      intro w3 ha3
      rw [e2]
      have hdr' : (digs B32 x).drop (m - 1 + 1) = (digs B32 y).drop (m - 1 + 1) := by rw [Nat.sub_add_cancel hm1]; exact hdr
      refine br_intro (fun hlt => ?_) (fun hlt => ?_)
      · refine ⟨ha.trans ha3, ?_⟩
        have := val_lt_top (ok_digs two32 x) (by omega) (by omega) hdr' (by simpa using hlt)
        rw [val_digs two32, val_digs two32] at this
        rw [cmpI, if_pos this]
      · refine ldNf (hs.ahead ha3) (by omega) (by omega) ?_
        refine ldNf (ht.ahead ha3) (by omega) (by omega) ?_
        intro w4 ha4
        rw [e2]
        refine br_intro (fun hgt => ?_) (fun hgt => ?_)
        · refine ⟨(ha.trans ha3).trans ha4, ?_⟩
          have := val_lt_top (ok_digs two32 y) (by omega) (by omega) hdr'.symm (by simpa using hgt)
          rw [val_digs two32, val_digs two32] at this
          rw [cmpI, if_neg (by omega), if_pos this]
        · have e3 : IntKind.i64.wrap ((m : Int) - 1 - 1) = ((m - 1 : Nat) : Int) - 1 := by rw [wrap_i64 (by omega) (by omega)]; omega
          refine ⟨⟨(ha.trans ha3).trans ha4, rfl, rfl, hl, m - 1, e3, by omega, ?_⟩, by rw [e3]; omega⟩
          have heq : (digs B32 x).getD (m - 1) 0 = (digs B32 y).getD (m - 1) 0 := by
            simp only [decide_eq_false_iff_not] at hlt hgt; omega
          have l1 : m - 1 < (digs B32 x).length := by omega
          have l2 : m - 1 < (digs B32 y).length := by omega
          rw [List.drop_eq_getElem_cons l1, List.drop_eq_getElem_cons l2, hdr', ← getD_lt _ 0 l1, ← getD_lt _ 0 l2, heq]
    · have hm0 : m = 0 := by simp at h0; omega
      subst hm0
      refine ⟨ha, ?_⟩
      have := digs_inj two32 (m := x) (n := y) (by simpa using hdr)
      rw [this, cmpI, if_neg (by omega), if_neg (by omega)]

theorem digs_lt_iff {B n j : Nat} (hB : 2 ≤ B) : j < (digs B n).length ↔ B ^ j ≤ n := by
  by_cases hn : n = 0
  · subst hn
    rw [digs_zero]
    have : 0 < B ^ j := Nat.pow_pos (by omega)
    simp; omega
  · obtain ⟨h1, h2⟩ := digs_length_bounds hB hn
    constructor
    · intro h
      exact Nat.le_trans (Nat.pow_le_pow_right (by omega) (by omega)) h1
    · intro h
      exact (Nat.pow_lt_pow_iff_right (by omega)).1 (Nat.lt_of_le_of_lt h h2)
theorem b64_sq (j : Nat) : B64 ^ j = B32 ^ (2 * j) := by rw [show B64 = B32 ^ 2 by decide, ← Nat.pow_mul]
theorem digs_64_32 {n j : Nat} : j < (digs B64 n).length ↔ 2 * j < (digs B32 n).length := by
  rw [digs_lt_iff two64, digs_lt_iff two32, b64_sq]
theorem limb_eq (n j : Nat) : (digs B64 n).getD j 0 = (digs B32 n).getD (2 * j) 0 + (digs B32 n).getD (2 * j + 1) 0 * B32 := by
  rw [digit (by have := B64v; omega) _ (ok_digs two64 n), digit (by have := B32v; omega) _ (ok_digs two32 n), digit (by have := B32v; omega) _ (ok_digs two32 n), val_digs two64, val_digs two32, b64_sq, Nat.pow_succ, ← Nat.div_div_eq_div_mul]
  generalize n / B32 ^ (2 * j) = U
  rw [show B64 = B32 * B32 by decide, Nat.mod_mul, Nat.mul_comm B32]

theorem Limbs_spec {w : World} {s : Slc} {n : Nat} (h : RN w s n) (hl : (digs B64 n).length ≤ 2 ^ 44) :
    Calls pr surdref01_Num_Limbs_id #[s.v] w fun e w' => Ahead w w' ∧ ∃ s', e = .returned (Slc.v s') ∧ OwnNil w.heap.size w' s' (digs B64 n) := by
  have hB := B64v
  have hB32 := B32v
  have hn := h.n
  have hok := ok_digs two32 n
  have hbnd : (digs B32 n).length ≤ 2 ^ 45 := by
    rcases Nat.lt_or_ge (2 ^ 45) (digs B32 n).length with h1 | h1
    · have := digs_64_32 (n := n) (j := 2 ^ 44)
      omega
    · exact h1
  refine surdref01_Num_Limbs_vc s w _ (fun t out i w' => t = s ∧ Ahead w w' ∧ ∃ j : Nat, i = 2 * (j : Int) ∧ j ≤ (digs B64 n).length ∧ OwnNil w.heap.size w' out ((digs B64 n).take j)) (fun _ _ i _ => (2 * ((digs B64 n).length : Int) - i).toNat)
    ⟨rfl, Ahead.refl _, 0, rfl, Nat.zero_le _, OwnNil.nil⟩ ?_
  rintro t out i w1 ⟨rfl, ha, j, rfl, hj, ho⟩
  have hiff := digs_64_32 (n := n) (j := j)
  refine br_intro (fun hlt => ?_) (fun hge => ?_)
  · have hj' : 2 * j < (digs B32 n).length := by simp at hlt; omega
    have hjj := hiff.2 hj'
    have hlimb := limb_eq n j
    have hx := ok_getD hok (by omega : 0 < B32) (2 * j)
    have hy := ok_getD hok (by omega : 0 < B32) (2 * j + 1)
    have hL := ok_getD (ok_digs two64 n) (by omega : 0 < B64) j
    have e8 : IntKind.i64.wrap (2 * (j : Int) + 2) = 2 * ((j + 1 : Nat) : Int) := by rw [wrap_i64 (by omega) (by omega)]; omega
    have e9 : IntKind.i64.wrap (2 * (j : Int) + 1) = ((2 * j + 1 : Nat) : Int) := by rw [wrap_i64 (by omega) (by omega)]; omega
    have ei : (2 * (j : Int)).toNat = 2 * j := by omega
    have step : ∀ (T : TypeId) (hT : isSl pr T .u64 = some tU64) (v : Nat), v = (digs B64 n).getD j 0 → newC w1 #[Value.int .u64 (v : Int)] tU64 fun ad3 w3 =>
        semS pr (Builtin.append_ #[T, T] T #[out.v, (⟨some ad3, 1, 1⟩ : Slc).v]) w3 fun s1 w4 =>
        (t = t ∧ Ahead w w4 ∧ ∃ j' : Nat, IntKind.i64.wrap (2 * (j : Int) + 2) = 2 * (j' : Int) ∧ j' ≤ (digs B64 n).length ∧ OwnNil w.heap.size w4 s1 ((digs B64 n).take j')) ∧
        (2 * ((digs B64 n).length : Int) - IntKind.i64.wrap (2 * (j : Int) + 2)).toNat < (2 * ((digs B64 n).length : Int) - 2 * (j : Int)).toNat := by
      rintro T hT v rfl
      have hal := Ahead.alloc w1 (.cells #[Value.int .u64 (((digs B64 n).getD j 0 : Nat) : Int)] tU64 (0, 0))
      have hlit : Rd .u64 (w1.alloc (.cells #[Value.int .u64 (((digs B64 n).getD j 0 : Nat) : Int)] tU64 (0, 0))) ⟨some ⟨w1.heap.size, 0, none⟩, 1, 1⟩ (nn [(digs B64 n).getD j 0]) :=
        Own.rd (t := tU64) (b := w1.heap.size) ⟨rfl, [], rfl, by rw [get_alloc]; rfl⟩
      refine app (t := _) (e := tU64) (k := .u64) (l := nn ((digs B64 n).take j)) (base := w.heap.size) hT hlit (by simp)
        ((ho.ahead hal).imp (fun h => ⟨h.1, by rw [h.2]; rfl⟩) id) (ha.trans hal).size (by simp; omega) ?_
      intro s' w5 b' hb' hc' hown hbel hah
      refine ⟨⟨rfl, ?_, j + 1, e8, hjj, .inr ⟨b', hb', hc', ?_⟩⟩, by rw [e8]; omega⟩
      · refine hah w (ha.trans hal) fun b hb => ?_
        rcases ho with ⟨rfl, _⟩ | ⟨b2, h1, _, h3⟩
        · simp at hb
        · rw [h3.A] at hb; simp at hb; omega
      · rw [List.take_succ_eq_append_getElem hjj, nn_append, ← getD_lt _ 0 hjj]
        exact hown
    refine ldN (h.ahead ha) (by omega) (by omega) ?_
    rw [ei]
    refine br_intro (fun hin => ?_) (fun hin => ?_)
    · have hin' : 2 * j + 1 < (digs B32 n).length := by rw [e9] at hin; simp at hin; omega
      rw [e9]
      refine ldN (h.ahead ha) (by omega) (by omega) ?_
      rw [Int.toNat_natCast]
      have ev : IntKind.u64.wrap ((((digs B32 n).getD (2 * j) 0 : Nat) : Int) + IntKind.u64.wrap ((((digs B32 n).getD (2 * j + 1) 0 : Nat) : Int) * 4294967296)) = (((digs B64 n).getD j 0 : Nat) : Int) := by
        rw [hlimb]
        generalize (digs B32 n).getD (2 * j) 0 = a at *
        generalize (digs B32 n).getD (2 * j + 1) 0 = b at *
        rw [hB32] at *
        rw [wrap_u64' (x := (b : Int) * 4294967296) (by omega) (by omega), wrap_u64' (by omega) (by omega)]
        omega
      rw [ev]
      exact step _ (by kernel_rfl) _ rfl
    · have hin' : (digs B32 n).length ≤ 2 * j + 1 := by rw [e9] at hin; simp at hin; omega
      refine step _ (by kernel_rfl) _ ?_
      rw [hlimb, getD_ge _ 0 hin', Nat.zero_mul, Nat.add_zero]
  · have hj' : j = (digs B64 n).length := by
      have : ¬ 2 * j < (digs B32 n).length := by simp at hge; omega
      have := mt hiff.1 this
      omega
    subst hj'
    rw [List.take_length] at ho
    exact ⟨ha, _, rfl, ho⟩

theorem Is_spec {w : World} {s t : Slc} {n : Nat} (h : RN w s n) (ht : Rd .u64 w t (nn (digs B64 n))) (hl : (digs B64 n).length ≤ 2 ^ 44) :
    Calls pr surdref01_Num_Is_id #[s.v, t.v] w fun e w' => Ahead w w' ∧ e = .returned (.bool true) := by
  have htn : t.n = (digs B64 n).length := by rw [ht.n, nn_length]
  refine surdref01_Num_Is_vc s t w _ (fun p q m i w' => p = t ∧ m = ((digs B64 n).length : Int) ∧ Ahead w w' ∧ Rd .u64 w' q (nn (digs B64 n)) ∧ ∃ j : Nat, i = (j : Int) ∧ j ≤ (digs B64 n).length) (fun _ _ m i _ => (m - i).toNat) ?_ ?_
  · refine Calls.mono (Limbs_spec h hl) ?_
    rintro e w1 ⟨ha, s', rfl, ho⟩
    have hr := ho.rd
    have hn' : s'.n = (digs B64 n).length := by rw [hr.n, nn_length]
    exact ⟨_, rfl, br_false (by rw [hn', htn]; simp) ⟨rfl, by rw [hn'], ha, hr, 0, rfl, Nat.zero_le _⟩⟩
  · rintro p q m i w1 ⟨rfl, rfl, ha, hr, j, rfl, hj⟩
    refine br_intro (fun hlt => ?_) (fun hge => ?_)
    · have hj' : j < (digs B64 n).length := by simp at hlt; omega
      refine ldNf hr (by omega) (by omega) ?_
      refine ldNf (ht.ahead ha) (by omega) (by omega) ?_
      intro w2 ha2
      have e8 : IntKind.i64.wrap ((j : Int) + 1) = ((j + 1 : Nat) : Int) := by rw [wrap_i64 (by omega) (by omega)]; omega
      exact br_false (by simp) ⟨⟨rfl, rfl, ha.trans ha2, hr.ahead ha2, j + 1, e8, hj'⟩, by rw [e8]; omega⟩
    · exact ⟨ha, rfl⟩

theorem Int_spec {w : World} {v : Nat} (hv : v < 9223372036854775808) :
    Calls pr surdref01_Int_id #[.int .i64 (v : Int)] w fun e w' => Ahead w w' ∧ ∃ s', e = .returned (Slc.v s') ∧ RN w' s' v := by
  have hB := B64v
  refine surdref01_Int_vc _ w _ ?_
  rw [wrap_u64' (by omega) (by omega)]
  have hal := Ahead.alloc w (.cells #[Value.int .u64 (v : Int)] tU64 (0, 0))
  have hlit : Rd .u64 (w.alloc (.cells #[Value.int .u64 (v : Int)] tU64 (0, 0))) ⟨some ⟨w.heap.size, 0, none⟩, 1, 1⟩ (nn [v]) := Own.rd (t := tU64) (b := w.heap.size) ⟨rfl, [], rfl, by rw [get_alloc]; rfl⟩
  refine Calls.mono (Of_spec hlit (by simp) (by intro y hy; simp at hy; omega)) ?_
  rintro e w2 ⟨ha, s', rfl, hr⟩
  exact ⟨_, rfl, hal.trans ha, _, rfl, by simpa [val] using hr⟩

theorem Fill.norm {w0 w : World} {c : Slc} {l : List Nat} {S : World → Prop} (h : Fill w0 w c l S) (hl : l.length ≤ 2 ^ 46) (hok : ok B32 l) :
    Calls pr surdref01_norm_id #[c.v] w fun e w' => w' = w ∧ ∃ s', e = .returned (Slc.v s') ∧ RN w s' (val B32 l) := norm_spec h.rd hl hok

theorem Fill.normN {w0 w : World} {c : Slc} {l : List Nat} {S : World → Prop} (h : Fill w0 w c l S) (hl : l.length ≤ 2 ^ 46) (hok : ok B32 l) :
    Calls pr surdref01_norm_id #[c.v] w fun e w' => w' = w ∧ ∃ s', e = .returned (Slc.v s') ∧ RN w s' (val B32 l) ∧ ∀ ad, s'.A = some ad → w0.heap.size ≤ ad.block :=
  Calls.mono (norm_specA h.rd hl hok) fun e w' ⟨h1, s', h2, h3, hA⟩ => ⟨h1, s', h2, h3, fun ad had => by
    rw [hA] at had
    obtain ⟨b, _, ho, _, hb, _⟩ := h
    rw [ho.A] at had
    obtain rfl := Option.some.inj had
    exact hb⟩

theorem Add_specN {w : World} {p q : Slc} {x y : Nat} (hp : RN w p x) (hq : RN w q y) (la : (digs B32 x).length + 1 ≤ 2 ^ 45) (lb : (digs B32 y).length + 1 ≤ 2 ^ 45) :
    Calls pr surdref01_Add_id #[p.v, q.v] w fun e w' => Ahead w w' ∧ ∃ s', e = .returned (Slc.v s') ∧ RN w' s' (x + y) ∧ ∀ ad, s'.A = some ad → w.heap.size ≤ ad.block := by
  have hB32 := B32v
  have hna := hp.n
  have hnb := hq.n
  have oa := ok_digs two32 x
  have ob := ok_digs two32 y
  have vx := val_digs two32 x
  have vy := val_digs two32 y
  unfold RN at hp hq
  generalize digs B32 x = A at *
  generalize digs B32 y = C at *
  refine surdref01_Add_vc p q w _ (fun s t n out k i w' => s = p ∧ t = q ∧ ∃ (m : Nat) (l : List Nat) (j cr : Nat), n = (m : Int) ∧ A.length ≤ m ∧ C.length ≤ m ∧ m + 1 ≤ 2 ^ 45 ∧ k = (cr : Int) ∧ cr ≤ 1 ∧ i = (j : Int) ∧ j ≤ m + 1 ∧
    Fill w w' out l (fun _ => True) ∧ l.length = m + 1 ∧ ok B32 l ∧ val B32 (l.take j) + cr * B32 ^ j = val B32 (A.take j) + val B32 (C.take j)) (fun _ _ n _ _ i _ => (n + 1 - i).toNat) ?_ ?_
  · refine br_intro (fun hlt => ?_) (fun hlt => ?_)
    · rw [wrap_i64 (x := (q.n : Int) + 1) (by omega) (by omega)]
      refine mkF (S := fun _ => True) (w0 := w) (by omega) (by omega) (Ahead.refl _) trivial ?_
      intro s w1 hsn hf ha
      refine ⟨rfl, rfl, q.n, _, 0, 0, rfl, by simp at hlt; omega, by omega, by omega, rfl, by omega, rfl, Nat.zero_le _, hf, by rw [List.length_replicate]; omega, ok_replicate (by omega) _, by simp [val]⟩
    · rw [wrap_i64 (x := (p.n : Int) + 1) (by omega) (by omega)]
      refine mkF (S := fun _ => True) (w0 := w) (by omega) (by omega) (Ahead.refl _) trivial ?_
      intro s w1 hsn hf ha
      refine ⟨rfl, rfl, p.n, _, 0, 0, rfl, by omega, by simp at hlt; omega, by omega, rfl, by omega, rfl, Nat.zero_le _, hf, by rw [List.length_replicate]; omega, ok_replicate (by omega) _, by simp [val]⟩
  · rintro s t n out k i w1 ⟨rfl, rfl, m, l, j, cr, rfl, hA, hC, hm, rfl, hcr, rfl, hj, hf, hl, ol, hv⟩
    refine br_intro (fun hlt => ?_) (fun hge => ?_)
    · have hj' : j < m + 1 := by simp at hlt; omega
      refine Calls.mono (at_spec (hp.ahead hf.base) (by omega)) ?_
      rintro e w2 ⟨rfl, rfl⟩
      refine ⟨_, rfl, Calls.mono (at_spec (hq.ahead hf.base) (by omega)) ?_⟩
      rintro e w3 ⟨rfl, rfl⟩
      refine ⟨_, rfl, ?_⟩
      simp only [Int.toNat_natCast]
      have hx := ok_getD oa (by omega : 0 < B32) j
      have hy := ok_getD ob (by omega : 0 < B32) j
      have e8 : IntKind.i64.wrap ((j : Int) + 1) = ((j + 1 : Nat) : Int) := by rw [wrap_i64 (by omega) (by omega)]; omega
      have t1 := val_take_succ' A j (B := B32)
      have t2 := val_take_succ' C j (B := B32)
      generalize A.getD j 0 = a at *
      generalize C.getD j 0 = c at *
      have e1 : IntKind.u64.wrap (IntKind.u64.wrap ((a : Int) + (c : Int)) + (cr : Int)) = ((a + c + cr : Nat) : Int) := by
        rw [wrap_u64' (x := (a : Int) + c) (by omega) (by omega), wrap_u64' (by omega) (by omega)]; omega
      have e2 : Int.tmod ((a + c + cr : Nat) : Int) 4294967296 = (((a + c + cr) % B32 : Nat) : Int) := by rw [Int.tmod_eq_emod_of_nonneg (by omega), hB32]; omega
      have e3 : IntKind.u64.wrap (Int.tdiv ((a + c + cr : Nat) : Int) 4294967296) = (((a + c + cr) / B32 : Nat) : Int) := by
        have : Int.tdiv ((a + c + cr : Nat) : Int) 4294967296 = (((a + c + cr) / 4294967296 : Nat) : Int) := by rw [Int.tdiv_eq_ediv_of_nonneg (by omega)]; omega
        rw [this, wrap_u64' (by omega) (by omega), hB32]
      rw [e1, e2, e3]
      refine stF hf (by omega) (by omega) ?_
      intro w5 hf5
      simp only [Int.toNat_natCast] at hf5
      refine ⟨⟨by trivial, by trivial, m, _, j + 1, (a + c + cr) / B32, rfl, hA, hC, hm, rfl, ?_, e8, hj', hf5, by simpa using hl, ok_set ol (Nat.mod_lt _ (by omega)), ?_⟩, by rw [e8]; omega⟩
      · rw [hB32]; omega
      · rw [val_take_set _ _ _ (by omega), t1, t2, Nat.pow_succ]
        exact add_step (by have := Nat.mod_add_div (a + c + cr) B32; omega) hv
    · have hj' : j = m + 1 := by simp at hge; omega
      subst hj'
      rw [val_take_all l (by omega), val_take_all A (by omega), val_take_all C (by omega), vx, vy] at hv
      have h1 : x < B32 ^ m := by rw [← vx]; exact Nat.lt_of_lt_of_le (val_lt oa) (Nat.pow_le_pow_right (by omega) hA)
      have h2 : y < B32 ^ m := by rw [← vy]; exact Nat.lt_of_lt_of_le (val_lt ob) (Nat.pow_le_pow_right (by omega) hC)
      have h3 : cr = 0 := by
        rcases Nat.lt_or_ge cr 1 with h | h
        · omega
        · have hc1 : cr = 1 := by omega
          subst hc1
          have : 2 * B32 ^ m ≤ B32 ^ (m + 1) := by rw [Nat.pow_succ, Nat.mul_comm]; exact Nat.mul_le_mul_left _ (by omega)
          omega
      subst h3
      have hv' : val B32 l = x + y := by omega
      refine Calls.mono (Fill.normN hf (by omega) ol) ?_
      rintro e w6 ⟨rfl, s', rfl, hr, hA⟩
      rw [hv'] at hr
      exact ⟨_, rfl, hf.base, _, rfl, hr, hA⟩
theorem Add_spec {w : World} {p q : Slc} {x y : Nat} (hp : RN w p x) (hq : RN w q y) (la : (digs B32 x).length + 1 ≤ 2 ^ 45) (lb : (digs B32 y).length + 1 ≤ 2 ^ 45) :
    Calls pr surdref01_Add_id #[p.v, q.v] w fun e w' => Ahead w w' ∧ ∃ s', e = .returned (Slc.v s') ∧ RN w' s' (x + y) :=
  Calls.mono (Add_specN hp hq la lb) fun e w' ⟨h1, s', h2, h3, _⟩ => ⟨h1, s', h2, h3⟩

theorem Sub_specN {w : World} {p q : Slc} {x y : Nat} (hp : RN w p x) (hq : RN w q y) (hle : y ≤ x) (la : (digs B32 x).length ≤ 2 ^ 45) :
    Calls pr surdref01_Sub_id #[p.v, q.v] w fun e w' => Ahead w w' ∧ ∃ s', e = .returned (Slc.v s') ∧ RN w' s' (x - y) ∧ ∀ ad, s'.A = some ad → w.heap.size ≤ ad.block := by
  have hB32 := B32v
  have hna := hp.n
  have hnb := hq.n
  have oa := ok_digs two32 x
  have ob := ok_digs two32 y
  have vx := val_digs two32 x
  have vy := val_digs two32 y
  have hlen : (digs B32 y).length ≤ (digs B32 x).length := by
    rcases Nat.lt_or_ge (digs B32 x).length (digs B32 y).length with h | h
    · have := digs_len_lt two32 h; omega
    · exact h
  unfold RN at hp hq
  generalize digs B32 x = A at *
  generalize digs B32 y = C at *
  refine surdref01_Sub_vc p q w _ (fun s t out k n i w' => s = p ∧ t = q ∧ n = (A.length : Int) ∧ ∃ (l : List Nat) (j cr : Nat), k = (cr : Int) ∧ cr ≤ 1 ∧ i = (j : Int) ∧ j ≤ A.length ∧
    Fill w w' out l (fun _ => True) ∧ l.length = A.length ∧ ok B32 l ∧ val B32 (l.take j) + val B32 (C.take j) = val B32 (A.take j) + cr * B32 ^ j) (fun _ _ _ _ n i _ => (n - i).toNat) ?_ ?_
  · refine mkF (S := fun _ => True) (w0 := w) (by omega) (by omega) (Ahead.refl _) trivial ?_
    intro s w1 hsn hf ha
    refine ⟨rfl, rfl, by rw [hna], _, 0, 0, rfl, by omega, rfl, Nat.zero_le _, hf, by rw [List.length_replicate]; omega, ok_replicate (by omega) _, by simp [val]⟩
  · rintro s t out k n i w1 ⟨rfl, rfl, rfl, l, j, cr, rfl, hcr, rfl, hj, hf, hl, ol, hv⟩
    refine br_intro (fun hlt => ?_) (fun hge => ?_)
    · have hj' : j < A.length := by simp at hlt; omega
      refine ldNf ((hp.ahead hf.base).ahead (Ahead.drew _)) (by omega) (by omega) ?_
      refine Calls.mono (at_spec ((hq.ahead hf.base).ahead (Ahead.drew _)) (by omega)) ?_
      rintro e w4 ⟨rfl, rfl⟩
      have ha4 : Ahead w1 w1.drew := Ahead.drew _
      refine ⟨_, rfl, Ahead.refl _, ?_⟩
      simp only [Int.toNat_natCast]
      have hx := ok_getD oa (by omega : 0 < B32) j
      have hy := ok_getD ob (by omega : 0 < B32) j
      have e8 : IntKind.i64.wrap ((j : Int) + 1) = ((j + 1 : Nat) : Int) := by rw [wrap_i64 (by omega) (by omega)]; omega
      have t1 := val_take_succ' A j (B := B32)
      have t2 := val_take_succ' C j (B := B32)
      generalize A.getD j 0 = a at *
      generalize C.getD j 0 = c at *
      have e1 : IntKind.u64.wrap (IntKind.u64.wrap (IntKind.u64.wrap ((a : Int) + 4294967296) - (c : Int)) - (cr : Int)) = ((a + 4294967296 - c - cr : Nat) : Int) := by
        rw [wrap_u64' (x := (a : Int) + 4294967296) (by omega) (by omega), wrap_u64' (x := (a : Int) + 4294967296 - c) (by omega) (by omega), wrap_u64' (by omega) (by omega)]; omega
      have e2 : Int.tmod ((a + 4294967296 - c - cr : Nat) : Int) 4294967296 = (((a + 4294967296 - c - cr) % B32 : Nat) : Int) := by rw [Int.tmod_eq_emod_of_nonneg (by omega), hB32]; omega
      have e3 : IntKind.u64.wrap (1 - IntKind.u64.wrap (Int.tdiv ((a + 4294967296 - c - cr : Nat) : Int) 4294967296)) = ((if a < c + cr then 1 else 0 : Nat) : Int) := by
        have : Int.tdiv ((a + 4294967296 - c - cr : Nat) : Int) 4294967296 = (((a + 4294967296 - c - cr) / 4294967296 : Nat) : Int) := by rw [Int.tdiv_eq_ediv_of_nonneg (by omega)]; omega
        rw [this, wrap_u64' (x := (((a + 4294967296 - c - cr) / 4294967296 : Nat) : Int)) (by omega) (by omega), wrap_u64' (by omega) (by omega)]
        split <;> omega
      rw [e1, e2, e3]
      refine stF (hf.ahead ha4) (by omega) (by omega) ?_
      intro w5 hf5
      simp only [Int.toNat_natCast] at hf5
      refine ⟨⟨by trivial, by trivial, by trivial, _, j + 1, if a < c + cr then 1 else 0, rfl, by split <;> omega, e8, hj', hf5, by simpa using hl, ok_set ol (Nat.mod_lt _ (by omega)), ?_⟩, by rw [e8]; omega⟩
      rw [val_take_set _ _ _ (by omega), t1, t2, Nat.pow_succ]
      refine sub_step ?_ hv
      rw [hB32]
      rw [hB32] at hx hy
      split <;> omega
    · have hj' : j = A.length := by simp at hge; omega
      subst hj'
      rw [val_take_all l (by omega), val_take_all A (by omega), val_take_all C (by omega), vx, vy] at hv
      have hlt := val_lt ol
      rw [hl] at hlt
      have h3 : cr = 0 := by
        rcases Nat.lt_or_ge cr 1 with h | h
        · omega
        · have hc1 : cr = 1 := by omega
          subst hc1
          omega
      subst h3
      have hv' : val B32 l = x - y := by omega
      refine Calls.mono (Fill.normN hf (by omega) ol) ?_
      rintro e w6 ⟨rfl, s', rfl, hr, hA⟩
      rw [hv'] at hr
      exact ⟨_, rfl, hf.base, _, rfl, hr, hA⟩
theorem Sub_spec {w : World} {p q : Slc} {x y : Nat} (hp : RN w p x) (hq : RN w q y) (hle : y ≤ x) (la : (digs B32 x).length ≤ 2 ^ 45) :
    Calls pr surdref01_Sub_id #[p.v, q.v] w fun e w' => Ahead w w' ∧ ∃ s', e = .returned (Slc.v s') ∧ RN w' s' (x - y) :=
  Calls.mono (Sub_specN hp hq hle la) fun e w' ⟨h1, s', h2, h3, _⟩ => ⟨h1, s', h2, h3⟩

end Ref
end Go.Proofs.YtahbekmnphkiiaaDoor
namespace Go.Proofs.YtahbekmnphkiiaaDoor
open Go Go.RowKit Eng Sp Dg
set_option linter.unusedVariables false
set_option linter.unusedSimpArgs false
set_option maxRecDepth 100000
namespace Ref
open _root_.Go.Proofs.YtahbekmnphkiiaaDoor.Nat (ldN ldNf stN mkN cutHi cutCap Fill mkF stF stFf Num OwnNil semShl semShr fixShl)

theorem tdiv32 {n : Int} (h0 : 0 ≤ n) (h1 : n ≤ 9223372036854775807) : IntKind.i64.wrap (Int.tdiv n 32) = ((n.toNat / 32 : Nat) : Int) := by
  have : Int.tdiv n 32 = ((n.toNat / 32 : Nat) : Int) := by rw [Int.tdiv_eq_ediv_of_nonneg h0]; omega
  rw [this, wrap_i64 (by omega) (by omega)]
theorem tmod32 {n : Int} (h0 : 0 ≤ n) : Int.tmod n 32 = ((n.toNat % 32 : Nat) : Int) := by rw [Int.tmod_eq_emod_of_nonneg h0]; omega

theorem Shl_spec {w : World} {p : Slc} {x : Nat} {n : Int} (hp : RN w p x) (h0 : 0 ≤ n) (h1 : n ≤ 9223372036854775807) (la : (digs B32 x).length + n.toNat / 32 + 1 ≤ 2 ^ 45) :
    Calls pr surdref01_Shl_id #[p.v, .int .i64 n] w fun e w' => Ahead w w' ∧ ∃ s', e = .returned (Slc.v s') ∧ RN w' s' (x * 2 ^ n.toNat) := by
  have hB32 := B32v
  have hB := B64v
  have hna := hp.n
  have oa := ok_digs two32 x
  have vx := val_digs two32 x
  have hp2 : (2 ^ 32) ^ (n.toNat / 32) * 2 ^ (n.toNat % 32) = 2 ^ n.toNat := (pow_split n.toNat 32).symm
  have hw : n.toNat % 32 < 32 := Nat.mod_lt _ (by omega)
  have h32 : B32 = 2 ^ 32 := rfl
  unfold RN at hp
  have hz0 : digs B32 x = [] → x = 0 := fun h => by rw [h] at vx; exact vx.symm
  generalize digs B32 x = A at *
  refine surdref01_Shl_vc p n w _ (fun t1 out t6 t21 t22 t23 w' => t1 = n ∧ t6 = ((n.toNat % 32 : Nat) : Int) ∧ t21 = p ∧ t22 = (A.length : Int) ∧ ∃ (l : List Nat) (j : Nat), t23 = (j : Int) ∧ j ≤ A.length ∧
    Fill w w' out l (fun _ => True) ∧ l.length = A.length + n.toNat / 32 + 1 ∧ ok B32 l ∧ val B32 l = val B32 (A.take j) * (B32 ^ (n.toNat / 32) * 2 ^ (n.toNat % 32))) (fun _ _ _ _ n i _ => (n - i).toNat) ?_ ?_
  · refine br_intro (fun hz => ?_) (fun hz => ?_)
    · have hx := hz0 (List.eq_nil_of_length_eq_zero (by simp at hz; omega))
      subst hx
      exact ⟨Ahead.refl _, _, rfl, by rw [Nat.zero_mul]; exact RN.nil⟩
    · rw [tdiv32 h0 h1, tmod32 h0, wrap_i64 (x := (p.n : Int) + _) (by omega) (by omega), wrap_i64 (x := (p.n : Int) + _ + 1) (by omega) (by omega)]
      refine mkF (S := fun _ => True) (w0 := w) (by omega) (by omega) (Ahead.refl _) trivial ?_
      intro s w1 hsn hf ha
      refine ⟨rfl, rfl, rfl, by rw [hna], _, 0, rfl, Nat.zero_le _, hf, by rw [List.length_replicate]; omega, ok_replicate (by omega) _, ?_⟩
      rw [val_replicate]; simp [val]
  · rintro t1 out t6 t21 t22 t23 w1 ⟨rfl, rfl, rfl, rfl, l, j, rfl, hj, hf, hl, ol, hv⟩
    refine br_intro (fun hlt => ?_) (fun hge => ?_)
    · have hj' : j < A.length := by simp at hlt; omega
      have hfacts := left_facts (w := 32) (l := l) (A := A) (j := j) (wd := t1.toNat / 32) (s := t1.toNat % 32) hw (by omega) oa hj' hv
      have hx := ok_getD oa (by omega : 0 < B32) j
      rw [tdiv32 h0 h1, wrap_i64 (x := (j : Int) + _) (by omega) (by omega), show (j : Int) + ((t1.toNat / 32 : Nat) : Int) = ((t1.toNat / 32 + j : Nat) : Int) by omega,
        wrap_i64 (x := ((t1.toNat / 32 + j : Nat) : Int) + 1) (by omega) (by omega), show ((t1.toNat / 32 + j : Nat) : Int) + 1 = ((t1.toNat / 32 + j + 1 : Nat) : Int) by omega]
      refine ldN (hp.ahead hf.base) (by omega) (by omega) ?_
      refine ldNf hf.rd (by omega) (by omega) ?_
      rw [Int.toNat_natCast, Int.toNat_natCast]
      refine fixShl (by omega) ?_
      have hp4 : 2 ^ (t1.toNat % 32) ≤ 2 ^ 31 := Nat.pow_le_pow_right (by omega) (by omega)
      have hprod : A.getD j 0 * 2 ^ (t1.toNat % 32) < B64 := by
        have : A.getD j 0 * 2 ^ (t1.toNat % 32) ≤ 4294967296 * 2 ^ 31 := Nat.mul_le_mul (by omega) hp4
        omega
      rw [Nat.mod_eq_of_lt hprod]
      have hlo := shl_lo (A.getD j 0) (t1.toNat % 32) 32 (by omega)
      have hmul : l.getD (t1.toNat / 32 + j) 0 + A.getD j 0 * 2 ^ (t1.toNat % 32) % 2 ^ 32 < 2 ^ 32 := by
        rw [hlo]
        have e : 2 ^ (t1.toNat % 32) * 2 ^ (32 - t1.toNat % 32) = 2 ^ 32 := by rw [← Nat.pow_add]; congr 1; omega
        have hm : A.getD j 0 % 2 ^ (32 - t1.toNat % 32) + 1 ≤ 2 ^ (32 - t1.toNat % 32) := Nat.mod_lt _ (Nat.pow_pos (by omega))
        have := Nat.mul_le_mul_left (2 ^ (t1.toNat % 32)) hm
        rw [Nat.mul_add, e] at this
        have := hfacts.1
        omega
      have e1 : IntKind.u64.wrap (((l.getD (t1.toNat / 32 + j) 0 : Nat) : Int) + Int.tmod ((A.getD j 0 * 2 ^ (t1.toNat % 32) : Nat) : Int) 4294967296) = ((l.getD (t1.toNat / 32 + j) 0 + A.getD j 0 * 2 ^ (t1.toNat % 32) % 2 ^ 32 : Nat) : Int) := by
        generalize A.getD j 0 * 2 ^ (t1.toNat % 32) = v at *
        rw [Int.tmod_eq_emod_of_nonneg (by omega)]
        rw [wrap_u64' (by omega) (by omega)]; omega
      rw [e1]
      refine stFf hf (Ahead.drew _) (by omega) (by omega) ?_
      intro w3 hf3
      rw [Int.toNat_natCast] at hf3
      refine semShl (by omega) ?_
      rw [Nat.mod_eq_of_lt hprod]
      have e3 : IntKind.u64.wrap (Int.tdiv ((A.getD j 0 * 2 ^ (t1.toNat % 32) : Nat) : Int) 4294967296) = ((A.getD j 0 * 2 ^ (t1.toNat % 32) / 2 ^ 32 : Nat) : Int) := by
        generalize A.getD j 0 * 2 ^ (t1.toNat % 32) = v at *
        have : Int.tdiv (v : Int) 4294967296 = ((v / 2 ^ 32 : Nat) : Int) := by rw [Int.tdiv_eq_ediv_of_nonneg (by omega)]; omega
        rw [this, wrap_u64' (by omega) (by omega)]
      rw [e3]
      have hhi : A.getD j 0 * 2 ^ (t1.toNat % 32) / 2 ^ 32 < B32 := by
        rw [shl_hi _ _ _ (by omega)]
        exact Nat.lt_of_le_of_lt (Nat.div_le_self _ _) hx
      refine stF hf3 (by omega) (by simp; omega) ?_
      intro w6 hf6
      rw [Int.toNat_natCast] at hf6
      have e8 : IntKind.i64.wrap ((j : Int) + 1) = ((j + 1 : Nat) : Int) := by rw [wrap_i64 (by omega) (by omega)]; omega
      exact ⟨⟨rfl, rfl, rfl, rfl, _, j + 1, e8, hj', hf6, by simpa using hl, ok_set (ok_set ol hmul) hhi, left_step (w := 32) hw (by omega) oa hj' hv rfl rfl⟩, by rw [e8]; omega⟩
    · have hj' : j = A.length := by simp at hge; omega
      subst hj'
      rw [List.take_length, vx] at hv
      have hv' : val B32 l = x * 2 ^ t1.toNat := by rw [hv, ← hp2, h32]
      refine Calls.mono (Fill.norm hf (by omega) ol) ?_
      rintro e w6 ⟨rfl, s', rfl, hr⟩
      rw [hv'] at hr
      exact ⟨_, rfl, hf.base, _, rfl, hr⟩

theorem shr_digit (U s : Nat) (hs : s < 32) : (U % 2 ^ 32 + 2 ^ 32 * (U / 2 ^ 32 % 2 ^ 32)) / 2 ^ s % 2 ^ 32 = U / 2 ^ s % 2 ^ 32 := by
  have e1 : 2 ^ 32 * 2 ^ 32 = 2 ^ s * 2 ^ (64 - s) := by rw [← Nat.pow_add, ← Nat.pow_add]; congr 1; omega
  have e2 : 2 ^ (64 - s) = 2 ^ 32 * 2 ^ (32 - s) := by rw [← Nat.pow_add]; congr 1; omega
  have e3 : U % 2 ^ 32 + 2 ^ 32 * (U / 2 ^ 32 % 2 ^ 32) = U % (2 ^ s * 2 ^ (64 - s)) := by rw [← e1]; exact (Nat.mod_mul).symm
  rw [e3, Nat.mod_mul_right_div_self, e2, Nat.mod_mul_right_mod]

theorem Shr_specN {w : World} {p : Slc} {x : Nat} {n : Int} (hp : RN w p x) (h0 : 0 ≤ n) (h1 : n ≤ 9223372036854775807) (la : (digs B32 x).length ≤ 2 ^ 45) :
    Calls pr surdref01_Shr_id #[p.v, .int .i64 n] w fun e w' => Ahead w w' ∧ ∃ s', e = .returned (Slc.v s') ∧ RN w' s' (x / 2 ^ n.toNat) ∧ ∀ ad, s'.A = some ad → w.heap.size ≤ ad.block := by
  have hB32 := B32v
  have hB := B64v
  have hna := hp.n
  have oa := ok_digs two32 x
  have vx := val_digs two32 x
  have h32 : B32 = 2 ^ 32 := rfl
  have hp2 : B32 ^ (n.toNat / 32) * 2 ^ (n.toNat % 32) = 2 ^ n.toNat := (pow_split n.toNat 32).symm
  have hw : n.toNat % 32 < 32 := Nat.mod_lt _ (by omega)
  unfold RN at hp
  generalize digs B32 x = A at *
  refine surdref01_Shr_vc p n w _ (fun t0 t1 out t6 t23 t24 w' => t0 = p ∧ t1 = n ∧ t6 = ((n.toNat % 32 : Nat) : Int) ∧ t23 = ((A.length - n.toNat / 32 : Nat) : Int) ∧ n.toNat / 32 < A.length ∧ ∃ (l : List Nat) (j : Nat), t24 = (j : Int) ∧ j ≤ A.length - n.toNat / 32 ∧
    Fill w w' out l (fun _ => True) ∧ l.length = A.length - n.toNat / 32 ∧ ok B32 l ∧ ∀ i, i < j → l.getD i 0 = x / 2 ^ n.toNat / B32 ^ i % B32) (fun _ _ _ _ n i _ => (n - i).toNat) ?_ ?_
  · rw [tdiv32 h0 h1, tmod32 h0]
    refine br_intro (fun hz => ?_) (fun hz => ?_)
    · have hz' : A.length ≤ n.toNat / 32 := by simp at hz; omega
      have hv : x / 2 ^ n.toNat = 0 := by
        apply Nat.div_eq_of_lt
        rw [← vx, ← hp2]
        refine Nat.lt_of_lt_of_le (val_lt oa) (Nat.le_trans (Nat.pow_le_pow_right (by omega) hz') ?_)
        exact Nat.le_mul_of_pos_right _ (Nat.pow_pos (by omega))
      exact ⟨Ahead.refl _, _, rfl, by rw [hv]; exact RN.nil, fun ad h => by cases h⟩
    · have hz' : n.toNat / 32 < A.length := by simp at hz; omega
      rw [wrap_i64 (x := (p.n : Int) - _) (by omega) (by omega), show (p.n : Int) - ((n.toNat / 32 : Nat) : Int) = ((A.length - n.toNat / 32 : Nat) : Int) by omega]
      refine mkF (S := fun _ => True) (w0 := w) (by omega) (by omega) (Ahead.refl _) trivial ?_
      intro s w1 hsn hf ha
      exact ⟨rfl, rfl, rfl, by rw [hsn]; simp, hz', _, 0, rfl, Nat.zero_le _, hf, by simp, ok_replicate (by omega) _, fun i hi => by omega⟩
  · rintro t0 t1 out t6 t23 t24 w1 ⟨rfl, rfl, rfl, rfl, hz, l, j, rfl, hj, hf, hl, ol, hd⟩
    refine br_intro (fun hlt => ?_) (fun hge => ?_)
    · have hj' : j < A.length - t1.toNat / 32 := by simp at hlt; omega
      have hx := ok_getD oa (by omega : 0 < B32) (t1.toNat / 32 + j)
      have hy := ok_getD oa (by omega : 0 < B32) (t1.toNat / 32 + j + 1)
      rw [tdiv32 h0 h1, wrap_i64 (x := (j : Int) + _) (by omega) (by omega), show (j : Int) + ((t1.toNat / 32 : Nat) : Int) = ((t1.toNat / 32 + j : Nat) : Int) by omega,
        wrap_i64 (x := ((t1.toNat / 32 + j : Nat) : Int) + 1) (by omega) (by omega), show ((t1.toNat / 32 + j : Nat) : Int) + 1 = ((t1.toNat / 32 + j + 1 : Nat) : Int) by omega]
      refine ldNf ((hp.ahead hf.base).ahead (Ahead.drew _)) (by omega) (by omega) ?_
      refine Calls.mono (at_spec ((hp.ahead hf.base).ahead (Ahead.drew _)) (by omega)) ?_
      rintro e w4 ⟨rfl, rfl⟩
      have ha4 : Ahead w1 w1.drew := Ahead.drew _
      refine ⟨_, rfl, Ahead.refl _, ?_⟩
      simp only [Int.toNat_natCast]
      have e1 : IntKind.u64.wrap (((A.getD (t1.toNat / 32 + j) 0 : Nat) : Int) + IntKind.u64.wrap (((A.getD (t1.toNat / 32 + j + 1) 0 : Nat) : Int) * 4294967296)) = ((A.getD (t1.toNat / 32 + j) 0 + B32 * A.getD (t1.toNat / 32 + j + 1) 0 : Nat) : Int) := by
        generalize A.getD (t1.toNat / 32 + j) 0 = a at *
        generalize A.getD (t1.toNat / 32 + j + 1) 0 = b at *
        rw [hB32] at *
        rw [wrap_u64' (x := (b : Int) * 4294967296) (by omega) (by omega), wrap_u64' (by omega) (by omega)]; omega
      rw [e1]
      refine semShr (by omega) ?_
      have e2 : ∀ v : Nat, Int.tmod (v : Int) 4294967296 = ((v % B32 : Nat) : Int) := fun v => by rw [Int.tmod_eq_emod_of_nonneg (by omega), hB32]; omega
      rw [e2]
      refine stF (hf.ahead ha4) (by omega) (by omega) ?_
      intro w7 hf7
      rw [Int.toNat_natCast] at hf7
      have e8 : IntKind.i64.wrap ((j : Int) + 1) = ((j + 1 : Nat) : Int) := by rw [wrap_i64 (by omega) (by omega)]; omega
      refine ⟨⟨by trivial, by trivial, by trivial, by trivial, hz, _, j + 1, e8, hj', hf7, by simpa using hl, ok_set ol (Nat.mod_lt _ (by omega)), fun i hi => ?_⟩, by rw [e8]; omega⟩
      rw [getD_set _ _ _ _ (by omega)]
      split
      · rename_i hij
        subst hij
        rw [digit (by omega : 0 < B32) A oa (t1.toNat / 32 + j), digit (by omega : 0 < B32) A oa (t1.toNat / 32 + j + 1), vx, ← hp2, Nat.pow_succ, h32, div_pow_add, ← Nat.div_div_eq_div_mul, ← Nat.div_div_eq_div_mul]
        exact shr_digit _ _ hw
      · exact hd i (by omega)
    · have hj' : j = A.length - t1.toNat / 32 := by simp at hge; omega
      subst hj'
      have hv : val B32 l = x / 2 ^ t1.toNat := by
        refine val_of_digits (by omega) l _ ?_ (fun i hi => hd i (by omega))
        rw [Nat.div_lt_iff_lt_mul (Nat.pow_pos (by omega)), ← hp2, ← Nat.mul_assoc, hl, ← Nat.pow_add, show A.length - t1.toNat / 32 + t1.toNat / 32 = A.length by omega, ← vx]
        exact Nat.lt_of_lt_of_le (val_lt oa) (Nat.le_mul_of_pos_right _ (Nat.pow_pos (by omega)))
      refine Calls.mono (norm_specA hf.rd (by omega) ol) ?_
      rintro e w6 ⟨rfl, s', rfl, hr, hA⟩
      rw [hv] at hr
      refine ⟨_, rfl, hf.base, _, rfl, hr, fun ad had => ?_⟩
      rw [hA] at had
      obtain ⟨b, _, ho, _, hb, _⟩ := hf
      rw [ho.A] at had
      obtain rfl := Option.some.inj had
      exact hb

theorem len_mono {B x y : Nat} (hB : 2 ≤ B) (h : x ≤ y) : (digs B x).length ≤ (digs B y).length := by
  rcases Nat.lt_or_ge (digs B y).length (digs B x).length with h1 | h1
  · have := digs_len_lt hB h1; omega
  · exact h1

def A5 : Nat := 10855845
theorem ext_getD {l m : List Nat} (hl : l.length = m.length) (h : ∀ i, i < l.length → l.getD i 0 = m.getD i 0) : l = m := by
  refine List.ext_getElem hl fun i h1 h2 => ?_
  have := h i h1
  rw [getD_lt _ _ h1, getD_lt _ _ h2] at this
  exact this
def lent (l : List Nat) : List Nat := A5 :: A5 :: (l ++ [A5, A5])

/-- What Lend hands out: the whole row, and the part in its middle. -/
def Lent (base : Nat) (w : World) (s t : Slc) (l : List Nat) : Prop :=
  ∃ b, base ≤ b ∧ s.c = l.length + 4 ∧ Own .u64 tU64 w s (nn (lent l)) b ∧ t = ⟨some ⟨b, 2, none⟩, l.length, l.length + 2⟩
theorem Lent.whole {base : Nat} {w : World} {s t : Slc} {l : List Nat} (h : Lent base w s t l) : Rd .u64 w s (nn (lent l)) := by
  obtain ⟨b, _, _, ho, _⟩ := h; exact ho.rd
theorem Lent.ahead {base : Nat} {w w' : World} {s t : Slc} {l : List Nat} (h : Lent base w s t l) (ha : Ahead w w') : Lent base w' s t l := by
  obtain ⟨b, h1, h2, h3, h4⟩ := h
  exact ⟨b, h1, h2, h3.ahead ha, h4⟩

end Ref
end Go.Proofs.YtahbekmnphkiiaaDoor
namespace Go.Proofs.YtahbekmnphkiiaaDoor
open Go Go.RowKit Eng
set_option linter.unusedVariables false

set_option maxRecDepth 100000 in
/-- surd/surdlaw08.num: function 28. -/
theorem surdlaw08_num_vc (a0_e : Int) (w : World) (R : Ending → World → Prop)
    
    (h : R (.returned (Value.int .i64 a0_e)) w) :
    Calls Tryd.prog 28 #[Value.int .i64 a0_e] w R := by
  refine calls_of_vc (fun _ => none) (by kernel_rfl) Tryd.func28 rfl ?_ ?_
  · refine kcast h ?_; kernel_rfl
  · exact (obl_seq rfl (obl_reg (obl_seq rfl (obl_reg (obl_ret trivial)))))

set_option maxRecDepth 100000 in
/-- surd/surdlaw08.awake: function 8. -/
theorem surdlaw08_awake_vc  (w : World) (R : Ending → World → Prop)
    
    (h : newC w #[Value.int .u64 12] 47 fun ad1 w1 =>
    Calls Tryd.prog 33 #[Value.agg #[Value.bool false, (⟨some ad1, 1, 1⟩ : Slc).v], Value.int .i64 (-3)] w1 fun e1 w2 =>
    ∃ b1 : Bool, ∃ s1 : Slc, ∃ x1 : Int, ∃ x2 : Int, e1 = .returned (Value.tuple #[Value.agg #[Value.bool b1, s1.v, Value.int .i64 x1], Value.int .i64 x2]) ∧
    (newC w2 #[Value.bool false, (⟨none, 0, 0⟩ : Slc).v, Value.int .i64 0] 39 fun ad2 w3 =>
     stC ad2 (Value.bool b1) w3 fun w4 =>
     stC (ad2.add 1) s1.v w4 fun w5 =>
     stC (ad2.add 2) (Value.int .i64 x1) w5 fun w6 =>
     Calls Tryd.prog 28 #[Value.int .i64 x2] w6.drew fun e2 w7 =>
     ∃ x3 : Int, e2 = .returned (Value.int .i64 x3) ∧
     (Ahead w6.drew w7 ∧
      (br (x3 == 0)
       (ldB ad2 w7 fun b2 =>
        ldS (ad2.add 1) w7 fun s2 =>
        ldI .i64 (ad2.add 2) w7 fun x4 =>
        Calls Tryd.prog 34 #[Value.int .i64 3, Value.int .i64 (-1)] w7 fun e3 w8 =>
        ∃ b3 : Bool, ∃ s3 : Slc, ∃ x5 : Int, e3 = .returned (Value.agg #[Value.bool b3, s3.v, Value.int .i64 x5]) ∧
        (Ahead w7 w8 ∧
         (Calls Tryd.prog 35 #[Value.agg #[Value.bool b3, s3.v, Value.int .i64 x5], Value.bool b2, s2.v, Value.int .i64 x4] w8 fun e4 w9 =>
          ∃ b4 : Bool, e4 = .returned (Value.bool b4) ∧
          (Ahead w8 w9 ∧
           (R (.returned (Value.bool b4)) w9)))))
       (R (.returned (Value.bool false)) w7))))) :
    Calls Tryd.prog 8 #[] w R := by
  refine calls_of_vc (fun _ => none) (by kernel_rfl) Tryd.func8 rfl ?_ ?_
  · refine kcast h ?_; kernel_rfl
  · exact (obl_seq rfl (obl_reg (obl_seq rfl (obl_reg (obl_seq rfl (obl_held (by kernel_rfl) (by kernel_rfl) (by kernel_rfl) (obl_ret trivial)))))))

set_option maxRecDepth 100000 in
/-- surd/surdlaw08.alike: function 16. -/
theorem surdlaw08_alike_vc (a0_a_0 : Bool) (a0_a_1 : Slc) (a0_a_2 : Int) (a1_e : Int) (a2_want_0 : Bool) (a2_want_1 : Slc) (a2_want_2 : Int) (a3_f : Int) (w : World) (R : Ending → World → Prop)
    
    (h : newC w #[Value.bool a0_a_0, a0_a_1.v, Value.int .i64 a0_a_2] 39 fun ad1 w1 =>
    newC w1 #[Value.bool a2_want_0, a2_want_1.v, Value.int .i64 a2_want_2] 29 fun ad2 w2 =>
    br (a3_f == 0)
    (ldB ad2 w2 fun b1 =>
     ldS (ad2.add 1) w2 fun s1 =>
     ldI .i64 (ad2.add 2) w2 fun x1 =>
     Calls Tryd.prog 48 #[Value.agg #[Value.bool b1, s1.v, Value.int .i64 x1]] w2 fun e1 w3 =>
     ∃ b2 : Bool, ∃ s2 : Slc, ∃ x2 : Int, ∃ x3 : Int, e1 = .returned (Value.tuple #[Value.agg #[Value.bool b2, s2.v, Value.int .i64 x2], Value.int .i64 x3]) ∧
     (stC ad2 (Value.bool b2) w3 fun w4 =>
      stC (ad2.add 1) s2.v w4 fun w5 =>
      stC (ad2.add 2) (Value.int .i64 x2) w5 fun w6 =>
      br (x3 != 0)
      (Calls Tryd.prog 28 #[Value.int .i64 a1_e] w6 fun e2 w7 =>
       ∃ x4 : Int, e2 = .returned (Value.int .i64 x4) ∧
       (br (x4 == x3)
        (ldB ad1 w7 fun b3 =>
         br (!b3)
         (ldS (ad1.add 1) w7 fun s3 =>
          br ((s3.n : Int) == 0)
          (ldI .i64 (ad1.add 2) w7 fun x5 =>
           R (.returned (Value.bool (x5 == 0))) w7)
          (R (.returned (Value.bool false)) w7))
         (R (.returned (Value.bool false)) w7))
        (R (.returned (Value.bool false)) w7)))
      (Calls Tryd.prog 28 #[Value.int .i64 a1_e] w6 fun e3 w8 =>
       ∃ x6 : Int, e3 = .returned (Value.int .i64 x6) ∧
       (br (x6 == 0)
        (ldB ad2 w8 fun b4 =>
         ldS (ad2.add 1) w8 fun s4 =>
         ldI .i64 (ad2.add 2) w8 fun x7 =>
         ldB ad1 w8 fun b5 =>
         ldS (ad1.add 1) w8 fun s5 =>
         ldI .i64 (ad1.add 2) w8 fun x8 =>
         Calls Tryd.prog 35 #[Value.agg #[Value.bool b4, s4.v, Value.int .i64 x7], Value.bool b5, s5.v, Value.int .i64 x8] w8 fun e4 w9 =>
         ∃ b6 : Bool, e4 = .returned (Value.bool b6) ∧
         (R (.returned (Value.bool b6)) w9))
        (R (.returned (Value.bool false)) w8)))))
    (br (a3_f != 0)
     (Calls Tryd.prog 28 #[Value.int .i64 a1_e] w2 fun e5 w10 =>
      ∃ x9 : Int, e5 = .returned (Value.int .i64 x9) ∧
      (br (x9 == a3_f)
       (ldB ad1 w10 fun b7 =>
        br (!b7)
        (ldS (ad1.add 1) w10 fun s6 =>
         br ((s6.n : Int) == 0)
         (ldI .i64 (ad1.add 2) w10 fun x10 =>
          R (.returned (Value.bool (x10 == 0))) w10)
         (R (.returned (Value.bool false)) w10))
        (R (.returned (Value.bool false)) w10))
       (R (.returned (Value.bool false)) w10)))
     (Calls Tryd.prog 28 #[Value.int .i64 a1_e] w2 fun e6 w11 =>
      ∃ x11 : Int, e6 = .returned (Value.int .i64 x11) ∧
      (br (x11 == 0)
       (ldB ad2 w11 fun b8 =>
        ldS (ad2.add 1) w11 fun s7 =>
        ldI .i64 (ad2.add 2) w11 fun x12 =>
        ldB ad1 w11 fun b9 =>
        ldS (ad1.add 1) w11 fun s8 =>
        ldI .i64 (ad1.add 2) w11 fun x13 =>
        Calls Tryd.prog 35 #[Value.agg #[Value.bool b8, s7.v, Value.int .i64 x12], Value.bool b9, s8.v, Value.int .i64 x13] w11 fun e7 w12 =>
        ∃ b10 : Bool, e7 = .returned (Value.bool b10) ∧
        (R (.returned (Value.bool b10)) w12))
       (R (.returned (Value.bool false)) w11))))) :
    Calls Tryd.prog 16 #[Value.agg #[Value.bool a0_a_0, a0_a_1.v, Value.int .i64 a0_a_2], Value.int .i64 a1_e, Value.agg #[Value.bool a2_want_0, a2_want_1.v, Value.int .i64 a2_want_2], Value.int .i64 a3_f] w R := by
  refine calls_of_vc (fun _ => none) (by kernel_rfl) Tryd.func16 rfl ?_ ?_
  · refine kcast h ?_; kernel_rfl
  · exact (obl_seq rfl (obl_reg (obl_seq rfl (obl_seq rfl (obl_reg (obl_cond (obl_reg (obl_skip (obl_seq rfl (obl_seq rfl (obl_reg (obl_cond (obl_seq rfl (obl_reg (obl_ret (obl_skip (obl_seq rfl (obl_reg (obl_ret trivial)))))))))))))))))))

set_option maxRecDepth 100000 in
/-- surd/surdlaw08.of: function 6. -/
theorem surdlaw08_of_vc (a0_a_0 : Bool) (a0_a_1 : Slc) (a0_a_2 : Int) (w : World) (R : Ending → World → Prop)
    
    (h : newC w #[Value.bool a0_a_0, a0_a_1.v, Value.int .i64 a0_a_2] 24 fun ad1 w1 =>
    newC w1 #[Value.bool false, (⟨none, 0, 0⟩ : Slc).v, Value.int .i64 0] 29 fun ad2 w2 =>
    ldI .i64 (ad1.add 2) w2 fun x1 =>
    Calls Tryd.prog 32 #[Value.int .i64 x1] w2 fun e1 w3 =>
    ∃ b1 : Bool, e1 = .returned (Value.bool b1) ∧
    (br (!b1)
     (stC ad2 (Value.bool false) w3 fun w4 =>
      stC (ad2.add 1) ((⟨none, 0, 0⟩ : Slc).v) w4 fun w5 =>
      stC (ad2.add 2) (Value.int .i64 0) w5 fun w6 =>
      ldB ad2 w6 fun b2 =>
      ldS (ad2.add 1) w6 fun s1 =>
      ldI .i64 (ad2.add 2) w6 fun x2 =>
      R (.returned (Value.tuple #[Value.agg #[Value.bool b2, s1.v, Value.int .i64 x2], Value.bool false])) w6)
     (ldB ad1 w3.drew fun b3 =>
      ldS (ad1.add 1) w3.drew fun s2 =>
      ldI .i64 (ad1.add 2) w3.drew fun x3 =>
      Calls Tryd.prog 15 #[Value.bool b3, s2.v] w3.drew fun e2 w7 =>
      ∃ b4 : Bool, ∃ s3 : Slc, e2 = .returned (Value.agg #[Value.bool b4, s3.v]) ∧
      (Ahead w3.drew w7 ∧
       (Calls Tryd.prog 14 #[Value.agg #[Value.bool b4, s3.v], Value.int .i64 x3] w7 fun e3 w8 =>
        ∃ b5 : Bool, ∃ s4 : Slc, ∃ x4 : Int, e3 = .returned (Value.agg #[Value.bool b5, s4.v, Value.int .i64 x4]) ∧
        (Ahead w7 w8 ∧
         (stC ad2 (Value.bool b5) w8 fun w9 =>
          stC (ad2.add 1) s4.v w9 fun w10 =>
          stC (ad2.add 2) (Value.int .i64 x4) w10 fun w11 =>
          ldB ad2 w11 fun b6 =>
          ldS (ad2.add 1) w11 fun s5 =>
          ldI .i64 (ad2.add 2) w11 fun x5 =>
          R (.returned (Value.tuple #[Value.agg #[Value.bool b6, s5.v, Value.int .i64 x5], Value.bool true])) w11))))))) :
    Calls Tryd.prog 6 #[Value.agg #[Value.bool a0_a_0, a0_a_1.v, Value.int .i64 a0_a_2]] w R := by
  refine calls_of_vc (fun _ => none) (by kernel_rfl) Tryd.func6 rfl ?_ ?_
  · refine kcast h ?_; kernel_rfl
  · exact (obl_seq rfl (obl_reg (obl_seq rfl (obl_seq rfl (obl_reg (obl_cond (obl_seq rfl (obl_reg (obl_ret (obl_skip (obl_seq rfl (obl_held (by kernel_rfl) (by kernel_rfl) (by kernel_rfl) (obl_ret trivial)))))))))))))

set_option maxRecDepth 100000 in
/-- surd/surdlaw08.fit: function 7. -/
theorem surdlaw08_fit_vc (a0_k : Int) (w : World) (R : Ending → World → Prop)
    
    (h : br (decide (a0_k ≥ (-1099511627776)))
    (R (.returned (Value.bool (decide (a0_k ≤ 1099511627776)))) w)
    (R (.returned (Value.bool false)) w)) :
    Calls Tryd.prog 7 #[Value.int .i64 a0_k] w R := by
  refine calls_of_vc (fun _ => none) (by kernel_rfl) Tryd.func7 rfl ?_ ?_
  · refine kcast h ?_; kernel_rfl
  · exact (obl_seq rfl (obl_reg (obl_seq rfl (obl_reg (obl_ret trivial)))))

set_option maxRecDepth 100000 in
/-- surd/surdlaw08.in: function 12. -/
theorem surdlaw08_in_vc (a0_a_0 : Bool) (a0_a_1 : Slc) (a0_a_2 : Int) (w : World) (R : Ending → World → Prop)
    
    (h : newC w #[Value.bool a0_a_0, a0_a_1.v, Value.int .i64 a0_a_2] 24 fun ad1 w1 =>
    newC w1 #[Value.bool false, (⟨none, 0, 0⟩ : Slc).v, Value.int .i64 0] 39 fun ad2 w2 =>
    ldB ad1 w2 fun b1 =>
    ldS (ad1.add 1) w2 fun s1 =>
    ldI .i64 (ad1.add 2) w2 fun x1 =>
    stC ad2 (Value.bool b1) w2 fun w3 =>
    stC (ad2.add 1) s1.v w3 fun w4 =>
    stC (ad2.add 2) (Value.int .i64 x1) w4 fun w5 =>
    ldB ad2 w5 fun b2 =>
    ldS (ad2.add 1) w5 fun s2 =>
    ldI .i64 (ad2.add 2) w5 fun x2 =>
    R (.returned (Value.agg #[Value.bool b2, s2.v, Value.int .i64 x2])) w5) :
    Calls Tryd.prog 12 #[Value.agg #[Value.bool a0_a_0, a0_a_1.v, Value.int .i64 a0_a_2]] w R := by
  refine calls_of_vc (fun _ => none) (by kernel_rfl) Tryd.func12 rfl ?_ ?_
  · refine kcast h ?_; kernel_rfl
  · exact (obl_seq rfl (obl_reg (obl_seq rfl (obl_reg (obl_ret trivial)))))

end Go.Proofs.YtahbekmnphkiiaaDoor
namespace Go.Proofs.YtahbekmnphkiiaaDoor
open Go Go.RowKit Eng Sp Dg
set_option linter.unusedVariables false
set_option linter.unusedSimpArgs false
set_option maxRecDepth 100000
namespace Dy
open _root_.Go.Proofs.YtahbekmnphkiiaaDoor.Nat (ldN ldNf stF stFf mkF Fill OwnNil Num Num.bl OwnNil.mono bigC bigC_ok rightC right_num Norm_spec Length_spec len_num semShr fixShl orI_nat digs_len_bl)
open Sb

theorem tdivN {n : Nat} (h : n ≤ 9223372036854775807) : IntKind.i64.wrap (Int.tdiv (n : Int) 64) = ((n / 64 : Nat) : Int) := by
  have : Int.tdiv (n : Int) 64 = ((n / 64 : Nat) : Int) := by rw [Int.tdiv_eq_ediv_of_nonneg (by omega)]; omega
  rw [this, wrap_i64 (by omega) (by omega)]
theorem tmodN (n : Nat) : IntKind.u64.wrap (Int.tmod (n : Int) 64) = ((n % 64 : Nat) : Int) := by
  rw [Int.tmod_eq_emod_of_nonneg (by omega), wrap_u64]; omega

set_option maxHeartbeats 1000000 in
theorem shifted_spec {w : World} {a : Slc} {x k : Nat} (ra : Rd .u64 w a (nn (digs B64 x))) (na : (digs B64 x).length ≤ 2 ^ 44) (hk : k < bl x) :
    Calls pr dyadic_shifted_id #[a.v, .int .i64 (k : Int)] w fun e w' => Ahead w w' ∧ ∃ s, e = .returned (Slc.v s) ∧ OwnNil w.heap.size w' s (digs B64 (x / 2 ^ k)) := by
  have hB := B64v
  have h64 : B64 = 2 ^ 64 := rfl
  have hA0 := val_digs two64 x
  have hoA := ok_digs two64 x
  have hbl := bl_len hoA
  rw [hA0] at hbl
  have hw : k % 64 < 64 := Nat.mod_lt _ (by omega)
  have hp2 : B64 ^ (k / 64) * 2 ^ (k % 64) = 2 ^ k := (pow_split k 64).symm
  have hnum : Num w a x := ⟨_, ra, na, hoA, hA0⟩
  have hna : a.n = (digs B64 x).length := by rw [ra.n, nn_length]
  generalize digs B64 x = A at *
  have hk64 : k / 64 < A.length := by omega
  refine dyadic_shifted_vc a k w _ (fun t0 t7 t8 t9 t31 t32 w' => t0 = a ∧ t7 = ((k / 64 : Nat) : Int) ∧ t8 = ((k % 64 : Nat) : Int) ∧ t31 = ((A.length - k / 64 : Nat) : Int) ∧ ∃ (l : List Nat) (j : Nat), t32 = (j : Int) ∧ j ≤ A.length - k / 64 ∧
    Fill w w' t9 l (fun w' => Rd .u64 w' a (nn A)) ∧ l.length = A.length - k / 64 ∧ ok B64 l ∧ ∀ i, i < j → l.getD i 0 = x / 2 ^ k / B64 ^ i % B64) (fun _ _ _ _ n i _ => (n - i).toNat) ?_ ?_
  · refine Calls.mono (right_num hnum (n := (k : Int))) ?_
    rintro e w1 ⟨h1, s, rfl, os⟩
    have ek : ((k : Int)).toNat = k := by omega
    rw [ek] at os
    refine ⟨_, _, rfl, br_intro (fun hc => ?_) (fun hc => ?_)⟩
    · have hc0 : rightC x (k : Int) = 0 := by simpa using hc
      rw [if_pos hc0] at os
      exact ⟨h1, s, rfl, os⟩
    · rw [tdivN (by omega), tmodN, hna, wrap_i64 (by omega) (by omega), show (A.length : Int) - ((k / 64 : Nat) : Int) = ((A.length - k / 64 : Nat) : Int) by omega]
      refine mkF (w0 := w) (S := fun w' => Rd .u64 w' a (nn A)) (by omega) (by omega) h1 (ra.ahead h1) ?_
      intro c w3 hcn hf ha
      exact ⟨rfl, rfl, rfl, by rw [hcn]; simp, _, 0, rfl, Nat.zero_le _, hf, by simp, ok_replicate (by omega) _, fun i hi => by omega⟩
  · rintro t0 t7 t8 t9 t31 t32 w' ⟨rfl, rfl, rfl, rfl, l, j, rfl, hj, hf, hl, ol, hd⟩
    have hS := hf.src (fun _ h hs => Rd.ahead hs h)
    have hN : ∀ i, x / 2 ^ k / B64 ^ i % B64 = A.getD (k / 64 + i) 0 / 2 ^ (k % 64) + 2 ^ (64 - k % 64) * (A.getD (k / 64 + i + 1) 0 % 2 ^ (k % 64)) := by
      intro i
      rw [digit (by omega : 0 < B64) A hoA (k / 64 + i), digit (by omega : 0 < B64) A hoA (k / 64 + i + 1), hA0, ← hp2]
      rw [h64, div_pow_add, right_digit _ _ _ _ hw]
      congr 2
      generalize x / (2 ^ 64) ^ (k / 64 + i + 1) = U
      rw [show 2 ^ 64 = 2 ^ (k % 64) * 2 ^ (64 - k % 64) by rw [← Nat.pow_add]; congr 1; omega, Nat.mod_mul_right_mod]
    refine br_intro (fun hlt => ?_) (fun hge => ?_)
    · have hj' : j < A.length - k / 64 := by simp at hlt; omega
      have hx := ok_getD hoA (by omega : 0 < B64) (k / 64 + j)
      have hN' := hN j
      have e8 : IntKind.i64.wrap ((j : Int) + 1) = ((j + 1 : Nat) : Int) := by rw [wrap_i64 (by omega) (by omega)]; omega
      rw [wrap_i64 (x := (j : Int) + ((k / 64 : Nat) : Int)) (by omega) (by omega), show (j : Int) + ((k / 64 : Nat) : Int) = ((k / 64 + j : Nat) : Int) by omega,
        wrap_i64 (x := ((k / 64 + j : Nat) : Int) + 1) (by omega) (by omega), show ((k / 64 + j : Nat) : Int) + 1 = ((k / 64 + j + 1 : Nat) : Int) by omega]
      refine ldN hS (by omega) (by omega) ?_
      refine semShr (by omega) ?_
      simp only [Int.toNat_natCast]
      have hq : A.getD (k / 64 + j) 0 / 2 ^ (k % 64) < B64 := Nat.lt_of_le_of_lt (Nat.div_le_self _ _) hx
      have hvlt : x / 2 ^ k / B64 ^ j % B64 < B64 := Nat.mod_lt _ (by omega)
      refine stF hf (by omega) (by omega) ?_
      intro w6 hf6
      simp only [Int.toNat_natCast] at hf6
      have fin : ∀ {w7 : World}, Fill w w7 t9 (l.set j (x / 2 ^ k / B64 ^ j % B64)) (fun w' => Rd .u64 w' t0 (nn A)) →
          (True ∧ True ∧ True ∧ True ∧ ∃ (l : List Nat) (j' : Nat), IntKind.i64.wrap ((j : Int) + 1) = (j' : Int) ∧ j' ≤ A.length - k / 64 ∧
            Fill w w7 t9 l (fun w' => Rd .u64 w' t0 (nn A)) ∧ l.length = A.length - k / 64 ∧ ok B64 l ∧ ∀ i, i < j' → l.getD i 0 = x / 2 ^ k / B64 ^ i % B64) ∧
          (((A.length - k / 64 : Nat) : Int) - IntKind.i64.wrap ((j : Int) + 1)).toNat < (((A.length - k / 64 : Nat) : Int) - (j : Int)).toNat := by
        intro w7 hf7
        refine ⟨⟨trivial, trivial, trivial, trivial, _, j + 1, e8, by omega, hf7, by simpa using hl, ok_set ol hvlt, fun i hi => ?_⟩, by rw [e8]; omega⟩
        rw [getD_set _ _ _ _ (by omega)]
        split
        · rename_i h; subst h; rfl
        · exact hd i (by omega)
      refine br_intro (fun hs => br_intro (fun hin => ?_) (fun hin => ?_)) (fun hs => ?_)
      · have hs1 : 0 < k % 64 := by simp at hs; omega
        have hin' : k / 64 + j + 1 < A.length := by simp at hin; omega
        have hS6 := hf6.src (fun _ h hs => Rd.ahead hs h)
        refine ldNf hf6.rd (by omega) (by simp; omega) ?_
        refine ldNf hS6 (by omega) (by omega) ?_
        simp only [Int.toNat_natCast]
        rw [show IntKind.u64.wrap (64 - ((k % 64 : Nat) : Int)) = ((64 - k % 64 : Nat) : Int) by rw [wrap_u64' (by omega) (by omega)]; omega]
        refine fixShl (by omega) ?_
        rw [getD_set _ _ _ _ (by omega), if_pos rfl, orI_nat hq (Nat.mod_lt _ (by omega))]
        have e5 : A.getD (k / 64 + j + 1) 0 * 2 ^ (64 - k % 64) % B64 = 2 ^ (64 - k % 64) * (A.getD (k / 64 + j + 1) 0 % 2 ^ (k % 64)) := by
          rw [h64, shl_lo _ _ _ (by omega)]
          congr 3; omega
        have hql : A.getD (k / 64 + j) 0 / 2 ^ (k % 64) < 2 ^ (64 - k % 64) := by
          rw [Nat.div_lt_iff_lt_mul (Nat.pow_pos (by omega)), ← Nat.pow_add, show 64 - k % 64 + k % 64 = 64 by omega]
          exact hx
        rw [e5, or_add hql, ← hN']
        refine stFf hf6 (Ahead.drew _) (by omega) (by simp; omega) ?_
        intro w7 hf7
        simp only [Int.toNat_natCast, List.set_set] at hf7
        exact fin hf7
      · have hin' : A.length ≤ k / 64 + j + 1 := by simp at hin; omega
        rw [getD_ge A 0 hin', Nat.zero_mod, Nat.mul_zero, Nat.add_zero] at hN'
        rw [← hN'] at hf6
        exact fin hf6
      · have hs0 : k % 64 = 0 := by simp at hs; omega
        have : x / 2 ^ k / B64 ^ j % B64 = A.getD (k / 64 + j) 0 / 2 ^ (k % 64) := by rw [hN', hs0]; simp [Nat.mod_one]
        rw [← this] at hf6
        exact fin hf6
    · have hj' : j = A.length - k / 64 := by simp at hge; omega
      subst hj'
      have hv : val B64 l = x / 2 ^ k := by
        refine val_of_digits (by omega) l _ ?_ (fun i hi => hd i (by omega))
        rw [Nat.div_lt_iff_lt_mul (Nat.pow_pos (by omega)), ← hp2, ← Nat.mul_assoc, hl, ← Nat.pow_add, show A.length - k / 64 + k / 64 = A.length by omega, ← hA0]
        exact Nat.lt_of_lt_of_le (val_lt hoA) (Nat.le_mul_of_pos_right _ (Nat.pow_pos (by omega)))
      refine Calls.mono (Norm_spec hf.rd (by omega) ol) ?_
      rw [hv]
      rintro e w3 ⟨h3, s, rfl, os⟩
      exact ⟨_, rfl, hf.base.trans h3, _, rfl, os.mono hf.base.size⟩

def nD (neg : Bool) (x : Nat) : Bool := neg && decide (x ≠ 0)
def eD (x : Nat) (e : Int) : Int := if x = 0 then 0 else e + tz x
def wi (e : Int) : Prop := -1099511627776 ≤ e ∧ e ≤ 1099511627776
instance (e : Int) : Decidable (wi e) := inferInstanceAs (Decidable (_ ∧ _))
/-- The number of an answer. -/
def tC (x : Nat) (e : Int) : Int := if 67108864 < bl (od x) then 3 else if wi (eD x e) then 0 else 80
/-- An answer: a dyadic in lowest terms, or nothing and a number. -/
def DOut (w : World) (code : Int) (neg : Bool) (x : Nat) (e : Int) (en : Ending) (w' : World) : Prop := Ahead w w' ∧ ∃ s, en = .returned (.tuple #[.agg (c3 (if code = 0 then nD neg x else false) s (if code = 0 then eD x e else 0)), .int .i64 code]) ∧
  OwnNil w.heap.size w' s (if code = 0 then digs B64 (od x) else [])
theorem DOut.refused {w w' : World} {code c : Int} {neg : Bool} {x : Nat} {e : Int} (h : Ahead w w') (hc : code = c) (h0 : c ≠ 0) : DOut w code neg x e (.returned (.tuple #[.agg (c3 false ⟨none, 0, 0⟩ 0), .int .i64 c])) w' := by
  subst hc
  exact ⟨h, _, by rw [if_neg h0, if_neg h0], Or.inl ⟨rfl, if_neg h0⟩⟩
theorem DOut.told {w w' : World} {code : Int} {neg : Bool} {x : Nat} {e : Int} {s : Slc} (h : Ahead w w') (hc : code = 0) (ho : OwnNil w.heap.size w' s (digs B64 (od x))) : DOut w code neg x e (.returned (.tuple #[.agg (c3 (nD neg x) s (eD x e)), .int .i64 0])) w' := by
  subst hc
  exact ⟨h, s, rfl, ho⟩
theorem nD_zero (neg : Bool) : nD neg 0 = false := by simp [nD]
theorem nD_ne {neg : Bool} {x : Nat} (h : x ≠ 0) : nD neg x = neg := by simp [nD, h]
theorem nD_od (neg : Bool) (x : Nat) : nD (nD neg x) (od x) = nD neg x := by
  by_cases h : x = 0
  · subst h; simp [nD, od_zero]
  · rw [nD_ne h, nD_ne (od_ne h)]
theorem eD_zero (e : Int) : eD 0 e = 0 := if_pos rfl

theorem within_spec {w : World} {e : Int} : Calls pr dyadic_within_id #[.int .i64 e] w fun en w' => w' = w ∧ en = .returned (.bool (decide (wi e))) := by
  refine dyadic_within_vc e w _ (br_intro (fun h => ⟨rfl, ?_⟩) (fun h => ⟨rfl, ?_⟩))
  · have h1 : -1099511627776 ≤ e := by simpa using h
    congr 2
    simp [wi, h1]
  · have h1 : ¬ -1099511627776 ≤ e := by simpa using h
    congr 2
    simp [wi, h1]

theorem bl_zero_iff {x : Nat} : bl x = 0 ↔ x = 0 := ⟨fun h => by rcases Nat.eq_zero_or_pos x with h1 | h1; exact h1; have := bl_pos (n := x) (by omega); omega, fun h => by rw [h, bl_zero]⟩
def sgn (neg : Bool) (x : Nat) : Int := if x = 0 then 0 else if neg then -1 else 1
theorem Sign_spec {w : World} {neg : Bool} {s : Slc} {x : Nat} (h : Num w s x) : Calls pr whole_Sign_id #[.agg (c2 neg s)] w fun e w' => Ahead w w' ∧ e = .returned (.int .i64 (sgn neg x)) := by
  refine whole_Sign_vc neg s w _ (newC_b fun b w1 hb h1 hs1 B1 => ?_)
  refine ldS_b 1 B1 rfl (Calls.mono (len_num (h.ahead h1)) ?_)
  rintro e w2 ⟨rfl, rfl⟩
  refine ⟨_, rfl, br_intro (fun hz => ?_) (fun hz => ?_)⟩
  · have hx : x = 0 := bl_zero_iff.1 (by simpa using hz)
    exact ⟨h1, by rw [sgn, if_pos hx]⟩
  · have hx : x ≠ 0 := fun e => by rw [e, bl_zero] at hz; simp at hz
    refine ldB_b 0 B1 rfl ?_
    cases neg
    · exact br_false rfl ⟨h1, by rw [sgn, if_neg hx]; rfl⟩
    · exact br_true rfl ⟨h1, by rw [sgn, if_neg hx]; rfl⟩
theorem sgn_zero_iff {neg : Bool} {x : Nat} : sgn neg x = 0 ↔ x = 0 := by
  unfold sgn
  by_cases h : x = 0
  · simp [h]
  · rw [if_neg h]
    cases neg <;> simp [h]
theorem part_sign_spec {w : World} {neg : Bool} {s : Slc} {x : Nat} (h : Num w s x) : Calls pr dyadic_part_sign_id #[.agg (c2 neg s)] w fun e w' => Ahead w w' ∧ e = .returned (.int .i64 (sgn neg x)) := by
  refine dyadic_part_sign_vc neg s w _ (newC_b fun b w1 hb h1 hs1 B1 => ?_)
  refine get2 B1 rfl rfl (Calls.mono (Sign_spec (h.ahead h1)) ?_)
  rintro e w2 ⟨h2, rfl⟩
  exact ⟨_, rfl, h1.trans h2, rfl⟩
theorem part_length_spec {w : World} {neg : Bool} {s : Slc} {x : Nat} (h : Num w s x) : Calls pr dyadic_part_length_id #[.agg (c2 neg s)] w fun e w' => Ahead w w' ∧ e = .returned (.int .i64 (bl x)) := by
  refine dyadic_part_length_vc neg s w _ (newC_b fun b w1 hb h1 hs1 B1 => ?_)
  refine ldS_b 1 B1 rfl (Calls.mono (len_num (h.ahead h1)) ?_)
  rintro e w2 ⟨rfl, rfl⟩
  exact ⟨_, rfl, h1, rfl⟩

theorem odd_spec {w : World} {neg : Bool} {s : Slc} {x : Nat} {e : Int} (hT : Tab w) (h : Num w s x) (he : -4611686018427387904 ≤ e ∧ e ≤ 4611686018427387904) :
    Calls pr dyadic_odd_id #[.agg (c2 neg s), .int .i64 e] w fun en w' => Ahead w w' ∧ ∃ s', en = .returned (.agg (c3 (nD neg x) s' (eD x e))) ∧ OwnNil w.heap.size w' s' (digs B64 (od x)) := by
  refine dyadic_odd_vc neg s e w _ (newC_b fun b1 w1 hb1 h1 hs1 B1 => newC_b fun b2 w2 hb2 h2 hs2 B2 => ?_)
  have B1' := B1.ahead h2
  have h12 := h1.trans h2
  have hne : b2 ≠ b1 := by omega
  have n2 := h.ahead h12
  refine get2 B1' rfl rfl (Calls.mono (Sign_spec n2) ?_)
  rintro en w3 ⟨h3, rfl⟩
  have h13 := h12.trans h3
  have B13 := B1'.ahead h3
  have B23 := B2.ahead h3
  refine ⟨_, rfl, br_intro (fun hz => ?_) (fun hz => ?_)⟩
  · have hx : x = 0 := sgn_zero_iff.1 (by simpa using hz)
    subst hx
    refine ret3 B23 fun w' u _ => ⟨u.ahead h13 (by omega), _, by rw [nD_zero, eD_zero], Or.inl ⟨rfl, by rw [od_zero, digs_zero]⟩⟩
  · have hx : x ≠ 0 := fun e0 => by rw [e0] at hz; simp [sgn] at hz
    obtain ⟨l, ra, na, oa, hv⟩ := h.ahead h13
    refine ldS_b 1 B13 rfl (Calls.mono (Norm_spec ra na oa) ?_)
    rw [hv]
    rintro en w7 ⟨h7, s4, rfl, o4⟩
    have hdl := Nat.len_le oa
    rw [hv] at hdl
    have hbl := Num.bl h
    have htz := tz_lt hx
    refine ⟨_, rfl, stC_b 1 (B13.ahead h7) (by simp) rfl fun w8 u8 C1 => ?_⟩
    have o8 := u8.own o4 (by have := h13.size; have := h3.size; omega)
    have h18 : Ahead w w8 := u8.ahead (h13.trans h7) (by omega)
    have B28 : Blk w8 b2 _ := u8.blk (B23.ahead h7) hne
    refine ldS_b (x := s4) 1 C1 rfl (Calls.mono (Tail_spec (hT.ahead h18) o8.rd (by omega) (ok_digs two64 _)) ?_)
    rw [val_digs two64]
    rintro en w9 ⟨rfl, rfl⟩
    refine ⟨_, rfl, br_intro (fun hk => ?_) (fun hk => ?_)⟩
    · refine ldS_b (x := s4) 1 C1 rfl (Calls.mono (shifted_spec o8.rd (by omega) htz) ?_)
      rintro en w10 ⟨h10, s7, rfl, o7⟩
      have C10 := C1.ahead h10
      refine ⟨_, rfl, stC_b 1 C10 (by simp) rfl fun w11 u11 C11 => ?_⟩
      have hsz := h18.size
      have o11 := u11.own o7 (by have := u8.size; have := h7.size; have := h3.size; omega)
      refine get2 (x := neg) (s := s7) C11 rfl rfl ?_
      have B211 : Blk w11 b2 _ := u11.blk (B28.ahead h10) hne
      refine ret3 B211 fun w' u _ => ?_
      have h11 : Ahead w w11 := u11.ahead (h18.trans h10) (by omega)
      refine ⟨u.ahead h11 (by omega), s7, ?_, (u.own o11 (by have := u8.size; have := h7.size; have := h3.size; omega)).mono hsz⟩
      rw [nD_ne hx, eD, if_neg hx, wrap_i64 (by omega) (by omega)]
    · have hk0 : tz x = 0 := by simp at hk; omega
      refine get2 (x := neg) (s := s4) C1 rfl rfl ?_
      refine ret3 B28 fun w' u _ => ?_
      refine ⟨u.ahead h18 (by omega), s4, ?_, ?_⟩
      · rw [nD_ne hx, eD, if_neg hx, wrap_i64 (by omega) (by omega)]
      · rw [od, hk0, Nat.pow_zero, Nat.div_one]
        exact (u.own o8 (by have := h13.size; have := h3.size; omega)).mono (by have := h13.size; omega)

theorem num_od {w : World} {s : Slc} {x b : Nat} (h : OwnNil b w s (digs B64 (od x))) (hl : (digs B64 x).length ≤ 2 ^ 44) : Num w s (od x) :=
  ⟨_, h.rd, Nat.le_trans (Ref.len_mono two64 (od_le x)) hl, ok_digs two64 _, val_digs two64 _⟩
theorem num_len {w : World} {s : Slc} {x : Nat} (h : Num w s x) : (digs B64 x).length ≤ 2 ^ 44 := by
  obtain ⟨l, _, hl, ol, rfl⟩ := h
  exact Nat.le_trans (Nat.len_le ol) hl

theorem told_spec {w : World} {neg : Bool} {s : Slc} {x : Nat} {e : Int} (hT : Tab w) (h : Num w s x) (he : -4611686018427387904 ≤ e ∧ e ≤ 4611686018427387904) :
    Calls pr dyadic_told_id #[.agg (c2 neg s), .int .i64 e] w (DOut w (tC x e) neg x e) := by
  refine dyadic_told_vc neg s e w _ (newC_b fun b1 w1 hb1 h1 hs1 B1 => newC_b fun b2 w2 hb2 h2 hs2 B2 => ?_)
  have h12 := h1.trans h2
  refine get2 (B1.ahead h2) rfl rfl (Calls.mono (odd_spec (hT.ahead h12) (h.ahead h12) he) ?_)
  rintro en w3 ⟨h3, s2, rfl, o2⟩
  have h13 := h12.trans h3
  have B23 := B2.ahead h3
  refine ⟨_, _, _, rfl, newC_b fun b3 w4 hb3 h4 hs4 B3 => ?_⟩
  have B24 := B23.ahead h4
  refine set3 B3 fun w7 u7 C3 => ?_
  have hle := B23.lt
  have B27 : Blk w7 b2 _ := u7.blk B24 (by omega)
  have h17 : Ahead w w7 := u7.ahead (h13.trans h4) (by have := h13.size; omega)
  have hl := num_len h
  have n7 : Num w7 s2 (od x) := by
    have n4 : Num w4 s2 (od x) := (num_od o2 hl).ahead h4
    obtain ⟨l, r, q⟩ := n4
    exact ⟨l, u7.rd _ _ r, q⟩
  have o7 := u7.own2 o2 h4 (by omega)
  refine get2 (x := nD neg x) (s := s2) C3 rfl rfl (Calls.mono (part_sign_spec n7) ?_)
  rintro en w8 ⟨h8, rfl⟩
  have h18 := h17.trans h8
  have B28 := B27.ahead h8
  have C38 := C3.ahead h8
  have o8 := o7.ahead h8
  have hsz := h12.size
  have hb2 : w.heap.size ≤ b2 := by have := h1.size; omega
  have hbase : w.heap.size ≤ w2.heap.size := h12.size
  refine ⟨_, rfl, br_intro (fun hz => ?_) (fun hz => ?_)⟩
  · have hx : x = 0 := od_zero_iff.1 (sgn_zero_iff.1 (by simpa using hz))
    subst hx
    refine ret3 B28 fun w' u _ => ?_
    have hc : tC 0 e = 0 := by
      rw [tC, od_zero, bl_zero, if_neg (by omega), eD_zero, if_pos (by unfold wi; omega)]
    have := DOut.told (w := w) (w' := w') (neg := neg) (x := 0) (e := e) (s := ⟨none, 0, 0⟩) (u.ahead h18 hb2) hc (Or.inl ⟨rfl, by rw [od_zero, digs_zero]⟩)
    rwa [nD_zero, eD_zero] at this
  · have hx : x ≠ 0 := fun e0 => by rw [e0, od_zero] at hz; simp [sgn] at hz
    refine get2 (x := nD neg x) (s := s2) C38 rfl rfl (Calls.mono (part_length_spec (n7.ahead h8)) ?_)
    rintro en w12 ⟨h12', rfl⟩
    have h112 := h18.trans h12'
    have B212 := B28.ahead h12'
    have C312 := C38.ahead h12'
    refine ⟨_, rfl, br_intro (fun hg => ?_) (fun hg => ?_)⟩
    · refine ret3 B212 fun w' u _ => DOut.refused (u.ahead h112 hb2) ?_ (by omega)
      rw [tC, if_pos (by simp at hg; omega)]
    · refine ldI_b (x := eD x e) 2 C312 rfl (Calls.mono within_spec ?_)
      rintro en w16 ⟨rfl, rfl⟩
      refine ⟨_, rfl, br_intro (fun hw => ?_) (fun hw => ?_)⟩
      · refine ret3 B212 fun w' u _ => DOut.refused (u.ahead h112 hb2) ?_ (by omega)
        rw [tC, if_neg (by simp at hg; omega), if_neg (by simpa using hw)]
      · refine get3 C312 (ret3 B212 fun w' u _ => DOut.told (u.ahead h112 hb2) ?_ ?_)
        · rw [tC, if_neg (by simp at hg; omega), if_pos (by simpa using hw)]
        · refine OwnNil.mono (u.own (o8.ahead h12') ?_) hbase
          omega

theorem read_spec {w : World} {neg : Bool} {s : Slc} {x : Nat} {e : Int} (hT : Tab w) (h : Num w s x) :
    Calls pr dyadic_read_id #[.agg (c3 neg s e)] w (fun en w' => Ahead w w' ∧ ∃ s', en = .returned (.tuple #[.agg (c3 (if wi e then nD neg x else false) s' (if wi e then eD x e else 0)), .int .i64 (if wi e then 0 else 80)]) ∧
      OwnNil w.heap.size w' s' (if wi e then digs B64 (od x) else [])) := by
  refine dyadic_read_vc neg s e w _ (newC_b fun b1 w1 hb1 h1 hs1 B1 => newC_b fun b2 w2 hb2 h2 hs2 B2 => ?_)
  have h12 := h1.trans h2
  have B12 := B1.ahead h2
  have hb : w.heap.size ≤ b2 := by have := h1.size; omega
  refine ldI_b (x := e) 2 B12 rfl (Calls.mono within_spec ?_)
  rintro en w3 ⟨rfl, rfl⟩
  refine ⟨_, rfl, br_intro (fun hw => ?_) (fun hw => ?_)⟩
  · have hw' : ¬ wi e := by simpa using hw
    refine ret3 B2 fun w' u _ => ⟨u.ahead h12 hb, _, ?_, Or.inl ⟨rfl, if_neg hw'⟩⟩
    rw [if_neg hw', if_neg hw', if_neg hw']
  · have hw' : wi e := by simpa using hw
    refine get3 B12 (Calls.mono (odd_spec (hT.ahead h12) (h.ahead h12) (by unfold wi at hw'; omega)) ?_)
    rintro en w7 ⟨h7, s3, rfl, o3⟩
    refine ⟨_, _, _, rfl, ret3 (B2.ahead h7) fun w' u _ => ⟨u.ahead (h12.trans h7) hb, s3, ?_, ?_⟩⟩
    · rw [if_pos hw', if_pos hw', if_pos hw']
    · rw [if_pos hw']
      exact (u.own o3 (by omega)).mono h12.size

theorem Make_spec {w : World} {neg : Bool} {s : Slc} {x : Nat} {e : Int} (hT : Tab w) (h : Num w s x) :
    Calls pr dyadic_Make_id #[.agg (c2 neg s), .int .i64 e] w (DOut w (if wi e then tC x e else 1) neg x e) := by
  refine dyadic_Make_vc neg s e w _ (newC_b fun b1 w1 hb1 h1 hs1 B1 => newC_b fun b2 w2 hb2 h2 hs2 B2 => ?_)
  have h12 := h1.trans h2
  have hb : w.heap.size ≤ b2 := by have := h1.size; omega
  refine Calls.mono within_spec ?_
  rintro en w3 ⟨rfl, rfl⟩
  refine ⟨_, rfl, br_intro (fun hw => ?_) (fun hw => ?_)⟩
  · have hw' : ¬ wi e := by simpa using hw
    exact ret3 B2 fun w' u _ => DOut.refused (u.ahead h12 hb) (if_neg hw') (by omega)
  · have hw' : wi e := by simpa using hw
    rw [if_pos hw']
    refine get2 (B1.ahead h2) rfl rfl (Calls.mono (told_spec (hT.ahead h12) (h.ahead h12) (by unfold wi at hw'; omega)) ?_)
    rintro en w7 ⟨h7, s3, rfl, o3⟩
    exact ⟨_, _, _, _, rfl, ret3 (B2.ahead h7) fun w' u _ => ⟨u.ahead (h12.trans h7) hb, s3, rfl, (u.own o3 (by omega)).mono h12.size⟩⟩

theorem in_spec {w : World} {neg : Bool} {s : Slc} {e : Int} : Calls pr surdlaw08_in_id #[.agg (c3 neg s e)] w fun en w' => Ahead w w' ∧ en = .returned (.agg (c3 neg s e)) := by
  refine surdlaw08_in_vc neg s e w _ (newC_b fun b1 w1 hb1 h1 hs1 B1 => newC_b fun b2 w2 hb2 h2 hs2 B2 => ?_)
  refine get3 (B1.ahead h2) (ret3 B2 fun w' u _ => ⟨u.ahead (h1.trans h2) (by have := h1.size; omega), rfl⟩)

end Dy
end Go.Proofs.YtahbekmnphkiiaaDoor
namespace Go.Proofs.YtahbekmnphkiiaaDoor
open Go Go.RowKit Eng Sp Dg
open Go.ChangeShapes Go.WideShapes
set_option linter.unusedVariables false
set_option linter.unusedSimpArgs false

/-- The listed table. -/
theorem tab_of {W : World} {rest : List (String × DataW Unit)} (hg : pr.globalNamed "math/bits.deBruijn64tab" = some 0) {t e : TypeId} (hty : (pr.globals[0]?).map (·.type) = some t) (ht : pr.underlying t = some (.array 64 e)) (he : pr.underlying e = some (.int .u8)) (hce : pr.cellsOf e = 1) (hct : pr.cellsOf t = 64)
    (h : laidMet pr (("math/bits.deBruijn64tab", Lib.tabData .u8 (Lib.deBruijn64tab.map fun n : Nat => (n : Int))) :: rest) W) : Dy.Tab W := by
  have h1 := Lib.tabIs_of_head hg hty ht he hce hct h
  intro j hj
  have := h1.cell hg j (by simpa [Lib.deBruijn64tab] using hj)
  rw [this]
  simp [List.getD_eq_getElem?_getD, List.getElem?_map]
  have hj' : j < Lib.deBruijn64tab.length := by simpa [Lib.deBruijn64tab] using hj
  simp [hj']

end Go.Proofs.YtahbekmnphkiiaaDoor
namespace Go.Proofs.YtahbekmnphkiiaaDoor
open Go Go.RowKit Eng Sp Dg
open Go.ChangeShapes Go.WideShapes
set_option linter.unusedVariables false
set_option linter.unusedSimpArgs false

theorem bulkL {H : Type} (k : Go.IntKind) (zs : List Int) : Rows.uptoBulkAll (H := H) (lits k zs) = zs.length := by
  induction zs with
  | nil => simp [lits, Rows.uptoBulkAll]
  | cons z zs ih => simp only [lits, List.map_cons, Rows.uptoBulkAll, Rows.uptoBulk, List.length_cons] at ih ⊢; omega
theorem open_DU {H : Type} {enc : TypeId × Value → H} {P : Program} {W : World} {t e : TypeId} {f0 f1 f2 : Field} {cs : Array Value} {d : DataW H} {ps : List MemPlace}
    (ht : P.underlying t = some (.struct #[f0, f1, f2])) (ho : f0.offset = 0 ∧ f1.offset = 1 ∧ f2.offset = 2) (hc : P.cellsOf f0.type = 1 ∧ P.cellsOf f1.type = 1 ∧ P.cellsOf f2.type = 1 ∧ P.cellsOf t = 3)
    (hu : P.underlying f0.type = some .bool ∧ P.underlying f1.type = some (.slice e) ∧ P.underlying f2.type = some (.int .i64)) (he : P.underlying e = some (.int .u64)) (hce : P.cellsOf e = 1)
    (h : DataW.Trod enc P W 0 (fun _ => true) true t (.agg cs) d ps) :
    ∃ (b : Bool) (s : Slc) (x : Int) (l : List Nat), cs = Sb.c3 b s x ∧ Rd .u64 W s (nn l) ∧ ok B64 l ∧ l.length ≤ Rows.uptoBulk d ∧ -9223372036854775808 ≤ x ∧ x ≤ 9223372036854775807 := by
  obtain ⟨fuel, hf⟩ := h
  obtain ⟨y0, y1, y2, n, hx, hl, g0, g1, g2⟩ := Go.Deep.trod_struct3 ht hf
  rw [hc.1, ho.1] at g0
  rw [hc.2.1, ho.2.1] at g1
  rw [hc.2.2.1, ho.2.2] at g2
  rw [hc.2.2.2] at hl
  have hcs : (Value.agg cs).cells = cs := rfl
  rw [hcs] at hl g0 g1 g2
  obtain ⟨hd, _⟩ := Prod.mk.inj hx
  obtain ⟨b, hb0, _⟩ := DataW.trod_bool hu.1 g0
  obtain ⟨x, hx2, _, hw⟩ := DataW.trod_int hu.2.2 g2
  have hx' := wf_i64 hw
  obtain ⟨A, m, c, zs, hs1, hrow, hlen⟩ : ∃ A m c zs, (cs.toList.drop 1).take 1 = [Value.slice A m c] ∧ IsRow .u64 W A m c zs ∧ m ≤ Rows.uptoBulk d := by
    rcases open_ints hu.2.1 he hce g1 with ⟨hs, _⟩ | ⟨a, m, c, zs, hs, _, hl1, hm, hz, hy1, hcell, hwz⟩
    · exact ⟨none, 0, 0, [], hs, .inl ⟨rfl, rfl, rfl, rfl⟩, by omega⟩
    · refine ⟨some a, m, c, zs, hs, .inr ⟨a, rfl, hl1, hm, by simpa using hz, hcell, hwz⟩, ?_⟩
      have hz' : zs.length = c := by simpa using hz
      rw [hd, hy1]
      simp only [Rows.uptoBulk, Rows.uptoBulkAll, bulkL, List.length_take, List.length_drop]
      omega
  obtain ⟨l, hll, hr, ho'⟩ := hrow.rd
  refine ⟨b, ⟨A, m, c⟩, x, l, ?_, hr, ho', by omega, hx'.1, hx'.2⟩
  obtain ⟨cl⟩ := cs
  match cl, hl with
  | [a0, a1, a2], _ =>
    simp at hb0 hs1 hx2
    rw [hb0, hs1, hx2]; rfl

end Go.Proofs.YtahbekmnphkiiaaDoor
namespace Go.Proofs.YtahbekmnphkiiaaDoor
open Go Go.RowKit Eng Sp Dg
set_option linter.unusedVariables false
set_option linter.unusedSimpArgs false
set_option maxRecDepth 100000
namespace Dg
theorem bit_digit64 (U s : Nat) (hs : s < 64) : U % 2 ^ 64 / 2 ^ s % 2 = U / 2 ^ s % 2 := by
  have h : (2 : Nat) ^ 64 = 2 ^ s * (2 * 2 ^ (63 - s)) := by rw [← Nat.pow_succ', ← Nat.pow_add]; congr 1; omega
  rw [h, Nat.mod_mul_right_div_self, Nat.mod_mul_right_mod]
end Dg
namespace Nat
open _root_.Go.Proofs.YtahbekmnphkiiaaDoor.Dy (tdivN tmodN)

theorem nBit_spec {w : World} {s : Slc} {l : List Nat} {i : Nat} (h : Rd .u64 w s (nn l)) (hl : l.length ≤ 2 ^ 46) (ol : ok B64 l) (hi : i ≤ 9223372036854775807) :
    Calls pr nat_Bit_id #[s.v, .int .i64 (i : Int)] w fun e w' => w' = w ∧ e = .returned (.int .i64 ((val B64 l / 2 ^ i % 2 : Nat) : Int)) := by
  have hn : s.n = l.length := by rw [h.n, nn_length]
  have hB := B64v
  have hp2 : B64 ^ (i / 64) * 2 ^ (i % 64) = 2 ^ i := (pow_split i 64).symm
  have hx : val B64 l / 2 ^ i % 2 = l.getD (i / 64) 0 / 2 ^ (i % 64) % 2 := by
    rw [digit (by omega : 0 < B64) _ ol (i / 64), ← hp2, ← Nat.div_div_eq_div_mul, show B64 = 2 ^ 64 from rfl, bit_digit64 _ _ (Nat.mod_lt _ (by omega))]
  refine nat_Bit_vc s i w _ (br_false (by simp) ?_)
  rw [tdivN (by omega), tmodN]
  refine br_intro (fun hb => ?_) (fun hb => ?_)
  · refine ⟨rfl, ?_⟩
    have hb' : l.length ≤ i / 64 := by simp at hb; omega
    rw [hx, getD_ge _ 0 hb']
    simp
  · have hb' : i / 64 < l.length := by simp at hb; omega
    refine ldN h (by omega) (by omega) ?_
    refine semShr (by omega) ?_
    rw [Int.toNat_natCast]
    have hlt := ok_getD ol (by omega : 0 < B64) (i / 64)
    generalize l.getD (i / 64) 0 = d at *
    have hd : d / 2 ^ (i % 64) < B64 := Nat.lt_of_le_of_lt (Nat.div_le_self _ _) hlt
    rw [show (1 : Int) = ((1 : Nat) : Int) from rfl, andI_nat hd (by omega), Nat.and_one_is_mod, hx, wrap_i64 (by omega) (by omega)]
    exact ⟨rfl, rfl⟩

end Nat
end Go.Proofs.YtahbekmnphkiiaaDoor
namespace Go.Proofs.YtahbekmnphkiiaaDoor
open Go Go.RowKit Eng
set_option linter.unusedVariables false

set_option maxRecDepth 100000 in
/-- surd/surdref06.Of: function 15. -/
theorem surdref06_Of_vc (a0_neg : Bool) (a1_limbs : Slc) (w : World) (R : Ending → World → Prop)
    
    (h : newC w #[Value.bool false, (⟨none, 0, 0⟩ : Slc).v] 27 fun ad1 w1 =>
    Calls Tryd.prog 47 #[a1_limbs.v] w1 fun e1 w2 =>
    ∃ s1 : Slc, e1 = .returned s1.v ∧
    (Calls Tryd.prog 46 #[Value.bool a0_neg, s1.v] w2 fun e2 w3 =>
     ∃ b1 : Bool, ∃ s2 : Slc, e2 = .returned (Value.agg #[Value.bool b1, s2.v]) ∧
     (stC ad1 (Value.bool b1) w3 fun w4 =>
      stC (ad1.add 1) s2.v w4 fun w5 =>
      ldB ad1 w5 fun b2 =>
      ldS (ad1.add 1) w5 fun s3 =>
      R (.returned (Value.agg #[Value.bool b2, s3.v])) w5))) :
    Calls Tryd.prog 15 #[Value.bool a0_neg, a1_limbs.v] w R := by
  refine calls_of_vc (fun _ => none) (by kernel_rfl) Tryd.func15 rfl ?_ ?_
  · refine kcast h ?_; kernel_rfl
  · exact (obl_seq rfl (obl_reg (obl_seq rfl (obl_reg (obl_ret trivial)))))

set_option maxRecDepth 100000 in
/-- (surd/surdref06.Z).Is: function 59. -/
theorem surdref06_Z_Is_vc (a0_a_0 : Bool) (a0_a_1 : Slc) (a1_neg : Bool) (a2_limbs : Slc) (w : World) (R : Ending → World → Prop)
    
    (h : newC w #[Value.bool a0_a_0, a0_a_1.v] 27 fun ad1 w1 =>
    ldB ad1 w1 fun b1 =>
    br (b1 == a1_neg)
    (ldS (ad1.add 1) w1 fun s1 =>
     Calls Tryd.prog 84 #[s1.v, a2_limbs.v] w1 fun e1 w2 =>
     ∃ b2 : Bool, e1 = .returned (Value.bool b2) ∧
     (R (.returned (Value.bool b2)) w2))
    (R (.returned (Value.bool false)) w1)) :
    Calls Tryd.prog 59 #[Value.agg #[Value.bool a0_a_0, a0_a_1.v], Value.bool a1_neg, a2_limbs.v] w R := by
  refine calls_of_vc (fun _ => none) (by kernel_rfl) Tryd.func59 rfl ?_ ?_
  · refine kcast h ?_; kernel_rfl
  · exact (obl_seq rfl (obl_reg (obl_seq rfl (obl_reg (obl_ret trivial)))))

set_option maxRecDepth 100000 in
/-- surd/surdref06.make1: function 46. -/
theorem surdref06_make1_vc (a0_neg : Bool) (a1_n : Slc) (w : World) (R : Ending → World → Prop)
    
    (h : newC w #[Value.bool false, (⟨none, 0, 0⟩ : Slc).v] 27 fun ad1 w1 =>
    br a0_neg
    (Calls Tryd.prog 69 #[a1_n.v] w1 fun e1 w2 =>
     ∃ b1 : Bool, e1 = .returned (Value.bool b1) ∧
     (stC ad1 (Value.bool (!b1)) w2 fun w3 =>
      stC (ad1.add 1) a1_n.v w3 fun w4 =>
      ldB ad1 w4 fun b2 =>
      ldS (ad1.add 1) w4 fun s1 =>
      R (.returned (Value.agg #[Value.bool b2, s1.v])) w4))
    (stC ad1 (Value.bool false) w1 fun w5 =>
     stC (ad1.add 1) a1_n.v w5 fun w6 =>
     ldB ad1 w6 fun b3 =>
     ldS (ad1.add 1) w6 fun s2 =>
     R (.returned (Value.agg #[Value.bool b3, s2.v])) w6)) :
    Calls Tryd.prog 46 #[Value.bool a0_neg, a1_n.v] w R := by
  refine calls_of_vc (fun _ => none) (by kernel_rfl) Tryd.func46 rfl ?_ ?_
  · refine kcast h ?_; kernel_rfl
  · exact (obl_seq rfl (obl_reg (obl_seq rfl (obl_reg (obl_ret trivial)))))

set_option maxRecDepth 100000 in
/-- surd/surdref08.Int: function 34. -/
theorem surdref08_Int_vc (a0_v : Int) (a1_e : Int) (w : World) (R : Ending → World → Prop)
    
    (h : newC w #[Value.bool false, (⟨none, 0, 0⟩ : Slc).v, Value.int .i64 0] 29 fun ad1 w1 =>
    Calls Tryd.prog 62 #[Value.int .i64 a0_v] w1 fun e1 w2 =>
    ∃ b1 : Bool, ∃ s1 : Slc, e1 = .returned (Value.agg #[Value.bool b1, s1.v]) ∧
    (Calls Tryd.prog 14 #[Value.agg #[Value.bool b1, s1.v], Value.int .i64 a1_e] w2 fun e2 w3 =>
     ∃ b2 : Bool, ∃ s2 : Slc, ∃ x1 : Int, e2 = .returned (Value.agg #[Value.bool b2, s2.v, Value.int .i64 x1]) ∧
     (stC ad1 (Value.bool b2) w3 fun w4 =>
      stC (ad1.add 1) s2.v w4 fun w5 =>
      stC (ad1.add 2) (Value.int .i64 x1) w5 fun w6 =>
      ldB ad1 w6 fun b3 =>
      ldS (ad1.add 1) w6 fun s3 =>
      ldI .i64 (ad1.add 2) w6 fun x2 =>
      R (.returned (Value.agg #[Value.bool b3, s3.v, Value.int .i64 x2])) w6))) :
    Calls Tryd.prog 34 #[Value.int .i64 a0_v, Value.int .i64 a1_e] w R := by
  refine calls_of_vc (fun _ => none) (by kernel_rfl) Tryd.func34 rfl ?_ ?_
  · refine kcast h ?_; kernel_rfl
  · exact (obl_seq rfl (obl_reg (obl_seq rfl (obl_reg (obl_ret trivial)))))

set_option maxRecDepth 100000 in
/-- surd/surdref08.Of: function 14. -/
theorem surdref08_Of_vc (a0_m_0 : Bool) (a0_m_1 : Slc) (a1_e : Int) (w : World) (R : Ending → World → Prop)
    
    (h : newC w #[Value.bool a0_m_0, a0_m_1.v] 27 fun ad1 w1 =>
    newC w1 #[Value.bool false, (⟨none, 0, 0⟩ : Slc).v, Value.int .i64 0] 29 fun ad2 w2 =>
    ldB ad1 w2 fun b1 =>
    ldS (ad1.add 1) w2 fun s1 =>
    Calls Tryd.prog 43 #[Value.agg #[Value.bool b1, s1.v]] w2 fun e1 w3 =>
    ∃ x1 : Int, e1 = .returned (Value.int .i64 x1) ∧
    (br (x1 == 0)
     (stC ad2 (Value.bool false) w3 fun w4 =>
      stC (ad2.add 1) ((⟨none, 0, 0⟩ : Slc).v) w4 fun w5 =>
      stC (ad2.add 2) (Value.int .i64 0) w5 fun w6 =>
      ldB ad2 w6 fun b2 =>
      ldS (ad2.add 1) w6 fun s2 =>
      ldI .i64 (ad2.add 2) w6 fun x2 =>
      R (.returned (Value.agg #[Value.bool b2, s2.v, Value.int .i64 x2])) w6)
     (ldS (ad1.add 1) w3 fun s3 =>
      Calls Tryd.prog 44 #[s3.v] w3 fun e2 w7 =>
      ∃ x3 : Int, e2 = .returned (Value.int .i64 x3) ∧
      (ldB ad1 w7.drew fun b3 =>
       ldS (ad1.add 1) w7.drew fun s4 =>
       Calls Tryd.prog 45 #[s4.v, Value.int .i64 x3] w7.drew fun e3 w8 =>
       ∃ s5 : Slc, e3 = .returned s5.v ∧
       (Ahead w7.drew w8 ∧
        (stC ad2 (Value.bool b3) w8 fun w9 =>
         stC (ad2.add 1) s5.v w9 fun w10 =>
         stC (ad2.add 2) (Value.int .i64 (IntKind.i64.wrap (a1_e + x3))) w10 fun w11 =>
         ldB ad2 w11 fun b4 =>
         ldS (ad2.add 1) w11 fun s6 =>
         ldI .i64 (ad2.add 2) w11 fun x4 =>
         R (.returned (Value.agg #[Value.bool b4, s6.v, Value.int .i64 x4])) w11)))))) :
    Calls Tryd.prog 14 #[Value.agg #[Value.bool a0_m_0, a0_m_1.v], Value.int .i64 a1_e] w R := by
  refine calls_of_vc (fun _ => none) (by kernel_rfl) Tryd.func14 rfl ?_ ?_
  · refine kcast h ?_; kernel_rfl
  · exact (obl_seq rfl (obl_reg (obl_seq rfl (obl_seq rfl (obl_reg (obl_cond (obl_seq rfl (obl_reg (obl_ret (obl_skip (obl_seq rfl (obl_reg (obl_seq rfl (obl_held (by kernel_rfl) (by kernel_rfl) (by kernel_rfl) (obl_ret trivial)))))))))))))))

set_option maxRecDepth 100000 in
/-- (surd/surdref08.D).Is: function 35. -/
theorem surdref08_D_Is_vc (a0_d_0 : Bool) (a0_d_1 : Slc) (a0_d_2 : Int) (a1_neg : Bool) (a2_limbs : Slc) (a3_e : Int) (w : World) (R : Ending → World → Prop)
    
    (h : newC w #[Value.bool a0_d_0, a0_d_1.v, Value.int .i64 a0_d_2] 29 fun ad1 w1 =>
    ldB ad1 w1 fun b1 =>
    ldS (ad1.add 1) w1 fun s1 =>
    Calls Tryd.prog 59 #[Value.agg #[Value.bool b1, s1.v], Value.bool a1_neg, a2_limbs.v] w1 fun e1 w2 =>
    ∃ b2 : Bool, e1 = .returned (Value.bool b2) ∧
    (br b2
     (ldI .i64 (ad1.add 2) w2 fun x1 =>
      R (.returned (Value.bool (x1 == a3_e))) w2)
     (R (.returned (Value.bool false)) w2))) :
    Calls Tryd.prog 35 #[Value.agg #[Value.bool a0_d_0, a0_d_1.v, Value.int .i64 a0_d_2], Value.bool a1_neg, a2_limbs.v, Value.int .i64 a3_e] w R := by
  refine calls_of_vc (fun _ => none) (by kernel_rfl) Tryd.func35 rfl ?_ ?_
  · refine kcast h ?_; kernel_rfl
  · exact (obl_seq rfl (obl_reg (obl_seq rfl (obl_reg (obl_ret trivial)))))

set_option maxRecDepth 100000 in
/-- surd/surdref06.Int: function 62. -/
theorem surdref06_Int_vc (a0_v : Int) (w : World) (R : Ending → World → Prop)
    
    (h : newC w #[Value.bool false, (⟨none, 0, 0⟩ : Slc).v] 27 fun ad1 w1 =>
    br (decide (a0_v < 0))
    (newC w1 #[Value.int .u64 (IntKind.u64.wrap ((IntKind.u64.wrap (IntKind.i64.wrap (0 - (IntKind.i64.wrap (a0_v + 1))))) + 1))] 47 fun ad2 w2 =>
     Calls Tryd.prog 47 #[(⟨some ad2, 1, 1⟩ : Slc).v] w2 fun e1 w3 =>
     ∃ s1 : Slc, e1 = .returned s1.v ∧
     (Calls Tryd.prog 46 #[Value.bool true, s1.v] w3 fun e2 w4 =>
      ∃ b1 : Bool, ∃ s2 : Slc, e2 = .returned (Value.agg #[Value.bool b1, s2.v]) ∧
      (stC ad1 (Value.bool b1) w4 fun w5 =>
       stC (ad1.add 1) s2.v w5 fun w6 =>
       ldB ad1 w6 fun b2 =>
       ldS (ad1.add 1) w6 fun s3 =>
       R (.returned (Value.agg #[Value.bool b2, s3.v])) w6)))
    (Calls Tryd.prog 51 #[Value.int .i64 a0_v] w1 fun e3 w7 =>
     ∃ s4 : Slc, e3 = .returned s4.v ∧
     (Calls Tryd.prog 46 #[Value.bool false, s4.v] w7 fun e4 w8 =>
      ∃ b3 : Bool, ∃ s5 : Slc, e4 = .returned (Value.agg #[Value.bool b3, s5.v]) ∧
      (stC ad1 (Value.bool b3) w8 fun w9 =>
       stC (ad1.add 1) s5.v w9 fun w10 =>
       ldB ad1 w10 fun b4 =>
       ldS (ad1.add 1) w10 fun s6 =>
       R (.returned (Value.agg #[Value.bool b4, s6.v])) w10)))) :
    Calls Tryd.prog 62 #[Value.int .i64 a0_v] w R := by
  refine calls_of_vc (fun _ => none) (by kernel_rfl) Tryd.func62 rfl ?_ ?_
  · refine kcast h ?_; kernel_rfl
  · exact (obl_seq rfl (obl_reg (obl_seq rfl (obl_seq rfl (obl_reg (obl_cond (obl_seq rfl (obl_reg (obl_ret (obl_skip (obl_seq rfl (obl_reg (obl_ret trivial)))))))))))))

set_option maxRecDepth 100000 in
/-- (surd/surdref06.Z).Sign: function 43. -/
theorem surdref06_Z_Sign_vc (a0_a_0 : Bool) (a0_a_1 : Slc) (w : World) (R : Ending → World → Prop)
    
    (h : newC w #[Value.bool a0_a_0, a0_a_1.v] 27 fun ad1 w1 =>
    ldB ad1 w1 fun b1 =>
    br b1
    (R (.returned (Value.int .i64 (-1))) w1)
    (ldS (ad1.add 1) w1 fun s1 =>
     Calls Tryd.prog 69 #[s1.v] w1 fun e1 w2 =>
     ∃ b2 : Bool, e1 = .returned (Value.bool b2) ∧
     (br b2
      (R (.returned (Value.int .i64 0)) w2)
      (R (.returned (Value.int .i64 1)) w2)))) :
    Calls Tryd.prog 43 #[Value.agg #[Value.bool a0_a_0, a0_a_1.v]] w R := by
  refine calls_of_vc (fun _ => none) (by kernel_rfl) Tryd.func43 rfl ?_ ?_
  · refine kcast h ?_; kernel_rfl
  · exact (obl_seq rfl (obl_reg (obl_seq rfl (obl_seq rfl (obl_reg (obl_cond (obl_seq rfl (obl_reg (obl_ret (obl_skip (obl_seq rfl (obl_seq rfl (obl_reg (obl_cond (obl_seq rfl (obl_reg (obl_ret (obl_skip (obl_seq rfl (obl_reg (obl_ret trivial)))))))))))))))))))))

def surdref01_Num_Tail_cut (J0 : Slc → Int → World → Prop) (m0 : Slc → Int → World → Nat) : Nat → Option ((Act → World → Prop) × (Act → World → Nat))
  | 0 => some (fun a_ w_ => atSz a_ 14 (atS a_ 0 fun t0_a => atI .i64 a_ 3 fun t3_n => J0 t0_a t3_n w_), fun a_ w_ => mS a_ 0 fun t0_a => mI a_ 3 fun t3_n => m0 t0_a t3_n w_)
  | _ => none

set_option maxRecDepth 100000 in
/-- (surd/surdref01.Num).Tail: function 44. -/
theorem surdref01_Num_Tail_vc (a0_a : Slc) (w : World) (R : Ending → World → Prop)
    (J0 : Slc → Int → World → Prop) (m0 : Slc → Int → World → Nat)
    (h : br ((a0_a.n : Int) == 0)
    (R (.returned (Value.int .i64 0)) w)
    (J0 a0_a 0 w))
    (h0 : ∀ (t0_a : Slc) (t3_n : Int) (w_ : World), J0 t0_a t3_n w_ → 
    Calls Tryd.prog 70 #[t0_a.v, Value.int .i64 t3_n] w_ fun e1 w1 =>
    ∃ x1 : Int, e1 = .returned (Value.int .i64 x1) ∧
    (br (x1 == 0)
     (J0 t0_a (IntKind.i64.wrap (t3_n + 1)) w1 ∧
      m0 t0_a (IntKind.i64.wrap (t3_n + 1)) w1 < m0 t0_a t3_n w_)
     (R (.returned (Value.int .i64 t3_n)) w1))) :
    Calls Tryd.prog 44 #[a0_a.v] w R := by
  refine calls_of_vc (surdref01_Num_Tail_cut J0 m0) (by kernel_rfl) Tryd.func44 rfl ?_ ?_
  · refine kcast h ?_; kernel_rfl
  · exact (obl_seq rfl (obl_reg (obl_seq rfl (obl_seq rfl (obl_reg (obl_cond (obl_seq rfl (obl_reg (obl_ret (obl_skip (obl_seq rfl (obl_reg (obl_seq rfl (obl_loop _ rfl (fun a_ w_ hL_ => (by
    obtain ⟨hz_, hd_, hL_⟩ := atSz_out hL_
    obtain ⟨t0_a, h0_, hL_⟩ := atS_out hL_
    obtain ⟨t3_n, h3_, hL_⟩ := atI_out hL_
    obtain ⟨g0, rfl⟩ : ∃ g, a_ = Fr 14 [(0, t0_a.v), (3, Value.int .i64 t3_n)] g := ⟨_, fr_of hz_ hd_ [(0, t0_a.v), (3, Value.int .i64 t3_n)] (sel_cons h0_ (sel_cons h3_ sel_nil))⟩
    clear hz_ hd_ h0_ h3_
    have hJ0_ := hL_
    refine ⟨(fun _ => none), kcast (h0 t0_a t3_n w_ hJ0_) ?_, ?_⟩
    · kernel_rfl
    · exact (obl_seq rfl (obl_seq rfl (obl_reg (obl_cond (obl_skip (obl_exit (obl_blk rfl (obl_reg trivial)))))))))) (obl_seq rfl (obl_reg (obl_ret trivial)))))))))))))))))

set_option maxRecDepth 100000 in
/-- surd/surdref08.Told: function 48. -/
theorem surdref08_Told_vc (a0_d_0 : Bool) (a0_d_1 : Slc) (a0_d_2 : Int) (w : World) (R : Ending → World → Prop)
    
    (h : newC w #[Value.bool a0_d_0, a0_d_1.v, Value.int .i64 a0_d_2] 29 fun ad1 w1 =>
    newC w1 #[Value.bool false, (⟨none, 0, 0⟩ : Slc).v, Value.int .i64 0] 29 fun ad2 w2 =>
    ldS (ad1.add 1) w2 fun s1 =>
    Calls Tryd.prog 49 #[s1.v] w2 fun e1 w3 =>
    ∃ x1 : Int, e1 = .returned (Value.int .i64 x1) ∧
    (br (decide (x1 > 67108864))
     (stC ad2 (Value.bool false) w3 fun w4 =>
      stC (ad2.add 1) ((⟨none, 0, 0⟩ : Slc).v) w4 fun w5 =>
      stC (ad2.add 2) (Value.int .i64 0) w5 fun w6 =>
      ldB ad2 w6 fun b1 =>
      ldS (ad2.add 1) w6 fun s2 =>
      ldI .i64 (ad2.add 2) w6 fun x2 =>
      R (.returned (Value.tuple #[Value.agg #[Value.bool b1, s2.v, Value.int .i64 x2], Value.int .i64 3])) w6)
     (ldI .i64 (ad1.add 2) w3 fun x3 =>
      Calls Tryd.prog 32 #[Value.int .i64 x3] w3 fun e2 w7 =>
      ∃ b2 : Bool, e2 = .returned (Value.bool b2) ∧
      (br (!b2)
       (stC ad2 (Value.bool false) w7 fun w8 =>
        stC (ad2.add 1) ((⟨none, 0, 0⟩ : Slc).v) w8 fun w9 =>
        stC (ad2.add 2) (Value.int .i64 0) w9 fun w10 =>
        ldB ad2 w10 fun b3 =>
        ldS (ad2.add 1) w10 fun s3 =>
        ldI .i64 (ad2.add 2) w10 fun x4 =>
        R (.returned (Value.tuple #[Value.agg #[Value.bool b3, s3.v, Value.int .i64 x4], Value.int .i64 80])) w10)
       (ldB ad1 w7 fun b4 =>
        ldS (ad1.add 1) w7 fun s4 =>
        ldI .i64 (ad1.add 2) w7 fun x5 =>
        stC ad2 (Value.bool b4) w7 fun w11 =>
        stC (ad2.add 1) s4.v w11 fun w12 =>
        stC (ad2.add 2) (Value.int .i64 x5) w12 fun w13 =>
        ldB ad2 w13 fun b5 =>
        ldS (ad2.add 1) w13 fun s5 =>
        ldI .i64 (ad2.add 2) w13 fun x6 =>
        R (.returned (Value.tuple #[Value.agg #[Value.bool b5, s5.v, Value.int .i64 x6], Value.int .i64 0])) w13))))) :
    Calls Tryd.prog 48 #[Value.agg #[Value.bool a0_d_0, a0_d_1.v, Value.int .i64 a0_d_2]] w R := by
  refine calls_of_vc (fun _ => none) (by kernel_rfl) Tryd.func48 rfl ?_ ?_
  · refine kcast h ?_; kernel_rfl
  · exact (obl_seq rfl (obl_reg (obl_seq rfl (obl_seq rfl (obl_reg (obl_cond (obl_seq rfl (obl_reg (obl_ret (obl_skip (obl_seq rfl (obl_seq rfl (obl_reg (obl_cond (obl_seq rfl (obl_reg (obl_ret (obl_skip (obl_seq rfl (obl_reg (obl_ret trivial)))))))))))))))))))))

set_option maxRecDepth 100000 in
/-- surd/surdref08.Fits: function 32. -/
theorem surdref08_Fits_vc (a0_e : Int) (w : World) (R : Ending → World → Prop)
    
    (h : br (decide (a0_e ≥ (-1099511627776)))
    (R (.returned (Value.bool (decide (a0_e ≤ 1099511627776)))) w)
    (R (.returned (Value.bool false)) w)) :
    Calls Tryd.prog 32 #[Value.int .i64 a0_e] w R := by
  refine calls_of_vc (fun _ => none) (by kernel_rfl) Tryd.func32 rfl ?_ ?_
  · refine kcast h ?_; kernel_rfl
  · exact (obl_seq rfl (obl_reg (obl_seq rfl (obl_reg (obl_ret trivial)))))

set_option maxRecDepth 100000 in
/-- surd/surdref08.Round: function 17. -/
theorem surdref08_Round_vc (a0_0 : Bool) (a0_1 : Slc) (a0_2 : Int) (a1 : Int) (a2 : Int) (w : World) (R : Ending → World → Prop)
    
    (h : newC w #[Value.bool a0_0, a0_1.v, Value.int .i64 a0_2] 29 fun ad1 w1 =>
    newC w1 #[Value.bool false, (⟨none, 0, 0⟩ : Slc).v, Value.int .i64 0] 29 fun ad2 w2 =>
    ldB ad1 w2 fun b1 =>
    ldS (ad1.add 1) w2 fun s1 =>
    Calls Tryd.prog 43 #[Value.agg #[Value.bool b1, s1.v]] w2 fun e1 w3 =>
    ∃ x1 : Int, e1 = .returned (Value.int .i64 x1) ∧
    (br (x1 == 0)
     (ldB ad1 w3 fun b2 =>
      ldS (ad1.add 1) w3 fun s2 =>
      ldI .i64 (ad1.add 2) w3 fun x2 =>
      stC ad2 (Value.bool b2) w3 fun w4 =>
      stC (ad2.add 1) s2.v w4 fun w5 =>
      stC (ad2.add 2) (Value.int .i64 x2) w5 fun w6 =>
      ldB ad2 w6 fun b3 =>
      ldS (ad2.add 1) w6 fun s3 =>
      ldI .i64 (ad2.add 2) w6 fun x3 =>
      R (.returned (Value.agg #[Value.bool b3, s3.v, Value.int .i64 x3])) w6)
     (ldI .i64 (ad1.add 2) w3 fun x4 =>
      br (decide (a1 ≤ x4))
      (ldB ad1 w3 fun b4 =>
       ldS (ad1.add 1) w3 fun s4 =>
       ldI .i64 (ad1.add 2) w3 fun x5 =>
       stC ad2 (Value.bool b4) w3 fun w7 =>
       stC (ad2.add 1) s4.v w7 fun w8 =>
       stC (ad2.add 2) (Value.int .i64 x5) w8 fun w9 =>
       ldB ad2 w9 fun b5 =>
       ldS (ad2.add 1) w9 fun s5 =>
       ldI .i64 (ad2.add 2) w9 fun x6 =>
       R (.returned (Value.agg #[Value.bool b5, s5.v, Value.int .i64 x6])) w9)
      (ldI .i64 (ad1.add 2) w3 fun x7 =>
       ldS (ad1.add 1) w3 fun s6 =>
       Calls Tryd.prog 49 #[s6.v] w3 fun e2 w10 =>
       ∃ x8 : Int, e2 = .returned (Value.int .i64 x8) ∧
       (br (decide ((IntKind.i64.wrap (a1 - x7)) > (IntKind.i64.wrap (x8 + 2))))
        (br (a2 == 0)
         (ldB ad1 w10 fun b6 =>
          br b6
          (Calls Tryd.prog 34 #[Value.int .i64 (-1), Value.int .i64 a1] w10 fun e3 w11 =>
           ∃ b7 : Bool, ∃ s7 : Slc, ∃ x9 : Int, e3 = .returned (Value.agg #[Value.bool b7, s7.v, Value.int .i64 x9]) ∧
           (stC ad2 (Value.bool b7) w11 fun w12 =>
            stC (ad2.add 1) s7.v w12 fun w13 =>
            stC (ad2.add 2) (Value.int .i64 x9) w13 fun w14 =>
            ldB ad2 w14 fun b8 =>
            ldS (ad2.add 1) w14 fun s8 =>
            ldI .i64 (ad2.add 2) w14 fun x10 =>
            R (.returned (Value.agg #[Value.bool b8, s8.v, Value.int .i64 x10])) w14))
          (br (a2 == 1)
           (ldB ad1 w10 fun b9 =>
            br (!b9)
            (Calls Tryd.prog 34 #[Value.int .i64 1, Value.int .i64 a1] w10 fun e4 w15 =>
             ∃ b10 : Bool, ∃ s9 : Slc, ∃ x11 : Int, e4 = .returned (Value.agg #[Value.bool b10, s9.v, Value.int .i64 x11]) ∧
             (stC ad2 (Value.bool b10) w15 fun w16 =>
              stC (ad2.add 1) s9.v w16 fun w17 =>
              stC (ad2.add 2) (Value.int .i64 x11) w17 fun w18 =>
              ldB ad2 w18 fun b11 =>
              ldS (ad2.add 1) w18 fun s10 =>
              ldI .i64 (ad2.add 2) w18 fun x12 =>
              R (.returned (Value.agg #[Value.bool b11, s10.v, Value.int .i64 x12])) w18))
            (stC ad2 (Value.bool false) w10 fun w19 =>
             stC (ad2.add 1) ((⟨none, 0, 0⟩ : Slc).v) w19 fun w20 =>
             stC (ad2.add 2) (Value.int .i64 0) w20 fun w21 =>
             ldB ad2 w21 fun b12 =>
             ldS (ad2.add 1) w21 fun s11 =>
             ldI .i64 (ad2.add 2) w21 fun x13 =>
             R (.returned (Value.agg #[Value.bool b12, s11.v, Value.int .i64 x13])) w21))
           (stC ad2 (Value.bool false) w10 fun w22 =>
            stC (ad2.add 1) ((⟨none, 0, 0⟩ : Slc).v) w22 fun w23 =>
            stC (ad2.add 2) (Value.int .i64 0) w23 fun w24 =>
            ldB ad2 w24 fun b13 =>
            ldS (ad2.add 1) w24 fun s12 =>
            ldI .i64 (ad2.add 2) w24 fun x14 =>
            R (.returned (Value.agg #[Value.bool b13, s12.v, Value.int .i64 x14])) w24)))
         (br (a2 == 1)
          (ldB ad1 w10 fun b14 =>
           br (!b14)
           (Calls Tryd.prog 34 #[Value.int .i64 1, Value.int .i64 a1] w10 fun e5 w25 =>
            ∃ b15 : Bool, ∃ s13 : Slc, ∃ x15 : Int, e5 = .returned (Value.agg #[Value.bool b15, s13.v, Value.int .i64 x15]) ∧
            (stC ad2 (Value.bool b15) w25 fun w26 =>
             stC (ad2.add 1) s13.v w26 fun w27 =>
             stC (ad2.add 2) (Value.int .i64 x15) w27 fun w28 =>
             ldB ad2 w28 fun b16 =>
             ldS (ad2.add 1) w28 fun s14 =>
             ldI .i64 (ad2.add 2) w28 fun x16 =>
             R (.returned (Value.agg #[Value.bool b16, s14.v, Value.int .i64 x16])) w28))
           (stC ad2 (Value.bool false) w10 fun w29 =>
            stC (ad2.add 1) ((⟨none, 0, 0⟩ : Slc).v) w29 fun w30 =>
            stC (ad2.add 2) (Value.int .i64 0) w30 fun w31 =>
            ldB ad2 w31 fun b17 =>
            ldS (ad2.add 1) w31 fun s15 =>
            ldI .i64 (ad2.add 2) w31 fun x17 =>
            R (.returned (Value.agg #[Value.bool b17, s15.v, Value.int .i64 x17])) w31))
          (stC ad2 (Value.bool false) w10 fun w32 =>
           stC (ad2.add 1) ((⟨none, 0, 0⟩ : Slc).v) w32 fun w33 =>
           stC (ad2.add 2) (Value.int .i64 0) w33 fun w34 =>
           ldB ad2 w34 fun b18 =>
           ldS (ad2.add 1) w34 fun s16 =>
           ldI .i64 (ad2.add 2) w34 fun x18 =>
           R (.returned (Value.agg #[Value.bool b18, s16.v, Value.int .i64 x18])) w34)))
        (Calls Tryd.prog 51 #[Value.int .i64 1] w10 fun e6 w35 =>
         ∃ s17 : Slc, e6 = .returned s17.v ∧
         (Calls Tryd.prog 50 #[s17.v, Value.int .i64 (IntKind.i64.wrap (a1 - x7))] w35 fun e7 w36 =>
          ∃ s18 : Slc, e7 = .returned s18.v ∧
          (newC w36 #[Value.bool false, (⟨none, 0, 0⟩ : Slc).v] 27 fun ad3 w37 =>
           stC ad3 (Value.bool false) w37 fun w38 =>
           stC (ad3.add 1) s18.v w38 fun w39 =>
           newC w39 #[Value.bool false, (⟨none, 0, 0⟩ : Slc).v] 27 fun ad4 w40 =>
           stC ad4 (Value.bool false) w40 fun w41 =>
           stC (ad4.add 1) ((⟨none, 0, 0⟩ : Slc).v) w41 fun w42 =>
           br (a2 == 0)
           (ldB ad1 w42 fun b19 =>
            ldS (ad1.add 1) w42 fun s19 =>
            ldB ad3 w42 fun b20 =>
            ldS (ad3.add 1) w42 fun s20 =>
            Calls Tryd.prog 52 #[Value.agg #[Value.bool b19, s19.v], Value.agg #[Value.bool b20, s20.v]] w42 fun e8 w43 =>
            ∃ b21 : Bool, ∃ s21 : Slc, ∃ b22 : Bool, ∃ s22 : Slc, e8 = .returned (Value.tuple #[Value.agg #[Value.bool b21, s21.v], Value.agg #[Value.bool b22, s22.v]]) ∧
            (stC ad4 (Value.bool b21) w43 fun w44 =>
             stC (ad4.add 1) s21.v w44 fun w45 =>
             ldB ad4 w45 fun b23 =>
             ldS (ad4.add 1) w45 fun s23 =>
             Calls Tryd.prog 14 #[Value.agg #[Value.bool b23, s23.v], Value.int .i64 a1] w45 fun e9 w46 =>
             ∃ b24 : Bool, ∃ s24 : Slc, ∃ x19 : Int, e9 = .returned (Value.agg #[Value.bool b24, s24.v, Value.int .i64 x19]) ∧
             (stC ad2 (Value.bool b24) w46 fun w47 =>
              stC (ad2.add 1) s24.v w47 fun w48 =>
              stC (ad2.add 2) (Value.int .i64 x19) w48 fun w49 =>
              ldB ad2 w49 fun b25 =>
              ldS (ad2.add 1) w49 fun s25 =>
              ldI .i64 (ad2.add 2) w49 fun x20 =>
              R (.returned (Value.agg #[Value.bool b25, s25.v, Value.int .i64 x20])) w49)))
           (br (a2 == 1)
            (ldB ad1 w42 fun b26 =>
             ldS (ad1.add 1) w42 fun s26 =>
             ldB ad3 w42 fun b27 =>
             ldS (ad3.add 1) w42 fun s27 =>
             Calls Tryd.prog 53 #[Value.agg #[Value.bool b26, s26.v], Value.agg #[Value.bool b27, s27.v]] w42 fun e10 w50 =>
             ∃ b28 : Bool, ∃ s28 : Slc, ∃ b29 : Bool, ∃ s29 : Slc, e10 = .returned (Value.tuple #[Value.agg #[Value.bool b28, s28.v], Value.agg #[Value.bool b29, s29.v]]) ∧
             (stC ad4 (Value.bool b28) w50 fun w51 =>
              stC (ad4.add 1) s28.v w51 fun w52 =>
              ldB ad4 w52 fun b30 =>
              ldS (ad4.add 1) w52 fun s30 =>
              Calls Tryd.prog 14 #[Value.agg #[Value.bool b30, s30.v], Value.int .i64 a1] w52 fun e11 w53 =>
              ∃ b31 : Bool, ∃ s31 : Slc, ∃ x21 : Int, e11 = .returned (Value.agg #[Value.bool b31, s31.v, Value.int .i64 x21]) ∧
              (stC ad2 (Value.bool b31) w53 fun w54 =>
               stC (ad2.add 1) s31.v w54 fun w55 =>
               stC (ad2.add 2) (Value.int .i64 x21) w55 fun w56 =>
               ldB ad2 w56 fun b32 =>
               ldS (ad2.add 1) w56 fun s32 =>
               ldI .i64 (ad2.add 2) w56 fun x22 =>
               R (.returned (Value.agg #[Value.bool b32, s32.v, Value.int .i64 x22])) w56)))
            (ldB ad1 w42 fun b33 =>
             ldS (ad1.add 1) w42 fun s33 =>
             ldB ad3 w42 fun b34 =>
             ldS (ad3.add 1) w42 fun s34 =>
             Calls Tryd.prog 54 #[Value.agg #[Value.bool b33, s33.v], Value.agg #[Value.bool b34, s34.v]] w42 fun e12 w57 =>
             ∃ b35 : Bool, ∃ s35 : Slc, ∃ b36 : Bool, ∃ s36 : Slc, e12 = .returned (Value.tuple #[Value.agg #[Value.bool b35, s35.v], Value.agg #[Value.bool b36, s36.v]]) ∧
             (stC ad4 (Value.bool b35) w57 fun w58 =>
              stC (ad4.add 1) s35.v w58 fun w59 =>
              ldB ad4 w59 fun b37 =>
              ldS (ad4.add 1) w59 fun s37 =>
              Calls Tryd.prog 14 #[Value.agg #[Value.bool b37, s37.v], Value.int .i64 a1] w59 fun e13 w60 =>
              ∃ b38 : Bool, ∃ s38 : Slc, ∃ x23 : Int, e13 = .returned (Value.agg #[Value.bool b38, s38.v, Value.int .i64 x23]) ∧
              (stC ad2 (Value.bool b38) w60 fun w61 =>
               stC (ad2.add 1) s38.v w61 fun w62 =>
               stC (ad2.add 2) (Value.int .i64 x23) w62 fun w63 =>
               ldB ad2 w63 fun b39 =>
               ldS (ad2.add 1) w63 fun s39 =>
               ldI .i64 (ad2.add 2) w63 fun x24 =>
               R (.returned (Value.agg #[Value.bool b39, s39.v, Value.int .i64 x24])) w63)))))))))))) :
    Calls Tryd.prog 17 #[Value.agg #[Value.bool a0_0, a0_1.v, Value.int .i64 a0_2], Value.int .i64 a1, Value.int .i64 a2] w R := by
  refine calls_of_vc (fun _ => none) (by kernel_rfl) Tryd.func17 rfl ?_ ?_
  · refine kcast h ?_; kernel_rfl
  · exact (obl_seq rfl (obl_reg (obl_seq rfl (obl_seq rfl (obl_reg (obl_cond (obl_seq rfl (obl_reg (obl_ret (obl_skip (obl_seq rfl (obl_reg (obl_seq rfl (obl_seq rfl (obl_reg (obl_cond (obl_seq rfl (obl_seq rfl (obl_reg (obl_cond (obl_seq rfl (obl_reg (obl_ret (obl_skip (obl_seq rfl (obl_seq rfl (obl_reg (obl_cond (obl_seq rfl (obl_reg (obl_ret (obl_skip (obl_seq rfl (obl_reg (obl_ret (obl_skip (obl_seq rfl (obl_reg (obl_seq rfl (obl_reg (obl_seq rfl (obl_seq rfl (obl_reg (obl_blk rfl (obl_seq rfl (obl_reg (obl_cond (obl_reg (obl_seq rfl (obl_reg (obl_cond (obl_reg (obl_reg (obl_seq rfl (obl_reg (obl_ret trivial))))))))))))))))))))))))))))))))))))))))))))))))))))))))

set_option maxRecDepth 100000 in
/-- surd/surdref08.Abs: function 19. -/
theorem surdref08_Abs_vc (a0_a_0 : Bool) (a0_a_1 : Slc) (a0_a_2 : Int) (w : World) (R : Ending → World → Prop)
    
    (h : newC w #[Value.bool a0_a_0, a0_a_1.v, Value.int .i64 a0_a_2] 29 fun ad1 w1 =>
    newC w1 #[Value.bool false, (⟨none, 0, 0⟩ : Slc).v, Value.int .i64 0] 29 fun ad2 w2 =>
    ldB ad1 w2.drew fun b1 =>
    ldS (ad1.add 1) w2.drew fun s1 =>
    ldI .i64 (ad1.add 2) w2.drew fun x1 =>
    Calls Tryd.prog 56 #[Value.agg #[Value.bool b1, s1.v]] w2.drew fun e1 w3 =>
    ∃ b2 : Bool, ∃ s2 : Slc, e1 = .returned (Value.agg #[Value.bool b2, s2.v]) ∧
    (Ahead w2.drew w3 ∧
     (stC ad2 (Value.bool b2) w3 fun w4 =>
      stC (ad2.add 1) s2.v w4 fun w5 =>
      stC (ad2.add 2) (Value.int .i64 x1) w5 fun w6 =>
      ldB ad2 w6 fun b3 =>
      ldS (ad2.add 1) w6 fun s3 =>
      ldI .i64 (ad2.add 2) w6 fun x2 =>
      R (.returned (Value.agg #[Value.bool b3, s3.v, Value.int .i64 x2])) w6))) :
    Calls Tryd.prog 19 #[Value.agg #[Value.bool a0_a_0, a0_a_1.v, Value.int .i64 a0_a_2]] w R := by
  refine calls_of_vc (fun _ => none) (by kernel_rfl) Tryd.func19 rfl ?_ ?_
  · refine kcast h ?_; kernel_rfl
  · exact (obl_seq rfl (obl_reg (obl_seq rfl (obl_held (by kernel_rfl) (by kernel_rfl) (by kernel_rfl) (obl_ret trivial)))))

set_option maxRecDepth 100000 in
/-- surd/surdref06.Add: function 75. -/
theorem surdref06_Add_vc (a0_a_0 : Bool) (a0_a_1 : Slc) (a1_b_0 : Bool) (a1_b_1 : Slc) (w : World) (R : Ending → World → Prop)
    
    (h : newC w #[Value.bool a0_a_0, a0_a_1.v] 27 fun ad1 w1 =>
    newC w1 #[Value.bool a1_b_0, a1_b_1.v] 27 fun ad2 w2 =>
    newC w2 #[Value.bool false, (⟨none, 0, 0⟩ : Slc).v] 27 fun ad3 w3 =>
    ldB ad1 w3 fun b1 =>
    ldB ad2 w3 fun b2 =>
    br (b1 == b2)
    (ldB ad1 w3.drew fun b3 =>
     ldS (ad1.add 1) w3.drew fun s1 =>
     ldS (ad2.add 1) w3.drew fun s2 =>
     Calls Tryd.prog 96 #[s1.v, s2.v] w3.drew fun e1 w4 =>
     ∃ s3 : Slc, e1 = .returned s3.v ∧
     (Ahead w3.drew w4 ∧
      (Calls Tryd.prog 46 #[Value.bool b3, s3.v] w4 fun e2 w5 =>
       ∃ b4 : Bool, ∃ s4 : Slc, e2 = .returned (Value.agg #[Value.bool b4, s4.v]) ∧
       (Ahead w4 w5 ∧
        (stC ad3 (Value.bool b4) w5 fun w6 =>
         stC (ad3.add 1) s4.v w6 fun w7 =>
         ldB ad3 w7 fun b5 =>
         ldS (ad3.add 1) w7 fun s5 =>
         R (.returned (Value.agg #[Value.bool b5, s5.v])) w7)))))
    (ldS (ad1.add 1) w3 fun s6 =>
     ldS (ad2.add 1) w3 fun s7 =>
     Calls Tryd.prog 76 #[s6.v, s7.v] w3 fun e3 w8 =>
     ∃ x1 : Int, e3 = .returned (Value.int .i64 x1) ∧
     (br (decide (x1 ≥ 0))
      (ldB ad1 w8.drew fun b6 =>
       ldS (ad1.add 1) w8.drew fun s8 =>
       ldS (ad2.add 1) w8.drew fun s9 =>
       Calls Tryd.prog 97 #[s8.v, s9.v] w8.drew fun e4 w9 =>
       ∃ s10 : Slc, e4 = .returned s10.v ∧
       (Ahead w8.drew w9 ∧
        (Calls Tryd.prog 46 #[Value.bool b6, s10.v] w9 fun e5 w10 =>
         ∃ b7 : Bool, ∃ s11 : Slc, e5 = .returned (Value.agg #[Value.bool b7, s11.v]) ∧
         (Ahead w9 w10 ∧
          (stC ad3 (Value.bool b7) w10 fun w11 =>
           stC (ad3.add 1) s11.v w11 fun w12 =>
           ldB ad3 w12 fun b8 =>
           ldS (ad3.add 1) w12 fun s12 =>
           R (.returned (Value.agg #[Value.bool b8, s12.v])) w12)))))
      (ldB ad2 w8.drew fun b9 =>
       ldS (ad2.add 1) w8.drew fun s13 =>
       ldS (ad1.add 1) w8.drew fun s14 =>
       Calls Tryd.prog 97 #[s13.v, s14.v] w8.drew fun e6 w13 =>
       ∃ s15 : Slc, e6 = .returned s15.v ∧
       (Ahead w8.drew w13 ∧
        (Calls Tryd.prog 46 #[Value.bool b9, s15.v] w13 fun e7 w14 =>
         ∃ b10 : Bool, ∃ s16 : Slc, e7 = .returned (Value.agg #[Value.bool b10, s16.v]) ∧
         (Ahead w13 w14 ∧
          (stC ad3 (Value.bool b10) w14 fun w15 =>
           stC (ad3.add 1) s16.v w15 fun w16 =>
           ldB ad3 w16 fun b11 =>
           ldS (ad3.add 1) w16 fun s17 =>
           R (.returned (Value.agg #[Value.bool b11, s17.v])) w16)))))))) :
    Calls Tryd.prog 75 #[Value.agg #[Value.bool a0_a_0, a0_a_1.v], Value.agg #[Value.bool a1_b_0, a1_b_1.v]] w R := by
  refine calls_of_vc (fun _ => none) (by kernel_rfl) Tryd.func75 rfl ?_ ?_
  · refine kcast h ?_; kernel_rfl
  · exact (obl_seq rfl (obl_reg (obl_seq rfl (obl_seq rfl (obl_reg (obl_cond (obl_seq rfl (obl_held (by kernel_rfl) (by kernel_rfl) (by kernel_rfl) (obl_ret (obl_skip (obl_seq rfl (obl_seq rfl (obl_reg (obl_cond (obl_seq rfl (obl_held (by kernel_rfl) (by kernel_rfl) (by kernel_rfl) (obl_ret (obl_skip (obl_seq rfl (obl_held (by kernel_rfl) (by kernel_rfl) (by kernel_rfl) (obl_ret trivial)))))))))))))))))))))

set_option maxRecDepth 100000 in
/-- surd/surdref06.Sub: function 74. -/
theorem surdref06_Sub_vc (a0_a_0 : Bool) (a0_a_1 : Slc) (a1_b_0 : Bool) (a1_b_1 : Slc) (w : World) (R : Ending → World → Prop)
    
    (h : newC w #[Value.bool a0_a_0, a0_a_1.v] 27 fun ad1 w1 =>
    newC w1 #[Value.bool a1_b_0, a1_b_1.v] 27 fun ad2 w2 =>
    newC w2 #[Value.bool false, (⟨none, 0, 0⟩ : Slc).v] 27 fun ad3 w3 =>
    ldB ad1 w3.drew fun b1 =>
    ldS (ad1.add 1) w3.drew fun s1 =>
    ldB ad2 w3.drew fun b2 =>
    ldS (ad2.add 1) w3.drew fun s2 =>
    Calls Tryd.prog 98 #[Value.agg #[Value.bool b2, s2.v]] w3.drew fun e1 w4 =>
    ∃ b3 : Bool, ∃ s3 : Slc, e1 = .returned (Value.agg #[Value.bool b3, s3.v]) ∧
    (Ahead w3.drew w4 ∧
     (Calls Tryd.prog 75 #[Value.agg #[Value.bool b1, s1.v], Value.agg #[Value.bool b3, s3.v]] w4 fun e2 w5 =>
      ∃ b4 : Bool, ∃ s4 : Slc, e2 = .returned (Value.agg #[Value.bool b4, s4.v]) ∧
      (Ahead w4 w5 ∧
       (stC ad3 (Value.bool b4) w5 fun w6 =>
        stC (ad3.add 1) s4.v w6 fun w7 =>
        ldB ad3 w7 fun b5 =>
        ldS (ad3.add 1) w7 fun s5 =>
        R (.returned (Value.agg #[Value.bool b5, s5.v])) w7))))) :
    Calls Tryd.prog 74 #[Value.agg #[Value.bool a0_a_0, a0_a_1.v], Value.agg #[Value.bool a1_b_0, a1_b_1.v]] w R := by
  refine calls_of_vc (fun _ => none) (by kernel_rfl) Tryd.func74 rfl ?_ ?_
  · refine kcast h ?_; kernel_rfl
  · exact (obl_seq rfl (obl_reg (obl_seq rfl (obl_held (by kernel_rfl) (by kernel_rfl) (by kernel_rfl) (obl_ret trivial)))))

set_option maxRecDepth 100000 in
/-- surd/surdref06.Mul: function 55. -/
theorem surdref06_Mul_vc (a0_a_0 : Bool) (a0_a_1 : Slc) (a1_b_0 : Bool) (a1_b_1 : Slc) (w : World) (R : Ending → World → Prop)
    
    (h : newC w #[Value.bool a0_a_0, a0_a_1.v] 27 fun ad1 w1 =>
    newC w1 #[Value.bool a1_b_0, a1_b_1.v] 27 fun ad2 w2 =>
    newC w2 #[Value.bool false, (⟨none, 0, 0⟩ : Slc).v] 27 fun ad3 w3 =>
    ldB ad1 w3.drew fun b1 =>
    ldB ad2 w3.drew fun b2 =>
    ldS (ad1.add 1) w3.drew fun s1 =>
    ldS (ad2.add 1) w3.drew fun s2 =>
    Calls Tryd.prog 77 #[s1.v, s2.v] w3.drew fun e1 w4 =>
    ∃ s3 : Slc, e1 = .returned s3.v ∧
    (Ahead w3.drew w4 ∧
     (Calls Tryd.prog 46 #[Value.bool (!(b1 == b2)), s3.v] w4 fun e2 w5 =>
      ∃ b3 : Bool, ∃ s4 : Slc, e2 = .returned (Value.agg #[Value.bool b3, s4.v]) ∧
      (Ahead w4 w5 ∧
       (stC ad3 (Value.bool b3) w5 fun w6 =>
        stC (ad3.add 1) s4.v w6 fun w7 =>
        ldB ad3 w7 fun b4 =>
        ldS (ad3.add 1) w7 fun s5 =>
        R (.returned (Value.agg #[Value.bool b4, s5.v])) w7))))) :
    Calls Tryd.prog 55 #[Value.agg #[Value.bool a0_a_0, a0_a_1.v], Value.agg #[Value.bool a1_b_0, a1_b_1.v]] w R := by
  refine calls_of_vc (fun _ => none) (by kernel_rfl) Tryd.func55 rfl ?_ ?_
  · refine kcast h ?_; kernel_rfl
  · exact (obl_seq rfl (obl_reg (obl_seq rfl (obl_held (by kernel_rfl) (by kernel_rfl) (by kernel_rfl) (obl_ret trivial)))))

def surdref06_Floor_cut (K5 : Addr → Addr → Addr → Addr → Addr → Bool → World → Prop) (K6 : Addr → Addr → Addr → Addr → Addr → World → Prop) : Nat → Option ((Act → World → Prop) × (Act → World → Nat))
  | 3000005 => some (fun a_ w_ => atSz a_ 43 (atA a_ 2 fun t2_a => atA a_ 3 fun t3_b => atA a_ 4 fun t4 => atA a_ 5 fun t5 => atA a_ 8 fun t8_x => atB a_ 33 fun t33 => K5 t2_a t3_b t4 t5 t8_x t33 w_), fun _ _ => 0)
  | 3000006 => some (fun a_ w_ => atSz a_ 43 (atA a_ 2 fun t2_a => atA a_ 3 fun t3_b => atA a_ 4 fun t4 => atA a_ 5 fun t5 => atA a_ 8 fun t8_x => K6 t2_a t3_b t4 t5 t8_x w_), fun _ _ => 0)
  | _ => none

set_option maxRecDepth 100000 in
/-- surd/surdref06.Floor: function 52. -/
theorem surdref06_Floor_vc (a0_a_0 : Bool) (a0_a_1 : Slc) (a1_b_0 : Bool) (a1_b_1 : Slc) (w : World) (R : Ending → World → Prop)
    (K5 : Addr → Addr → Addr → Addr → Addr → Bool → World → Prop) (K6 : Addr → Addr → Addr → Addr → Addr → World → Prop)
    (h : newC w #[Value.bool a0_a_0, a0_a_1.v] 27 fun ad1 w1 =>
    newC w1 #[Value.bool a1_b_0, a1_b_1.v] 27 fun ad2 w2 =>
    newC w2 #[Value.bool false, (⟨none, 0, 0⟩ : Slc).v] 27 fun ad3 w3 =>
    newC w3 #[Value.bool false, (⟨none, 0, 0⟩ : Slc).v] 27 fun ad4 w4 =>
    ldS (ad1.add 1) w4 fun s1 =>
    ldS (ad2.add 1) w4 fun s2 =>
    Calls Tryd.prog 73 #[s1.v, s2.v] w4 fun e1 w5 =>
    ∃ s3 : Slc, ∃ s4 : Slc, e1 = .returned (Value.tuple #[s3.v, s4.v]) ∧
    (ldB ad1 w5 fun b1 =>
     ldB ad2 w5 fun b2 =>
     Calls Tryd.prog 46 #[Value.bool (!(b1 == b2)), s3.v] w5 fun e2 w6 =>
     ∃ b3 : Bool, ∃ s5 : Slc, e2 = .returned (Value.agg #[Value.bool b3, s5.v]) ∧
     (newC w6 #[Value.bool false, (⟨none, 0, 0⟩ : Slc).v] 27 fun ad5 w7 =>
      stC ad5 (Value.bool b3) w7 fun w8 =>
      stC (ad5.add 1) s5.v w8 fun w9 =>
      Calls Tryd.prog 69 #[s4.v] w9 fun e3 w10 =>
      ∃ b4 : Bool, e3 = .returned (Value.bool b4) ∧
      (br (!b4)
       (ldB ad1 w10 fun b5 =>
        ldB ad2 w10 fun b6 =>
        K5 ad1 ad2 ad3 ad4 ad5 (!(b5 == b6)) w10)
       (K5 ad1 ad2 ad3 ad4 ad5 false w10)))))
    (h3000005 : ∀ (t2_a : Addr) (t3_b : Addr) (t4 : Addr) (t5 : Addr) (t8_x : Addr) (t33 : Bool) (w_ : World), K5 t2_a t3_b t4 t5 t8_x t33 w_ → 
    br t33
    (ldB t8_x w_.drew fun b7 =>
     ldS (t8_x.add 1) w_.drew fun s6 =>
     Calls Tryd.prog 62 #[Value.int .i64 1] w_.drew fun e4 w11 =>
     ∃ b8 : Bool, ∃ s7 : Slc, e4 = .returned (Value.agg #[Value.bool b8, s7.v]) ∧
     (Ahead w_.drew w11 ∧
      (Calls Tryd.prog 74 #[Value.agg #[Value.bool b7, s6.v], Value.agg #[Value.bool b8, s7.v]] w11 fun e5 w12 =>
       ∃ b9 : Bool, ∃ s8 : Slc, e5 = .returned (Value.agg #[Value.bool b9, s8.v]) ∧
       (Ahead w11 w12 ∧
        (stC t8_x (Value.bool b9) w12 fun w13 =>
         stC (t8_x.add 1) s8.v w13 fun w14 =>
         K6 t2_a t3_b t4 t5 t8_x w14)))))
    (K6 t2_a t3_b t4 t5 t8_x w_))
    (h3000006 : ∀ (t2_a : Addr) (t3_b : Addr) (t4 : Addr) (t5 : Addr) (t8_x : Addr) (w_ : World), K6 t2_a t3_b t4 t5 t8_x w_ → 
    ∃ V1 : Nat → Nat → Prop, Out (V1 0) t8_x (ldB t8_x w_.drew fun b10 =>
     ldS (t8_x.add 1) w_.drew fun s9 =>
     Out (V1 1) t2_a (ldB t2_a w_.drew fun b11 =>
      ldS (t2_a.add 1) w_.drew fun s10 =>
      Out (V1 2) t8_x (ldB t8_x w_.drew fun b12 =>
       ldS (t8_x.add 1) w_.drew fun s11 =>
       Out (V1 3) t3_b (ldB t3_b w_.drew fun b13 =>
        ldS (t3_b.add 1) w_.drew fun s12 =>
        Calls Tryd.prog 55 #[Value.agg #[Value.bool b12, s11.v], Value.agg #[Value.bool b13, s12.v]] w_.drew fun e6 w15 =>
        ∃ b14 : Bool, ∃ s13 : Slc, e6 = .returned (Value.agg #[Value.bool b14, s13.v]) ∧
        (Bar (V1 0) w_.drew w15 ∧
         (Bar (V1 1) w_.drew w15 ∧
          (Calls Tryd.prog 74 #[Value.agg #[Value.bool b11, s10.v], Value.agg #[Value.bool b14, s13.v]] w15 fun e7 w16 =>
           ∃ b15 : Bool, ∃ s14 : Slc, e7 = .returned (Value.agg #[Value.bool b15, s14.v]) ∧
           (Bar (V1 0) w15 w16 ∧
            (stC t4 (Value.bool b10) w16 fun w17 =>
             stC (t4.add 1) s9.v w17 fun w18 =>
             stC t5 (Value.bool b15) w18 fun w19 =>
             stC (t5.add 1) s14.v w19 fun w20 =>
             ldB t4 w20 fun b16 =>
             ldS (t4.add 1) w20 fun s15 =>
             ldB t5 w20 fun b17 =>
             ldS (t5.add 1) w20 fun s16 =>
             R (.returned (Value.tuple #[Value.agg #[Value.bool b16, s15.v], Value.agg #[Value.bool b17, s16.v]])) w20)))))))))) :
    Calls Tryd.prog 52 #[Value.agg #[Value.bool a0_a_0, a0_a_1.v], Value.agg #[Value.bool a1_b_0, a1_b_1.v]] w R := by
  refine calls_of_vc (marks [2000005] (surdref06_Floor_cut K5 K6)) (by kernel_rfl) Tryd.func52 rfl ?_ ?_
  · refine kcast h ?_; kernel_rfl
  · exact (obl_seq rfl (obl_reg (obl_seq rfl (obl_reg (obl_seq rfl (obl_reg (obl_join _ rfl (obl_join _ rfl (obl_reg trivial) (fun a_ w_ hL_ => (by
    obtain ⟨hz_, hd_, hL_⟩ := atSz_out hL_
    obtain ⟨t2_a, h2_, hL_⟩ := atA_out hL_
    obtain ⟨t3_b, h3_, hL_⟩ := atA_out hL_
    obtain ⟨t4, h4_, hL_⟩ := atA_out hL_
    obtain ⟨t5, h5_, hL_⟩ := atA_out hL_
    obtain ⟨t8_x, h8_, hL_⟩ := atA_out hL_
    obtain ⟨t33, h33_, hL_⟩ := atB_out hL_
    obtain ⟨g3000005, rfl⟩ : ∃ g, a_ = Fr 43 [(2, Value.pointer (some t2_a)), (3, Value.pointer (some t3_b)), (4, Value.pointer (some t4)), (5, Value.pointer (some t5)), (8, Value.pointer (some t8_x)), (33, Value.bool t33)] g := ⟨_, fr_of hz_ hd_ [(2, Value.pointer (some t2_a)), (3, Value.pointer (some t3_b)), (4, Value.pointer (some t4)), (5, Value.pointer (some t5)), (8, Value.pointer (some t8_x)), (33, Value.bool t33)] (sel_cons h2_ (sel_cons h3_ (sel_cons h4_ (sel_cons h5_ (sel_cons h8_ (sel_cons h33_ sel_nil))))))⟩
    clear hz_ hd_ h2_ h3_ h4_ h5_ h8_ h33_
    have hJ3000005_ := hL_
    refine ⟨(marks [2000005] (surdref06_Floor_cut K5 K6)), kcast (h3000005 t2_a t3_b t4 t5 t8_x t33 w_ hJ3000005_) ?_, ?_⟩
    · kernel_rfl
    · exact (obl_cond (obl_held (by kernel_rfl) (by kernel_rfl) (by kernel_rfl) (obl_skip trivial)))))) (fun a_ w_ hL_ => (by
    obtain ⟨hz_, hd_, hL_⟩ := atSz_out hL_
    obtain ⟨t2_a, h2_, hL_⟩ := atA_out hL_
    obtain ⟨t3_b, h3_, hL_⟩ := atA_out hL_
    obtain ⟨t4, h4_, hL_⟩ := atA_out hL_
    obtain ⟨t5, h5_, hL_⟩ := atA_out hL_
    obtain ⟨t8_x, h8_, hL_⟩ := atA_out hL_
    obtain ⟨g3000006, rfl⟩ : ∃ g, a_ = Fr 43 [(2, Value.pointer (some t2_a)), (3, Value.pointer (some t3_b)), (4, Value.pointer (some t4)), (5, Value.pointer (some t5)), (8, Value.pointer (some t8_x))] g := ⟨_, fr_of hz_ hd_ [(2, Value.pointer (some t2_a)), (3, Value.pointer (some t3_b)), (4, Value.pointer (some t4)), (5, Value.pointer (some t5)), (8, Value.pointer (some t8_x))] (sel_cons h2_ (sel_cons h3_ (sel_cons h4_ (sel_cons h5_ (sel_cons h8_ sel_nil)))))⟩
    clear hz_ hd_ h2_ h3_ h4_ h5_ h8_
    have hJ3000006_ := hL_
    refine ⟨(marks [2000005] (surdref06_Floor_cut K5 K6)), kcast (h3000006 t2_a t3_b t4 t5 t8_x w_ hJ3000006_) ?_, ?_⟩
    · kernel_rfl
    · exact (obl_seq rfl (obl_store _ rfl (by kernel_rfl) (obl_ret trivial))))))))))))

def surdref06_Near_cut (K5 : Addr → Addr → Addr → Addr → Addr → Bool → World → Prop) (K6 : Addr → Addr → Addr → Addr → Addr → World → Prop) : Nat → Option ((Act → World → Prop) × (Act → World → Nat))
  | 3000005 => some (fun a_ w_ => atSz a_ 42 (atA a_ 2 fun t2_a => atA a_ 3 fun t3_b => atA a_ 4 fun t4 => atA a_ 5 fun t5 => atA a_ 6 fun t6_q => atB a_ 32 fun t32 => K5 t2_a t3_b t4 t5 t6_q t32 w_), fun _ _ => 0)
  | 3000006 => some (fun a_ w_ => atSz a_ 42 (atA a_ 2 fun t2_a => atA a_ 3 fun t3_b => atA a_ 4 fun t4 => atA a_ 5 fun t5 => atA a_ 6 fun t6_q => K6 t2_a t3_b t4 t5 t6_q w_), fun _ _ => 0)
  | _ => none

set_option maxRecDepth 100000 in
/-- surd/surdref06.Near: function 54. -/
theorem surdref06_Near_vc (a0_a_0 : Bool) (a0_a_1 : Slc) (a1_b_0 : Bool) (a1_b_1 : Slc) (w : World) (R : Ending → World → Prop)
    (K5 : Addr → Addr → Addr → Addr → Addr → Bool → World → Prop) (K6 : Addr → Addr → Addr → Addr → Addr → World → Prop)
    (h : newC w #[Value.bool a0_a_0, a0_a_1.v] 27 fun ad1 w1 =>
    newC w1 #[Value.bool a1_b_0, a1_b_1.v] 27 fun ad2 w2 =>
    newC w2 #[Value.bool false, (⟨none, 0, 0⟩ : Slc).v] 27 fun ad3 w3 =>
    newC w3 #[Value.bool false, (⟨none, 0, 0⟩ : Slc).v] 27 fun ad4 w4 =>
    ldB ad1 w4 fun b1 =>
    ldS (ad1.add 1) w4 fun s1 =>
    ldB ad2 w4 fun b2 =>
    ldS (ad2.add 1) w4 fun s2 =>
    Calls Tryd.prog 52 #[Value.agg #[Value.bool b1, s1.v], Value.agg #[Value.bool b2, s2.v]] w4 fun e1 w5 =>
    ∃ b3 : Bool, ∃ s3 : Slc, ∃ b4 : Bool, ∃ s4 : Slc, e1 = .returned (Value.tuple #[Value.agg #[Value.bool b3, s3.v], Value.agg #[Value.bool b4, s4.v]]) ∧
    (newC w5 #[Value.bool false, (⟨none, 0, 0⟩ : Slc).v] 27 fun ad5 w6 =>
     newC w6 #[Value.bool false, (⟨none, 0, 0⟩ : Slc).v] 27 fun ad6 w7 =>
     stC ad5 (Value.bool b3) w7 fun w8 =>
     stC (ad5.add 1) s3.v w8 fun w9 =>
     stC ad6 (Value.bool b4) w9 fun w10 =>
     stC (ad6.add 1) s4.v w10 fun w11 =>
     ldS (ad6.add 1) w11.drew fun s5 =>
     ldS (ad2.add 1) w11.drew fun s6 =>
     Calls Tryd.prog 50 #[s5.v, Value.int .i64 1] w11.drew fun e2 w12 =>
     ∃ s7 : Slc, e2 = .returned s7.v ∧
     (Ahead w11.drew w12 ∧
      (Calls Tryd.prog 76 #[s7.v, s6.v] w12 fun e3 w13 =>
       ∃ x1 : Int, e3 = .returned (Value.int .i64 x1) ∧
       (Ahead w12 w13 ∧
        (br (decide (x1 > 0))
         (K5 ad1 ad2 ad3 ad4 ad5 true w13)
         (br (x1 == 0)
          (ldS (ad5.add 1) w13 fun s19 =>
           Calls Tryd.prog 70 #[s19.v, Value.int .i64 0] w13 fun e8 w24 =>
           ∃ x2 : Int, e8 = .returned (Value.int .i64 x2) ∧
           (K5 ad1 ad2 ad3 ad4 ad5 (x2 == 1) w24))
          (K5 ad1 ad2 ad3 ad4 ad5 false w13))))))))
    (h3000005 : ∀ (t2_a : Addr) (t3_b : Addr) (t4 : Addr) (t5 : Addr) (t6_q : Addr) (t32 : Bool) (w_ : World), K5 t2_a t3_b t4 t5 t6_q t32 w_ → 
    br t32
    (ldB t6_q w_.drew fun b5 =>
     ldS (t6_q.add 1) w_.drew fun s8 =>
     Calls Tryd.prog 62 #[Value.int .i64 1] w_.drew fun e4 w14 =>
     ∃ b6 : Bool, ∃ s9 : Slc, e4 = .returned (Value.agg #[Value.bool b6, s9.v]) ∧
     (Ahead w_.drew w14 ∧
      (Calls Tryd.prog 75 #[Value.agg #[Value.bool b5, s8.v], Value.agg #[Value.bool b6, s9.v]] w14 fun e5 w15 =>
       ∃ b7 : Bool, ∃ s10 : Slc, e5 = .returned (Value.agg #[Value.bool b7, s10.v]) ∧
       (Ahead w14 w15 ∧
        (stC t6_q (Value.bool b7) w15 fun w16 =>
         stC (t6_q.add 1) s10.v w16 fun w17 =>
         K6 t2_a t3_b t4 t5 t6_q w17)))))
    (K6 t2_a t3_b t4 t5 t6_q w_))
    (h3000006 : ∀ (t2_a : Addr) (t3_b : Addr) (t4 : Addr) (t5 : Addr) (t6_q : Addr) (w_ : World), K6 t2_a t3_b t4 t5 t6_q w_ → 
    ∃ V1 : Nat → Nat → Prop, Out (V1 0) t6_q (ldB t6_q w_.drew fun b8 =>
     ldS (t6_q.add 1) w_.drew fun s11 =>
     Out (V1 1) t2_a (ldB t2_a w_.drew fun b9 =>
      ldS (t2_a.add 1) w_.drew fun s12 =>
      Out (V1 2) t6_q (ldB t6_q w_.drew fun b10 =>
       ldS (t6_q.add 1) w_.drew fun s13 =>
       Out (V1 3) t3_b (ldB t3_b w_.drew fun b11 =>
        ldS (t3_b.add 1) w_.drew fun s14 =>
        Calls Tryd.prog 55 #[Value.agg #[Value.bool b10, s13.v], Value.agg #[Value.bool b11, s14.v]] w_.drew fun e6 w18 =>
        ∃ b12 : Bool, ∃ s15 : Slc, e6 = .returned (Value.agg #[Value.bool b12, s15.v]) ∧
        (Bar (V1 0) w_.drew w18 ∧
         (Bar (V1 1) w_.drew w18 ∧
          (Calls Tryd.prog 74 #[Value.agg #[Value.bool b9, s12.v], Value.agg #[Value.bool b12, s15.v]] w18 fun e7 w19 =>
           ∃ b13 : Bool, ∃ s16 : Slc, e7 = .returned (Value.agg #[Value.bool b13, s16.v]) ∧
           (Bar (V1 0) w18 w19 ∧
            (stC t4 (Value.bool b8) w19 fun w20 =>
             stC (t4.add 1) s11.v w20 fun w21 =>
             stC t5 (Value.bool b13) w21 fun w22 =>
             stC (t5.add 1) s16.v w22 fun w23 =>
             ldB t4 w23 fun b14 =>
             ldS (t4.add 1) w23 fun s17 =>
             ldB t5 w23 fun b15 =>
             ldS (t5.add 1) w23 fun s18 =>
             R (.returned (Value.tuple #[Value.agg #[Value.bool b14, s17.v], Value.agg #[Value.bool b15, s18.v]])) w23)))))))))) :
    Calls Tryd.prog 54 #[Value.agg #[Value.bool a0_a_0, a0_a_1.v], Value.agg #[Value.bool a1_b_0, a1_b_1.v]] w R := by
  refine calls_of_vc (marks [2000005] (surdref06_Near_cut K5 K6)) (by kernel_rfl) Tryd.func54 rfl ?_ ?_
  · refine kcast h ?_; kernel_rfl
  · exact (obl_seq rfl (obl_reg (obl_seq rfl (obl_reg (obl_seq rfl (obl_held (by kernel_rfl) (by kernel_rfl) (by kernel_rfl) (obl_join _ rfl (obl_join _ rfl (obl_reg trivial) (fun a_ w_ hL_ => (by
    obtain ⟨hz_, hd_, hL_⟩ := atSz_out hL_
    obtain ⟨t2_a, h2_, hL_⟩ := atA_out hL_
    obtain ⟨t3_b, h3_, hL_⟩ := atA_out hL_
    obtain ⟨t4, h4_, hL_⟩ := atA_out hL_
    obtain ⟨t5, h5_, hL_⟩ := atA_out hL_
    obtain ⟨t6_q, h6_, hL_⟩ := atA_out hL_
    obtain ⟨t32, h32_, hL_⟩ := atB_out hL_
    obtain ⟨g3000005, rfl⟩ : ∃ g, a_ = Fr 42 [(2, Value.pointer (some t2_a)), (3, Value.pointer (some t3_b)), (4, Value.pointer (some t4)), (5, Value.pointer (some t5)), (6, Value.pointer (some t6_q)), (32, Value.bool t32)] g := ⟨_, fr_of hz_ hd_ [(2, Value.pointer (some t2_a)), (3, Value.pointer (some t3_b)), (4, Value.pointer (some t4)), (5, Value.pointer (some t5)), (6, Value.pointer (some t6_q)), (32, Value.bool t32)] (sel_cons h2_ (sel_cons h3_ (sel_cons h4_ (sel_cons h5_ (sel_cons h6_ (sel_cons h32_ sel_nil))))))⟩
    clear hz_ hd_ h2_ h3_ h4_ h5_ h6_ h32_
    have hJ3000005_ := hL_
    refine ⟨(marks [2000005] (surdref06_Near_cut K5 K6)), kcast (h3000005 t2_a t3_b t4 t5 t6_q t32 w_ hJ3000005_) ?_, ?_⟩
    · kernel_rfl
    · exact (obl_cond (obl_held (by kernel_rfl) (by kernel_rfl) (by kernel_rfl) (obl_skip trivial)))))) (fun a_ w_ hL_ => (by
    obtain ⟨hz_, hd_, hL_⟩ := atSz_out hL_
    obtain ⟨t2_a, h2_, hL_⟩ := atA_out hL_
    obtain ⟨t3_b, h3_, hL_⟩ := atA_out hL_
    obtain ⟨t4, h4_, hL_⟩ := atA_out hL_
    obtain ⟨t5, h5_, hL_⟩ := atA_out hL_
    obtain ⟨t6_q, h6_, hL_⟩ := atA_out hL_
    obtain ⟨g3000006, rfl⟩ : ∃ g, a_ = Fr 42 [(2, Value.pointer (some t2_a)), (3, Value.pointer (some t3_b)), (4, Value.pointer (some t4)), (5, Value.pointer (some t5)), (6, Value.pointer (some t6_q))] g := ⟨_, fr_of hz_ hd_ [(2, Value.pointer (some t2_a)), (3, Value.pointer (some t3_b)), (4, Value.pointer (some t4)), (5, Value.pointer (some t5)), (6, Value.pointer (some t6_q))] (sel_cons h2_ (sel_cons h3_ (sel_cons h4_ (sel_cons h5_ (sel_cons h6_ sel_nil)))))⟩
    clear hz_ hd_ h2_ h3_ h4_ h5_ h6_
    have hJ3000006_ := hL_
    refine ⟨(marks [2000005] (surdref06_Near_cut K5 K6)), kcast (h3000006 t2_a t3_b t4 t5 t6_q w_ hJ3000006_) ?_, ?_⟩
    · kernel_rfl
    · exact (obl_seq rfl (obl_store _ rfl (by kernel_rfl) (obl_ret trivial))))))))))))

set_option maxRecDepth 100000 in
/-- surd/surdref06.Neg: function 98. -/
theorem surdref06_Neg_vc (a0_a_0 : Bool) (a0_a_1 : Slc) (w : World) (R : Ending → World → Prop)
    
    (h : newC w #[Value.bool a0_a_0, a0_a_1.v] 27 fun ad1 w1 =>
    newC w1 #[Value.bool false, (⟨none, 0, 0⟩ : Slc).v] 27 fun ad2 w2 =>
    ldB ad1 w2 fun b1 =>
    ldS (ad1.add 1) w2 fun s1 =>
    Calls Tryd.prog 46 #[Value.bool (!b1), s1.v] w2 fun e1 w3 =>
    ∃ b2 : Bool, ∃ s2 : Slc, e1 = .returned (Value.agg #[Value.bool b2, s2.v]) ∧
    (stC ad2 (Value.bool b2) w3 fun w4 =>
     stC (ad2.add 1) s2.v w4 fun w5 =>
     ldB ad2 w5 fun b3 =>
     ldS (ad2.add 1) w5 fun s3 =>
     R (.returned (Value.agg #[Value.bool b3, s3.v])) w5)) :
    Calls Tryd.prog 98 #[Value.agg #[Value.bool a0_a_0, a0_a_1.v]] w R := by
  refine calls_of_vc (fun _ => none) (by kernel_rfl) Tryd.func98 rfl ?_ ?_
  · refine kcast h ?_; kernel_rfl
  · exact (obl_seq rfl (obl_reg (obl_seq rfl (obl_reg (obl_ret trivial)))))

set_option maxRecDepth 100000 in
/-- surd/surdref06.Abs: function 56. -/
theorem surdref06_Abs_vc (a0_a_0 : Bool) (a0_a_1 : Slc) (w : World) (R : Ending → World → Prop)
    
    (h : newC w #[Value.bool a0_a_0, a0_a_1.v] 27 fun ad1 w1 =>
    newC w1 #[Value.bool false, (⟨none, 0, 0⟩ : Slc).v] 27 fun ad2 w2 =>
    ldS (ad1.add 1) w2 fun s1 =>
    stC ad2 (Value.bool false) w2 fun w3 =>
    stC (ad2.add 1) s1.v w3 fun w4 =>
    ldB ad2 w4 fun b1 =>
    ldS (ad2.add 1) w4 fun s2 =>
    R (.returned (Value.agg #[Value.bool b1, s2.v])) w4) :
    Calls Tryd.prog 56 #[Value.agg #[Value.bool a0_a_0, a0_a_1.v]] w R := by
  refine calls_of_vc (fun _ => none) (by kernel_rfl) Tryd.func56 rfl ?_ ?_
  · refine kcast h ?_; kernel_rfl
  · exact (obl_seq rfl (obl_reg (obl_seq rfl (obl_reg (obl_ret trivial)))))

end Go.Proofs.YtahbekmnphkiiaaDoor
namespace Go.Proofs.YtahbekmnphkiiaaDoor
open Go Go.RowKit Eng Sp Dg
set_option linter.unusedVariables false
set_option linter.unusedSimpArgs false
set_option maxRecDepth 100000
namespace Nat

/-- A law's answer. -/
def Yes (w : World) (e : Ending) (w' : World) : Prop := e = .returned (.bool true) ∧ Ahead w w'

/-- A literal's slice of one limb. -/
theorem one_rd (w : World) (x : Nat) : Rd .u64 (w.alloc (.cells #[.int .u64 (x : Int)] tU64 (0, 0))) ⟨some ⟨w.heap.size, 0, none⟩, 1, 1⟩ (nn [x]) :=
  Own.rd (t := tU64) (b := w.heap.size) ⟨rfl, [], rfl, by rw [get_alloc]; rfl⟩

end Nat
end Go.Proofs.YtahbekmnphkiiaaDoor
namespace Go.Proofs.YtahbekmnphkiiaaDoor
open Go Go.RowKit Eng Sp Dg
set_option linter.unusedVariables false
set_option linter.unusedSimpArgs false
set_option maxRecDepth 100000
namespace Dy
open _root_.Go.Proofs.YtahbekmnphkiiaaDoor.Nat (ldN OwnNil Num Num.bl OwnNil.mono bigC bigC_ok semShr digs_len_bl Yes andI_nat num_of)
open _root_.Go.Proofs.YtahbekmnphkiiaaDoor.Ref (RN RN.nil Of_spec Is_spec Len_spec zero_spec Int_spec tdiv32 tmod32)
open Sb

theorem bit_digit (U s : Nat) (hs : s < 32) : U % 2 ^ 32 / 2 ^ s % 2 = U / 2 ^ s % 2 := by
  have h : (2 : Nat) ^ 32 = 2 ^ s * (2 * 2 ^ (31 - s)) := by rw [← Nat.pow_succ', ← Nat.pow_add]; congr 1; omega
  rw [h, Nat.mod_mul_right_div_self, Nat.mod_mul_right_mod]
theorem Bit_spec {w : World} {s : Slc} {x : Nat} {i : Nat} (h : RN w s x) (hl : (digs B32 x).length ≤ 2 ^ 46) (hi : i ≤ 9223372036854775807) :
    Calls pr surdref01_Num_Bit_id #[s.v, .int .i64 (i : Int)] w fun e w' => w' = w ∧ e = .returned (.int .i64 ((x / 2 ^ i % 2 : Nat) : Int)) := by
  have hn := h.n
  have ox := ok_digs two32 x
  have vx := val_digs two32 x
  have hB := B32v
  have hp2 : B32 ^ (i / 32) * 2 ^ (i % 32) = 2 ^ i := (pow_split i 32).symm
  have hx : x / 2 ^ i % 2 = (digs B32 x).getD (i / 32) 0 / 2 ^ (i % 32) % 2 := by
    rw [digit (by omega : 0 < B32) _ ox (i / 32), vx, ← hp2, ← Nat.div_div_eq_div_mul, show B32 = 2 ^ 32 from rfl, bit_digit _ _ (Nat.mod_lt _ (by omega))]
  have e0 : ((i : Int)).toNat = i := by omega
  unfold RN at h
  refine surdref01_Num_Bit_vc s i w _ (br_false (by simp) ?_)
  rw [tdiv32 (by omega) (by omega), tmod32 (by omega), e0]
  refine br_intro (fun hb => ?_) (fun hb => ?_)
  · refine ⟨rfl, ?_⟩
    have hb' : (digs B32 x).length ≤ i / 32 := by simp at hb; omega
    rw [hx, getD_ge _ 0 hb']
    simp
  · have hb' : i / 32 < (digs B32 x).length := by simp at hb; omega
    refine ldN h (by omega) (by omega) ?_
    refine semShr (by omega) ?_
    rw [Int.toNat_natCast]
    have hlt := ok_getD ox (by omega : 0 < B32) (i / 32)
    generalize (digs B32 x).getD (i / 32) 0 = d at *
    have hd : d / 2 ^ (i % 32) < B64 := Nat.lt_of_le_of_lt (Nat.div_le_self _ _) (by rw [B64v]; omega)
    rw [show (1 : Int) = ((1 : Nat) : Int) from rfl, andI_nat hd (by rw [B64v]; omega), Nat.and_one_is_mod, hx, wrap_i64 (by omega) (by omega)]
    exact ⟨rfl, rfl⟩

theorem rTail_spec {w : World} {s : Slc} {x : Nat} (h : RN w s x) (hl : (digs B32 x).length ≤ 2 ^ 46) :
    Calls pr surdref01_Num_Tail_id #[s.v] w fun e w' => w' = w ∧ e = .returned (.int .i64 (tz x)) := by
  have hn := h.n
  have hbl : bl x ≤ 2 ^ 51 := by
    have := Ref.bl_len32 (ok_digs two32 x)
    rw [val_digs two32] at this
    omega
  refine surdref01_Num_Tail_vc s w _ (fun t n w' => t = s ∧ w' = w ∧ x ≠ 0 ∧ ∃ j : Nat, n = (j : Int) ∧ j ≤ tz x) (fun _ n _ => (tz x - n).toNat) ?_ ?_
  · refine br_intro (fun hz => ?_) (fun hz => ?_)
    · have hx : x = 0 := by
        have : (digs B32 x).length = 0 := by simp at hz; omega
        rw [← val_digs two32 x, List.length_eq_zero_iff.1 this]; rfl
      subst hx
      exact ⟨rfl, by rw [tz_zero]; rfl⟩
    · refine ⟨rfl, rfl, fun e => ?_, 0, rfl, Nat.zero_le _⟩
      rw [e, digs_zero] at hn
      rw [hn] at hz
      simp at hz
  · rintro t n w1 ⟨rfl, rfl, hx, j, rfl, hj⟩
    have htz := tz_lt hx
    refine Calls.mono (Bit_spec h hl (by omega)) ?_
    rintro e w2 ⟨rfl, rfl⟩
    have e8 : IntKind.i64.wrap ((j : Int) + 1) = ((j + 1 : Nat) : Int) := by rw [wrap_i64 (by omega) (by omega)]; omega
    have hxj : x / 2 ^ j = 2 ^ (tz x - j) * od x := by
      have h1 := od_mul x
      have hp : 0 < 2 ^ j := Nat.pow_pos (by omega)
      conv => lhs; rw [← h1, show tz x = j + (tz x - j) by omega, Nat.pow_add, Nat.mul_assoc]
      rw [Nat.mul_div_cancel_left _ hp]
    refine ⟨_, rfl, br_intro (fun hb => ?_) (fun hb => ?_)⟩
    · have hne : j ≠ tz x := by
        intro he
        rw [hxj, he, Nat.sub_self, Nat.pow_zero, Nat.one_mul, od_odd hx] at hb
        simp at hb
      exact ⟨⟨rfl, rfl, hx, j + 1, e8, by omega⟩, by rw [e8]; omega⟩
    · have he : j = tz x := by
        rcases Nat.lt_or_ge j (tz x) with hlt | hge
        · exfalso
          rw [hxj, show tz x - j = (tz x - j - 1) + 1 by omega, Nat.pow_succ, Nat.mul_comm (2 ^ _), Nat.mul_assoc, Nat.mul_mod_right] at hb
          simp at hb
        · omega
      subst he
      exact ⟨rfl, rfl⟩

theorem make1_spec {w : World} {neg : Bool} {s : Slc} {x : Nat} (h : RN w s x) :
    Calls pr surdref06_make1_id #[.bool neg, s.v] w fun e w' => Ahead w w' ∧ e = .returned (.agg (c2 (nD neg x) s)) ∧ RN w' s x := by
  refine surdref06_make1_vc neg s w _ (newC_b fun b w1 hb h1 hs1 B1 => br_intro (fun hn => ?_) (fun hn => ?_))
  · refine Calls.mono (zero_spec (h.ahead h1)) ?_
    rintro e w2 ⟨rfl, rfl⟩
    refine ⟨_, rfl, ret2 B1 fun w' u _ => ⟨u.ahead h1 (by omega), ?_, u.rd _ _ (h.ahead h1)⟩⟩
    rw [nD, hn]; simp
  · refine ret2 B1 fun w' u _ => ⟨u.ahead h1 (by omega), ?_, u.rd _ _ (h.ahead h1)⟩
    rw [nD, hn]; rfl
theorem zOf_spec {w : World} {neg : Bool} {s : Slc} {l : List Nat} (h : Rd .u64 w s (nn l)) (hl : l.length * 8 ≤ 140737488351232) (ol : ok B64 l) :
    Calls pr surdref06_Of_id #[.bool neg, s.v] w fun e w' => Ahead w w' ∧ ∃ s', e = .returned (.agg (c2 (nD neg (val B64 l)) s')) ∧ RN w' s' (val B64 l) := by
  refine surdref06_Of_vc neg s w _ (newC_b fun b w1 hb h1 hs1 B1 => Calls.mono (Of_spec (h.ahead h1) hl ol) ?_)
  rintro e w2 ⟨h2, s1, rfl, r1⟩
  refine ⟨_, rfl, Calls.mono (make1_spec r1) ?_⟩
  rintro e w3 ⟨h3, rfl, r3⟩
  refine ⟨_, _, rfl, ret2 ((B1.ahead h2).ahead h3) fun w' u _ => ⟨u.ahead ((h1.trans h2).trans h3) (by omega), s1, rfl, u.rd _ _ r3⟩⟩
theorem zSign_spec {w : World} {neg : Bool} {s : Slc} {x : Nat} (h : RN w s x) :
    Calls pr surdref06_Z_Sign_id #[.agg (c2 (nD neg x) s)] w fun e w' => Ahead w w' ∧ e = .returned (.int .i64 (sgn neg x)) := by
  refine surdref06_Z_Sign_vc (nD neg x) s w _ (newC_b fun b w1 hb h1 hs1 B1 => ldB_b 0 B1 rfl (br_intro (fun hn => ?_) (fun hn => ?_)))
  · refine ⟨h1, ?_⟩
    unfold nD at hn
    simp only [Bool.and_eq_true, decide_eq_true_eq] at hn
    rw [sgn, if_neg hn.2, hn.1]; rfl
  · refine ldS_b 1 B1 rfl (Calls.mono (zero_spec (h.ahead h1)) ?_)
    rintro e w2 ⟨rfl, rfl⟩
    refine ⟨_, rfl, br_intro (fun hz => ?_) (fun hz => ?_)⟩
    · exact ⟨h1, by rw [sgn, if_pos (by simpa using hz)]⟩
    · have hx : x ≠ 0 := by simpa using hz
      rw [nD_ne hx] at hn
      exact ⟨h1, by rw [sgn, if_neg hx, hn]; rfl⟩
theorem zIs_spec {w : World} {neg : Bool} {s t : Slc} {x : Nat} (h : RN w s x) (ht : Rd .u64 w t (nn (digs B64 x))) (hl : (digs B64 x).length ≤ 2 ^ 44) :
    Calls pr surdref06_Z_Is_id #[.agg (c2 neg s), .bool neg, t.v] w fun e w' => Ahead w w' ∧ e = .returned (.bool true) := by
  refine surdref06_Z_Is_vc neg s neg t w _ (newC_b fun b w1 hb h1 hs1 B1 => ldB_b 0 B1 rfl (br_true (by simp) ?_))
  refine ldS_b 1 B1 rfl (Calls.mono (Is_spec (h.ahead h1) (ht.ahead h1) hl) ?_)
  rintro e w2 ⟨h2, rfl⟩
  exact ⟨_, rfl, h1.trans h2, rfl⟩
theorem zInt_spec {w : World} {v : Int} (h0 : -9223372036854775808 ≤ v) (h1 : v ≤ 9223372036854775807) :
    Calls pr surdref06_Int_id #[.int .i64 v] w fun e w' => Ahead w w' ∧ ∃ s, e = .returned (.agg (c2 (nD (decide (v < 0)) v.natAbs) s)) ∧ RN w' s v.natAbs := by
  have hB := B64v
  refine surdref06_Int_vc v w _ (newC_b fun b w1 hb h1' hs1 B1 => br_intro (fun hn => ?_) (fun hn => ?_))
  · have hn' : v < 0 := by simpa using hn
    have e1 : IntKind.u64.wrap (IntKind.u64.wrap (IntKind.i64.wrap (0 - IntKind.i64.wrap (v + 1))) + 1) = ((v.natAbs : Nat) : Int) := by
      rw [wrap_i64 (x := v + 1) (by omega) (by omega), wrap_i64 (by omega) (by omega), wrap_u64' (x := 0 - (v + 1)) (by omega) (by omega), wrap_u64' (by omega) (by omega)]
      omega
    rw [e1]
    refine newC_b fun b2 w2 hb2 h2 hs2 B2 => ?_
    have hrd : Rd .u64 w2 ⟨some ⟨b2, 0, none⟩, 1, 1⟩ (nn [v.natAbs]) := by
      obtain ⟨t, hm⟩ := B2
      exact ⟨rfl, Nat.le_refl _, fun i hi => ⟨_, rfl, by
        have : i = 0 := by simpa using hi
        subst this
        simp [World.cell?, Addr.add, hm, nn]⟩⟩
    refine Calls.mono (Of_spec hrd (by simp) (fun z hz => by simp at hz; omega)) ?_
    rintro e w3 ⟨h3, s1, rfl, r1⟩
    have ev : val B64 [v.natAbs] = v.natAbs := by simp [val]
    rw [ev] at r1
    refine ⟨_, rfl, Calls.mono (make1_spec r1) ?_⟩
    rintro e w4 ⟨h4, rfl, r4⟩
    refine ⟨_, _, rfl, ret2 (((B1.ahead h2).ahead h3).ahead h4) fun w' u _ => ⟨u.ahead (((h1'.trans h2).trans h3).trans h4) (by omega), s1, ?_, u.rd _ _ r4⟩⟩
    simp [hn']
  · have hn' : ¬ v < 0 := by simpa using hn
    obtain ⟨m, rfl⟩ : ∃ m : Nat, v = (m : Int) := ⟨v.toNat, by omega⟩
    refine Calls.mono (Int_spec (v := m) (by omega)) ?_
    rintro e w3 ⟨h3, s1, rfl, r1⟩
    refine ⟨_, rfl, Calls.mono (make1_spec r1) ?_⟩
    rintro e w4 ⟨h4, rfl, r4⟩
    refine ⟨_, _, rfl, ret2 ((B1.ahead h3).ahead h4) fun w' u _ => ⟨u.ahead ((h1'.trans h3).trans h4) (by omega), s1, ?_, u.rd _ _ r4⟩⟩
    simp [hn']

theorem dOf_specN {w : World} {neg : Bool} {s : Slc} {x : Nat} {e : Int} (h : RN w s x) (hl : (digs B32 x).length ≤ 2 ^ 45) (he : -4611686018427387904 ≤ e ∧ e ≤ 4611686018427387904) :
    Calls pr surdref08_Of_id #[.agg (c2 (nD neg x) s), .int .i64 e] w fun en w' => Ahead w w' ∧ ∃ s', en = .returned (.agg (c3 (nD neg x) s' (eD x e))) ∧ RN w' s' (od x) ∧ ∀ ad, s'.A = some ad → w.heap.size ≤ ad.block := by
  refine surdref08_Of_vc (nD neg x) s e w _ (newC_b fun b1 w1 hb1 h1 hs1 B1 => newC_b fun b2 w2 hb2 h2 hs2 B2 => ?_)
  have h12 := h1.trans h2
  have hb : w.heap.size ≤ b2 := by have := h1.size; omega
  have hbl : bl x ≤ 2 ^ 50 := by
    have := Ref.bl_len32 (ok_digs two32 x)
    rw [val_digs two32] at this
    omega
  refine get2 (B1.ahead h2) rfl rfl (Calls.mono (zSign_spec (h.ahead h12)) ?_)
  rintro en w3 ⟨h3, rfl⟩
  have h13 := h12.trans h3
  have B13 := (B1.ahead h2).ahead h3
  have B23 := B2.ahead h3
  refine ⟨_, rfl, br_intro (fun hz => ?_) (fun hz => ?_)⟩
  · have hx : x = 0 := sgn_zero_iff.1 (by simpa using hz)
    subst hx
    refine ret3 B23 fun w' u _ => ⟨u.ahead h13 hb, _, by rw [nD_zero, eD_zero], by rw [od_zero]; exact RN.nil, fun ad h => by cases h⟩
  · have hx : x ≠ 0 := fun e0 => by rw [e0] at hz; simp [sgn] at hz
    have htz := tz_lt hx
    refine ldS_b 1 B13 rfl (Calls.mono (rTail_spec (h.ahead h13) (by omega)) ?_)
    rintro en w7 ⟨rfl, rfl⟩
    have hd := Ahead.drew w7
    refine ⟨_, rfl, get2 (B13.ahead hd) rfl rfl (Calls.mono (Ref.Shr_specN ((h.ahead h13).ahead hd) (by omega) (by omega) (by omega)) ?_)⟩
    rintro en w8 ⟨h8, s5, rfl, r5, q5⟩
    rw [Int.toNat_natCast] at r5
    have h78 := hd.trans h8
    refine ⟨_, rfl, h8, ret3 (B23.ahead h78) fun w' u _ => ⟨u.ahead (h13.trans h78) hb, s5, ?_, u.rd _ _ r5, fun ad had => by have := q5 ad had; have := h13.size; have := hd.size; omega⟩⟩
    rw [eD, if_neg hx, wrap_i64 (by omega) (by omega)]
theorem dOf_spec {w : World} {neg : Bool} {s : Slc} {x : Nat} {e : Int} (h : RN w s x) (hl : (digs B32 x).length ≤ 2 ^ 45) (he : -4611686018427387904 ≤ e ∧ e ≤ 4611686018427387904) :
    Calls pr surdref08_Of_id #[.agg (c2 (nD neg x) s), .int .i64 e] w fun en w' => Ahead w w' ∧ ∃ s', en = .returned (.agg (c3 (nD neg x) s' (eD x e))) ∧ RN w' s' (od x) :=
  Calls.mono (dOf_specN h hl he) fun en w' ⟨h1, s', h2, h3, _⟩ => ⟨h1, s', h2, h3⟩
theorem dInt_spec {w : World} {v e : Int} (h0 : -9223372036854775808 ≤ v) (h1 : v ≤ 9223372036854775807) (he : -4611686018427387904 ≤ e ∧ e ≤ 4611686018427387904) :
    Calls pr surdref08_Int_id #[.int .i64 v, .int .i64 e] w fun en w' => Ahead w w' ∧ ∃ s', en = .returned (.agg (c3 (nD (decide (v < 0)) v.natAbs) s' (eD v.natAbs e))) ∧ RN w' s' (od v.natAbs) := by
  refine surdref08_Int_vc v e w _ (newC_b fun b1 w1 hb1 h1' hs1 B1 => Calls.mono (zInt_spec h0 h1) ?_)
  rintro en w2 ⟨h2, s1, rfl, r1⟩
  have hl : (digs B32 v.natAbs).length ≤ 2 := digs_length_le two32 (by rw [B32v]; omega)
  refine ⟨_, _, rfl, Calls.mono (dOf_spec r1 (by omega) he) ?_⟩
  rintro en w3 ⟨h3, s2, rfl, r2⟩
  exact ⟨_, _, _, rfl, ret3 ((B1.ahead h2).ahead h3) fun w' u _ => ⟨u.ahead ((h1'.trans h2).trans h3) (by omega), s2, rfl, u.rd _ _ r2⟩⟩
theorem dIs_spec {w : World} {neg : Bool} {s t : Slc} {x : Nat} {e : Int} (h : RN w s x) (ht : Rd .u64 w t (nn (digs B64 x))) (hl : (digs B64 x).length ≤ 2 ^ 44) :
    Calls pr surdref08_D_Is_id #[.agg (c3 neg s e), .bool neg, t.v, .int .i64 e] w fun en w' => Ahead w w' ∧ en = .returned (.bool true) := by
  refine surdref08_D_Is_vc neg s e neg t e w _ (newC_b fun b w1 hb h1 hs1 B1 => get2 B1 rfl rfl (Calls.mono (zIs_spec (h.ahead h1) (ht.ahead h1) hl) ?_))
  rintro en w2 ⟨h2, rfl⟩
  exact ⟨_, rfl, br_true rfl (ldI_b 2 (B1.ahead h2) rfl ⟨h1.trans h2, by simp⟩)⟩
theorem Fits_spec {w : World} {e : Int} : Calls pr surdref08_Fits_id #[.int .i64 e] w fun en w' => w' = w ∧ en = .returned (.bool (decide (wi e))) := by
  refine surdref08_Fits_vc e w _ (br_intro (fun h => ⟨rfl, ?_⟩) (fun h => ⟨rfl, ?_⟩))
  · have h1 : -1099511627776 ≤ e := by simpa using h
    congr 2
    simp [wi, h1]
  · have h1 : ¬ -1099511627776 ≤ e := by simpa using h
    congr 2
    simp [wi, h1]
theorem fit_spec {w : World} {e : Int} : Calls pr surdlaw08_fit_id #[.int .i64 e] w fun en w' => w' = w ∧ en = .returned (.bool (decide (wi e))) := by
  refine surdlaw08_fit_vc e w _ (br_intro (fun h => ⟨rfl, ?_⟩) (fun h => ⟨rfl, ?_⟩))
  · have h1 : -1099511627776 ≤ e := by simpa using h
    congr 2
    simp [wi, h1]
  · have h1 : ¬ -1099511627776 ≤ e := by simpa using h
    congr 2
    simp [wi, h1]
/-- Told, of a dyadic in lowest terms. -/
def tK (n : Nat) (e : Int) : Int := if 67108864 < bl n then 3 else if wi e then 0 else 80
theorem dTold_spec {w : World} {neg : Bool} {s : Slc} {n : Nat} {e : Int} (h : RN w s n) (hl : (digs B32 n).length ≤ 2 ^ 46) :
    Calls pr surdref08_Told_id #[.agg (c3 neg s e)] w fun en w' => Ahead w w' ∧ ∃ x s' e', en = .returned (.tuple #[.agg (c3 x s' e'), .int .i64 (tK n e)]) ∧ (tK n e = 0 → x = neg ∧ e' = e ∧ RN w' s' n) := by
  refine surdref08_Told_vc neg s e w _ (newC_b fun b1 w1 hb1 h1 hs1 B1 => newC_b fun b2 w2 hb2 h2 hs2 B2 => ?_)
  have h12 := h1.trans h2
  have hb : w.heap.size ≤ b2 := by have := h1.size; omega
  refine ldS_b 1 (B1.ahead h2) rfl (Calls.mono (Len_spec (h.ahead h12) hl) ?_)
  rintro en w3 ⟨rfl, rfl⟩
  refine ⟨_, rfl, br_intro (fun hg => ?_) (fun hg => ?_)⟩
  · have hc : tK n e = 3 := if_pos (by simp at hg; omega)
    rw [hc]
    exact ret3 B2 fun w' u _ => ⟨u.ahead h12 hb, _, _, _, rfl, fun h => by omega⟩
  · refine ldI_b 2 (B1.ahead h2) rfl (Calls.mono Fits_spec ?_)
    rintro en w7 ⟨rfl, rfl⟩
    refine ⟨_, rfl, br_intro (fun hw => ?_) (fun hw => ?_)⟩
    · have hc : tK n e = 80 := by rw [tK, if_neg (by simp at hg; omega), if_neg (by simpa using hw)]
      rw [hc]
      exact ret3 B2 fun w' u _ => ⟨u.ahead h12 hb, _, _, _, rfl, fun h => by omega⟩
    · have hc : tK n e = 0 := by rw [tK, if_neg (by simp at hg; omega), if_pos (by simpa using hw)]
      rw [hc]
      exact get3 (B1.ahead h2) (ret3 B2 fun w' u _ => ⟨u.ahead h12 hb, _, _, _, rfl, fun _ => ⟨rfl, rfl, u.rd _ _ (h.ahead h12)⟩⟩)
theorem tK_bl {n : Nat} {e : Int} (h : tK n e = 0) : bl n ≤ 67108864 := by
  unfold tK at h
  split at h
  · omega
  · omega

theorem num_spec {w : World} {c : Int} : Calls pr surdlaw08_num_id #[.int .i64 c] w fun e w' => w' = w ∧ e = .returned (.int .i64 c) :=
  surdlaw08_num_vc c w _ ⟨rfl, rfl⟩

theorem awake_spec {w : World} (hT : Tab w) : Calls pr surdlaw08_awake_id #[] w (Yes w) := by
  have hB := B64v
  refine surdlaw08_awake_vc w _ (newC_b fun b1 w1 hb1 h1 hs1 B1 => ?_)
  have hrd : Rd .u64 w1 ⟨some ⟨b1, 0, none⟩, 1, 1⟩ (nn [12]) := by
    obtain ⟨t, hm⟩ := B1
    exact ⟨rfl, Nat.le_refl _, fun i hi => ⟨_, rfl, by
      have : i = 0 := by simpa using hi
      subst this
      simp [World.cell?, Addr.add, hm, nn]⟩⟩
  have hnum : Num w1 ⟨some ⟨b1, 0, none⟩, 1, 1⟩ 12 := ⟨[12], hrd, by simp, fun z hz => by simp at hz; omega, by simp [val]⟩
  refine Calls.mono (Make_spec (e := -3) (hT.ahead h1) hnum) ?_
  have htz : tz 12 = 2 := tz_eq (k := 2) (m := 1) rfl
  have hod : od 12 = 3 := by rw [od, htz]
  have hwi : wi (-3) := by unfold wi; omega
  have htc : tC 12 (-3) = 0 := by
    have : bl 3 ≤ 2 := bl_le (by omega)
    rw [tC, hod, if_neg (by omega), if_pos (by rw [eD, if_neg (by omega), htz]; unfold wi; omega)]
  rw [if_pos hwi, htc]
  rintro en w2 ⟨h2, s1, rfl, o1⟩
  rw [if_pos rfl, hod] at o1
  have hnD : nD false 12 = false := rfl
  have heD : eD 12 (-3) = -1 := by rw [eD, if_neg (by omega), htz]; rfl
  rw [if_pos rfl, if_pos rfl, hnD, heD]
  refine ⟨_, _, _, _, rfl, newC_b fun b2 w3 hb2 h3 hs3 B2 => set3 B2 fun w6 u C2 => ?_⟩
  have h06 : Ahead w w6 := u.ahead ((h1.trans h2).trans h3) (by have := (h1.trans h2).size; omega)
  have hd := Ahead.drew w6
  refine Calls.mono num_spec ?_
  rintro en w7 ⟨rfl, rfl⟩
  refine ⟨_, rfl, Ahead.refl _, br_true rfl (get3 (C2.ahead hd) (Calls.mono (dInt_spec (v := 3) (e := -1) (by omega) (by omega) (by omega)) ?_))⟩
  rintro en w8 ⟨h8, s3, rfl, r3⟩
  have o3 : od (3 : Int).natAbs = 3 := od_of_odd rfl
  have t3 : tz 3 = 0 := tz_odd rfl
  have n3 : nD (decide ((3 : Int) < 0)) (3 : Int).natAbs = false := rfl
  have e3 : eD (3 : Int).natAbs (-1) = -1 := by show eD 3 (-1) = -1; rw [eD, if_neg (by omega), t3]; rfl
  rw [o3] at r3
  rw [n3, e3]
  have o6 := u.own2 o1 h3 (by omega)
  have hl : (digs B64 3).length ≤ 1 := digs_length_le two64 (by rw [B64v]; omega)
  refine ⟨_, _, _, rfl, h8, Calls.mono (dIs_spec r3 ((o6.ahead hd).ahead h8).rd (by omega)) ?_⟩
  rintro en w9 ⟨h9, rfl⟩
  exact ⟨_, rfl, h9, rfl, ((h06.trans hd).trans h8).trans h9⟩

end Dy
end Go.Proofs.YtahbekmnphkiiaaDoor
namespace Go.Proofs.YtahbekmnphkiiaaDoor
open Go Go.RowKit Eng Sp Dg
set_option linter.unusedVariables false
set_option linter.unusedSimpArgs false
set_option maxRecDepth 100000
namespace Dy
open _root_.Go.Proofs.YtahbekmnphkiiaaDoor.Nat (ldN OwnNil Num Num.bl OwnNil.mono bigC bigC_ok digs_len_bl Yes num_of)
open _root_.Go.Proofs.YtahbekmnphkiiaaDoor.Ref (RN RN.nil Of_spec Is_spec Len_spec zero_spec)
open Sb

theorem tC_zero {x : Nat} {e : Int} (h : tC x e = 0) : bl (od x) ≤ 67108864 ∧ wi (eD x e) := by
  unfold tC at h
  split at h
  · omega
  · split at h
    · exact ⟨by omega, by assumption⟩
    · omega

end Dy
end Go.Proofs.YtahbekmnphkiiaaDoor
namespace Go.Proofs.YtahbekmnphkiiaaDoor
open Go Go.RowKit Eng Sp Dg
set_option linter.unusedVariables false
set_option linter.unusedSimpArgs false
namespace L2

/-- Types of rows: no local variable's block has such a type. -/
def rowTy (t : TypeId) : Bool := t == tU64 || t == tInt || t == tU64s || t == tInts || t == 43 || t == 40
def noU (cs : Array Value) : Bool := cs.toList.all fun v => match v with
  | .int .u64 _ => false
  | _ => true
/-- The block's cells. -/
def Blt (w : World) (b : Nat) (t : TypeId) (cs : Array Value) : Prop := w.heap[b]? = some (Obj.cells cs t (0, 0))
/-- Rows of numbers stay, and every limb. -/
structure Ext (w w' : World) : Prop where
  size : w.heap.size ≤ w'.heap.size
  row : ∀ (k : Nat) (cs : Array Value) (t : TypeId) (m : Nat × Nat), w.heap[k]? = some (Obj.cells cs t m) → rowTy t = true → w'.heap[k]? = some (Obj.cells cs t m)
  cell : ∀ (ad : Addr) (x : Int), w.cell? ad = some (.int .u64 x) → w'.cell? ad = some (.int .u64 x)
theorem Ext.refl (w : World) : Ext w w := ⟨Nat.le_refl _, fun _ _ _ _ h _ => h, fun _ _ h => h⟩
theorem Ext.trans {a b c : World} (h : Ext a b) (k : Ext b c) : Ext a c :=
  ⟨Nat.le_trans h.size k.size, fun i cs t m hi ht => k.row i cs t m (h.row i cs t m hi ht) ht, fun ad x hx => k.cell ad x (h.cell ad x hx)⟩
theorem Ext.of_ahead {a b : World} (h : Ahead a b) : Ext a b :=
  ⟨h.size, fun k cs t m hk _ => by rw [Below.block h k (Array.getElem?_eq_some_iff.1 hk).1]; exact hk, fun ad x hx => h.cell hx⟩
theorem _root_.Go.Proofs.YtahbekmnphkiiaaDoor.Eng.Ahead.ext {a b : World} (h : Ahead a b) : Ext a b := Ext.of_ahead h

theorem Blt.lt {w : World} {b : Nat} {t : TypeId} {cs : Array Value} (h : Blt w b t cs) : b < w.heap.size := (Array.getElem?_eq_some_iff.1 h).1
theorem Blt.ahead {w w' : World} {b : Nat} {t : TypeId} {cs : Array Value} (h : Blt w b t cs) (ha : Ahead w w') : Blt w' b t cs := by
  unfold Blt; rw [Below.block ha b h.lt]; exact h
theorem Blt.bar {V : Nat → Prop} {w w' : World} {b : Nat} {t : TypeId} {cs : Array Value} (h : Blt w b t cs) (hb : Bar V w w') (hv : ¬ V b) : Blt w' b t cs := by
  unfold Blt; rw [hb.block b h.lt hv]; exact h
theorem Blt.cell {w : World} {b i : Nat} {t : TypeId} {cs : Array Value} {v : Value} (h : Blt w b t cs) (hc : cs[i]? = some v) : w.cell? ⟨b, i, none⟩ = some v := by
  unfold Blt at h
  simp [World.cell?, h, hc]

theorem newC_t {w : World} {cs : Array Value} {t : TypeId} {K : Addr → World → Prop} (h : ∀ b w', b = w.heap.size → Ahead w w' → w'.heap.size = b + 1 → Blt w' b t cs → K ⟨b, 0, none⟩ w') : newC w cs t K :=
  h _ _ rfl (Ahead.alloc _ _) (size_alloc _ _) (get_alloc _ _)
theorem newC_map {w : World} {cs : Array Value} {t : TypeId} {K K' : Addr → World → Prop} (h : newC w cs t K) (hk : ∀ ad w', Ahead w w' → K ad w' → K' ad w') : newC w cs t K' :=
  hk _ _ (Ahead.alloc _ _) h

/-- Nothing but the block has changed; it holds no limb, before and behind. -/
structure Upt (b : Nat) (w w' : World) : Prop where
  os : w'.os = w.os
  tape : w'.tape = w.tape
  output : w'.output = w.output
  size : w'.heap.size = w.heap.size
  block : ∀ k, k ≠ b → w'.heap[k]? = w.heap[k]?
  ext : Ext w w'
theorem Upt.trans {b : Nat} {x y z : World} (h : Upt b x y) (k : Upt b y z) : Upt b x z :=
  ⟨k.os.trans h.os, k.tape.trans h.tape, k.output.trans h.output, k.size.trans h.size, fun i hi => (k.block i hi).trans (h.block i hi), h.ext.trans k.ext⟩
theorem Upt.ahead {b : Nat} {w0 w w' : World} (h : Upt b w w') (ha : Ahead w0 w) (hb : w0.heap.size ≤ b) : Ahead w0 w' :=
  Below.trans ha ⟨h.os, h.tape, h.output, Nat.le_of_eq h.size.symm, fun k hk => h.block k (by omega)⟩
theorem Upt.blt {b k : Nat} {w w' : World} {t : TypeId} {cs : Array Value} (h : Upt k w w') (hr : Blt w b t cs) (hne : b ≠ k) : Blt w' b t cs := by
  unfold Blt; rw [h.block b hne]; exact hr
theorem Upt.bar {b : Nat} {V : Nat → Prop} {w w' : World} (h : Upt b w w') (hv : V b) : Bar V w w' :=
  ⟨h.os, h.tape, h.output, Nat.le_of_eq h.size.symm, fun k _ hk => h.block k fun e => hk (e ▸ hv)⟩

theorem no_limb {w : World} {b : Nat} {t : TypeId} {cs : Array Value} (h : Blt w b t cs) (hn : noU cs = true) (ad : Addr) (x : Int) (hc : w.cell? ad = some (.int .u64 x)) : ad.block ≠ b := by
  intro hb
  unfold Blt at h
  rw [World.cell?, hb, h] at hc
  simp only at hc
  split at hc
  · cases hc
  · have hm := Array.mem_of_getElem? hc
    unfold noU at hn
    have := List.all_eq_true.1 hn _ (Array.mem_toList_iff.2 hm)
    simp at this

theorem stC_t (i : Nat) {w : World} {b : Nat} {t : TypeId} {cs : Array Value} {ad : Addr} {v : Value} {K : World → Prop} (h : Blt w b t cs) (hi : Nat.blt i cs.size = true) (hn : noU cs = true) (ht : rowTy t = false)
    (hk : ∀ w', Upt b w w' → Blt w' b t (cs.setIfInBounds i v) → K w') (hA : ad = ⟨b, i, none⟩ := by first | rfl | exact add_off) : stC ad v w K := by
  subst hA
  have hi' : i < cs.size := by simpa [Nat.blt_eq] using hi
  have hh : w.heap[b]? = some (Obj.cells cs t (0, 0)) := h
  have hlt := (Array.getElem?_eq_some_iff.1 hh).1
  have hget := (Array.getElem?_eq_some_iff.1 hh).2
  have hblk : ∀ k, k ≠ b → (w.setCell ⟨b, i, none⟩ v).heap[k]? = w.heap[k]? := fun k hk => Below.heap_setCell _ _ _ _ hk
  refine ⟨⟨cs[i], by simp [World.cell?, hh, hi']⟩, by simp [World.frozen?, hh], hk _ ⟨rfl, rfl, rfl, by simp [World.setCell], hblk, ⟨by simp [World.setCell], fun k cs' t' m hk' ht' => ?_, fun ad x hx => ?_⟩⟩ ?_⟩
  · by_cases e : k = b
    · subst e
      rw [hh] at hk'
      have := Option.some.inj hk'
      injection this with h1 h2 h3
      subst h2
      rw [ht] at ht'
      cases ht'
    · rw [hblk k e]; exact hk'
  · have hne := no_limb h hn ad x hx
    rw [World.cell?_of_block (hblk _ hne)]; exact hx
  · unfold Blt
    simp [World.setCell, Array.getElem?_modify, hh]

theorem nl {a b : Nat} (h : a < b) : a ≠ b := Nat.ne_of_lt h
theorem ng {a b : Nat} (h : b < a) : a ≠ b := Nat.ne_of_gt h
theorem exE {α : Sort _} {p : α → Prop} {G : Prop} (f : ∀ x, p x → G) : (∃ x, p x) → G := fun ⟨x, h⟩ => f x h
theorem anE {a b G : Prop} (f : a → b → G) : a ∧ b → G := fun ⟨x, h⟩ => f x h
theorem stC_map {ad : Addr} {v : Value} {w : World} {K K' : World → Prop} (h : stC ad v w K) (hk : ∀ w', K w' → K' w') : stC ad v w K' := ⟨h.1, h.2.1, hk _ h.2.2⟩
theorem nd {a b : Nat} {P : Prop} (h : P) (d : a ≠ b := by first | exact nl (by assumption) | exact ng (by assumption) | assumption | exact Ne.symm (by assumption) | omega) : a ≠ b ∧ P := ⟨d, h⟩
theorem up1 {k : Nat} {w w' : World} (u : Upt k w w') {b1 : Nat} {t1 : TypeId} {c1 : Array Value} (h1 : Blt w b1 t1 c1) (d : b1 ≠ k := by first | exact nl (by assumption) | exact ng (by assumption) | assumption | exact Ne.symm (by assumption) | omega) : Blt w' b1 t1 c1 := u.blt h1 d
theorem lt1 {b : Nat} {w : World} (e : b = w.heap.size) {b1 : Nat} {t1 : TypeId} {c1 : Array Value} (h1 : Blt w b1 t1 c1) : b1 < b := by
  subst e
  exact h1.lt
theorem ah2 {w w' : World} (a : Ahead w w') {b1 b2 : Nat} {t1 t2 : TypeId} {c1 c2 : Array Value} (h1 : Blt w b1 t1 c1) (h2 : Blt w b2 t2 c2) : Blt w' b1 t1 c1 ∧ Blt w' b2 t2 c2 := ⟨h1.ahead a, h2.ahead a⟩
theorem up2 {k : Nat} {w w' : World} (u : Upt k w w') {b1 b2 : Nat} {t1 t2 : TypeId} {c1 c2 : Array Value} (h1 : Blt w b1 t1 c1) (h2 : Blt w b2 t2 c2) (d : b1 ≠ k ∧ b2 ≠ k := by refine ⟨?_, ?_⟩ <;> first | exact nl (by assumption) | exact ng (by assumption) | assumption | exact Ne.symm (by assumption) | omega) : Blt w' b1 t1 c1 ∧ Blt w' b2 t2 c2 := by
  obtain ⟨d1, d2⟩ := d
  exact ⟨u.blt h1 d1, u.blt h2 d2⟩
theorem lt2 {b : Nat} {w : World} (e : b = w.heap.size) {b1 b2 : Nat} {t1 t2 : TypeId} {c1 c2 : Array Value} (h1 : Blt w b1 t1 c1) (h2 : Blt w b2 t2 c2) : b1 < b ∧ b2 < b := by
  subst e
  exact ⟨h1.lt, h2.lt⟩
theorem ah3 {w w' : World} (a : Ahead w w') {b1 b2 b3 : Nat} {t1 t2 t3 : TypeId} {c1 c2 c3 : Array Value} (h1 : Blt w b1 t1 c1) (h2 : Blt w b2 t2 c2) (h3 : Blt w b3 t3 c3) : Blt w' b1 t1 c1 ∧ Blt w' b2 t2 c2 ∧ Blt w' b3 t3 c3 := ⟨h1.ahead a, h2.ahead a, h3.ahead a⟩
theorem up3 {k : Nat} {w w' : World} (u : Upt k w w') {b1 b2 b3 : Nat} {t1 t2 t3 : TypeId} {c1 c2 c3 : Array Value} (h1 : Blt w b1 t1 c1) (h2 : Blt w b2 t2 c2) (h3 : Blt w b3 t3 c3) (d : b1 ≠ k ∧ b2 ≠ k ∧ b3 ≠ k := by refine ⟨?_, ?_, ?_⟩ <;> first | exact nl (by assumption) | exact ng (by assumption) | assumption | exact Ne.symm (by assumption) | omega) : Blt w' b1 t1 c1 ∧ Blt w' b2 t2 c2 ∧ Blt w' b3 t3 c3 := by
  obtain ⟨d1, d2, d3⟩ := d
  exact ⟨u.blt h1 d1, u.blt h2 d2, u.blt h3 d3⟩
theorem lt3 {b : Nat} {w : World} (e : b = w.heap.size) {b1 b2 b3 : Nat} {t1 t2 t3 : TypeId} {c1 c2 c3 : Array Value} (h1 : Blt w b1 t1 c1) (h2 : Blt w b2 t2 c2) (h3 : Blt w b3 t3 c3) : b1 < b ∧ b2 < b ∧ b3 < b := by
  subst e
  exact ⟨h1.lt, h2.lt, h3.lt⟩
theorem ah4 {w w' : World} (a : Ahead w w') {b1 b2 b3 b4 : Nat} {t1 t2 t3 t4 : TypeId} {c1 c2 c3 c4 : Array Value} (h1 : Blt w b1 t1 c1) (h2 : Blt w b2 t2 c2) (h3 : Blt w b3 t3 c3) (h4 : Blt w b4 t4 c4) : Blt w' b1 t1 c1 ∧ Blt w' b2 t2 c2 ∧ Blt w' b3 t3 c3 ∧ Blt w' b4 t4 c4 := ⟨h1.ahead a, h2.ahead a, h3.ahead a, h4.ahead a⟩
theorem up4 {k : Nat} {w w' : World} (u : Upt k w w') {b1 b2 b3 b4 : Nat} {t1 t2 t3 t4 : TypeId} {c1 c2 c3 c4 : Array Value} (h1 : Blt w b1 t1 c1) (h2 : Blt w b2 t2 c2) (h3 : Blt w b3 t3 c3) (h4 : Blt w b4 t4 c4) (d : b1 ≠ k ∧ b2 ≠ k ∧ b3 ≠ k ∧ b4 ≠ k := by refine ⟨?_, ?_, ?_, ?_⟩ <;> first | exact nl (by assumption) | exact ng (by assumption) | assumption | exact Ne.symm (by assumption) | omega) : Blt w' b1 t1 c1 ∧ Blt w' b2 t2 c2 ∧ Blt w' b3 t3 c3 ∧ Blt w' b4 t4 c4 := by
  obtain ⟨d1, d2, d3, d4⟩ := d
  exact ⟨u.blt h1 d1, u.blt h2 d2, u.blt h3 d3, u.blt h4 d4⟩
theorem lt4 {b : Nat} {w : World} (e : b = w.heap.size) {b1 b2 b3 b4 : Nat} {t1 t2 t3 t4 : TypeId} {c1 c2 c3 c4 : Array Value} (h1 : Blt w b1 t1 c1) (h2 : Blt w b2 t2 c2) (h3 : Blt w b3 t3 c3) (h4 : Blt w b4 t4 c4) : b1 < b ∧ b2 < b ∧ b3 < b ∧ b4 < b := by
  subst e
  exact ⟨h1.lt, h2.lt, h3.lt, h4.lt⟩
theorem ah5 {w w' : World} (a : Ahead w w') {b1 b2 b3 b4 b5 : Nat} {t1 t2 t3 t4 t5 : TypeId} {c1 c2 c3 c4 c5 : Array Value} (h1 : Blt w b1 t1 c1) (h2 : Blt w b2 t2 c2) (h3 : Blt w b3 t3 c3) (h4 : Blt w b4 t4 c4) (h5 : Blt w b5 t5 c5) : Blt w' b1 t1 c1 ∧ Blt w' b2 t2 c2 ∧ Blt w' b3 t3 c3 ∧ Blt w' b4 t4 c4 ∧ Blt w' b5 t5 c5 := ⟨h1.ahead a, h2.ahead a, h3.ahead a, h4.ahead a, h5.ahead a⟩
theorem up5 {k : Nat} {w w' : World} (u : Upt k w w') {b1 b2 b3 b4 b5 : Nat} {t1 t2 t3 t4 t5 : TypeId} {c1 c2 c3 c4 c5 : Array Value} (h1 : Blt w b1 t1 c1) (h2 : Blt w b2 t2 c2) (h3 : Blt w b3 t3 c3) (h4 : Blt w b4 t4 c4) (h5 : Blt w b5 t5 c5) (d : b1 ≠ k ∧ b2 ≠ k ∧ b3 ≠ k ∧ b4 ≠ k ∧ b5 ≠ k := by refine ⟨?_, ?_, ?_, ?_, ?_⟩ <;> first | exact nl (by assumption) | exact ng (by assumption) | assumption | exact Ne.symm (by assumption) | omega) : Blt w' b1 t1 c1 ∧ Blt w' b2 t2 c2 ∧ Blt w' b3 t3 c3 ∧ Blt w' b4 t4 c4 ∧ Blt w' b5 t5 c5 := by
  obtain ⟨d1, d2, d3, d4, d5⟩ := d
  exact ⟨u.blt h1 d1, u.blt h2 d2, u.blt h3 d3, u.blt h4 d4, u.blt h5 d5⟩
theorem lt5 {b : Nat} {w : World} (e : b = w.heap.size) {b1 b2 b3 b4 b5 : Nat} {t1 t2 t3 t4 t5 : TypeId} {c1 c2 c3 c4 c5 : Array Value} (h1 : Blt w b1 t1 c1) (h2 : Blt w b2 t2 c2) (h3 : Blt w b3 t3 c3) (h4 : Blt w b4 t4 c4) (h5 : Blt w b5 t5 c5) : b1 < b ∧ b2 < b ∧ b3 < b ∧ b4 < b ∧ b5 < b := by
  subst e
  exact ⟨h1.lt, h2.lt, h3.lt, h4.lt, h5.lt⟩
theorem ah6 {w w' : World} (a : Ahead w w') {b1 b2 b3 b4 b5 b6 : Nat} {t1 t2 t3 t4 t5 t6 : TypeId} {c1 c2 c3 c4 c5 c6 : Array Value} (h1 : Blt w b1 t1 c1) (h2 : Blt w b2 t2 c2) (h3 : Blt w b3 t3 c3) (h4 : Blt w b4 t4 c4) (h5 : Blt w b5 t5 c5) (h6 : Blt w b6 t6 c6) : Blt w' b1 t1 c1 ∧ Blt w' b2 t2 c2 ∧ Blt w' b3 t3 c3 ∧ Blt w' b4 t4 c4 ∧ Blt w' b5 t5 c5 ∧ Blt w' b6 t6 c6 := ⟨h1.ahead a, h2.ahead a, h3.ahead a, h4.ahead a, h5.ahead a, h6.ahead a⟩
theorem up6 {k : Nat} {w w' : World} (u : Upt k w w') {b1 b2 b3 b4 b5 b6 : Nat} {t1 t2 t3 t4 t5 t6 : TypeId} {c1 c2 c3 c4 c5 c6 : Array Value} (h1 : Blt w b1 t1 c1) (h2 : Blt w b2 t2 c2) (h3 : Blt w b3 t3 c3) (h4 : Blt w b4 t4 c4) (h5 : Blt w b5 t5 c5) (h6 : Blt w b6 t6 c6) (d : b1 ≠ k ∧ b2 ≠ k ∧ b3 ≠ k ∧ b4 ≠ k ∧ b5 ≠ k ∧ b6 ≠ k := by refine ⟨?_, ?_, ?_, ?_, ?_, ?_⟩ <;> first | exact nl (by assumption) | exact ng (by assumption) | assumption | exact Ne.symm (by assumption) | omega) : Blt w' b1 t1 c1 ∧ Blt w' b2 t2 c2 ∧ Blt w' b3 t3 c3 ∧ Blt w' b4 t4 c4 ∧ Blt w' b5 t5 c5 ∧ Blt w' b6 t6 c6 := by
  obtain ⟨d1, d2, d3, d4, d5, d6⟩ := d
  exact ⟨u.blt h1 d1, u.blt h2 d2, u.blt h3 d3, u.blt h4 d4, u.blt h5 d5, u.blt h6 d6⟩
theorem lt6 {b : Nat} {w : World} (e : b = w.heap.size) {b1 b2 b3 b4 b5 b6 : Nat} {t1 t2 t3 t4 t5 t6 : TypeId} {c1 c2 c3 c4 c5 c6 : Array Value} (h1 : Blt w b1 t1 c1) (h2 : Blt w b2 t2 c2) (h3 : Blt w b3 t3 c3) (h4 : Blt w b4 t4 c4) (h5 : Blt w b5 t5 c5) (h6 : Blt w b6 t6 c6) : b1 < b ∧ b2 < b ∧ b3 < b ∧ b4 < b ∧ b5 < b ∧ b6 < b := by
  subst e
  exact ⟨h1.lt, h2.lt, h3.lt, h4.lt, h5.lt, h6.lt⟩
theorem ah7 {w w' : World} (a : Ahead w w') {b1 b2 b3 b4 b5 b6 b7 : Nat} {t1 t2 t3 t4 t5 t6 t7 : TypeId} {c1 c2 c3 c4 c5 c6 c7 : Array Value} (h1 : Blt w b1 t1 c1) (h2 : Blt w b2 t2 c2) (h3 : Blt w b3 t3 c3) (h4 : Blt w b4 t4 c4) (h5 : Blt w b5 t5 c5) (h6 : Blt w b6 t6 c6) (h7 : Blt w b7 t7 c7) : Blt w' b1 t1 c1 ∧ Blt w' b2 t2 c2 ∧ Blt w' b3 t3 c3 ∧ Blt w' b4 t4 c4 ∧ Blt w' b5 t5 c5 ∧ Blt w' b6 t6 c6 ∧ Blt w' b7 t7 c7 := ⟨h1.ahead a, h2.ahead a, h3.ahead a, h4.ahead a, h5.ahead a, h6.ahead a, h7.ahead a⟩
theorem up7 {k : Nat} {w w' : World} (u : Upt k w w') {b1 b2 b3 b4 b5 b6 b7 : Nat} {t1 t2 t3 t4 t5 t6 t7 : TypeId} {c1 c2 c3 c4 c5 c6 c7 : Array Value} (h1 : Blt w b1 t1 c1) (h2 : Blt w b2 t2 c2) (h3 : Blt w b3 t3 c3) (h4 : Blt w b4 t4 c4) (h5 : Blt w b5 t5 c5) (h6 : Blt w b6 t6 c6) (h7 : Blt w b7 t7 c7) (d : b1 ≠ k ∧ b2 ≠ k ∧ b3 ≠ k ∧ b4 ≠ k ∧ b5 ≠ k ∧ b6 ≠ k ∧ b7 ≠ k := by refine ⟨?_, ?_, ?_, ?_, ?_, ?_, ?_⟩ <;> first | exact nl (by assumption) | exact ng (by assumption) | assumption | exact Ne.symm (by assumption) | omega) : Blt w' b1 t1 c1 ∧ Blt w' b2 t2 c2 ∧ Blt w' b3 t3 c3 ∧ Blt w' b4 t4 c4 ∧ Blt w' b5 t5 c5 ∧ Blt w' b6 t6 c6 ∧ Blt w' b7 t7 c7 := by
  obtain ⟨d1, d2, d3, d4, d5, d6, d7⟩ := d
  exact ⟨u.blt h1 d1, u.blt h2 d2, u.blt h3 d3, u.blt h4 d4, u.blt h5 d5, u.blt h6 d6, u.blt h7 d7⟩
theorem lt7 {b : Nat} {w : World} (e : b = w.heap.size) {b1 b2 b3 b4 b5 b6 b7 : Nat} {t1 t2 t3 t4 t5 t6 t7 : TypeId} {c1 c2 c3 c4 c5 c6 c7 : Array Value} (h1 : Blt w b1 t1 c1) (h2 : Blt w b2 t2 c2) (h3 : Blt w b3 t3 c3) (h4 : Blt w b4 t4 c4) (h5 : Blt w b5 t5 c5) (h6 : Blt w b6 t6 c6) (h7 : Blt w b7 t7 c7) : b1 < b ∧ b2 < b ∧ b3 < b ∧ b4 < b ∧ b5 < b ∧ b6 < b ∧ b7 < b := by
  subst e
  exact ⟨h1.lt, h2.lt, h3.lt, h4.lt, h5.lt, h6.lt, h7.lt⟩
theorem ah8 {w w' : World} (a : Ahead w w') {b1 b2 b3 b4 b5 b6 b7 b8 : Nat} {t1 t2 t3 t4 t5 t6 t7 t8 : TypeId} {c1 c2 c3 c4 c5 c6 c7 c8 : Array Value} (h1 : Blt w b1 t1 c1) (h2 : Blt w b2 t2 c2) (h3 : Blt w b3 t3 c3) (h4 : Blt w b4 t4 c4) (h5 : Blt w b5 t5 c5) (h6 : Blt w b6 t6 c6) (h7 : Blt w b7 t7 c7) (h8 : Blt w b8 t8 c8) : Blt w' b1 t1 c1 ∧ Blt w' b2 t2 c2 ∧ Blt w' b3 t3 c3 ∧ Blt w' b4 t4 c4 ∧ Blt w' b5 t5 c5 ∧ Blt w' b6 t6 c6 ∧ Blt w' b7 t7 c7 ∧ Blt w' b8 t8 c8 := ⟨h1.ahead a, h2.ahead a, h3.ahead a, h4.ahead a, h5.ahead a, h6.ahead a, h7.ahead a, h8.ahead a⟩
theorem up8 {k : Nat} {w w' : World} (u : Upt k w w') {b1 b2 b3 b4 b5 b6 b7 b8 : Nat} {t1 t2 t3 t4 t5 t6 t7 t8 : TypeId} {c1 c2 c3 c4 c5 c6 c7 c8 : Array Value} (h1 : Blt w b1 t1 c1) (h2 : Blt w b2 t2 c2) (h3 : Blt w b3 t3 c3) (h4 : Blt w b4 t4 c4) (h5 : Blt w b5 t5 c5) (h6 : Blt w b6 t6 c6) (h7 : Blt w b7 t7 c7) (h8 : Blt w b8 t8 c8) (d : b1 ≠ k ∧ b2 ≠ k ∧ b3 ≠ k ∧ b4 ≠ k ∧ b5 ≠ k ∧ b6 ≠ k ∧ b7 ≠ k ∧ b8 ≠ k := by refine ⟨?_, ?_, ?_, ?_, ?_, ?_, ?_, ?_⟩ <;> first | exact nl (by assumption) | exact ng (by assumption) | assumption | exact Ne.symm (by assumption) | omega) : Blt w' b1 t1 c1 ∧ Blt w' b2 t2 c2 ∧ Blt w' b3 t3 c3 ∧ Blt w' b4 t4 c4 ∧ Blt w' b5 t5 c5 ∧ Blt w' b6 t6 c6 ∧ Blt w' b7 t7 c7 ∧ Blt w' b8 t8 c8 := by
  obtain ⟨d1, d2, d3, d4, d5, d6, d7, d8⟩ := d
  exact ⟨u.blt h1 d1, u.blt h2 d2, u.blt h3 d3, u.blt h4 d4, u.blt h5 d5, u.blt h6 d6, u.blt h7 d7, u.blt h8 d8⟩
theorem lt8 {b : Nat} {w : World} (e : b = w.heap.size) {b1 b2 b3 b4 b5 b6 b7 b8 : Nat} {t1 t2 t3 t4 t5 t6 t7 t8 : TypeId} {c1 c2 c3 c4 c5 c6 c7 c8 : Array Value} (h1 : Blt w b1 t1 c1) (h2 : Blt w b2 t2 c2) (h3 : Blt w b3 t3 c3) (h4 : Blt w b4 t4 c4) (h5 : Blt w b5 t5 c5) (h6 : Blt w b6 t6 c6) (h7 : Blt w b7 t7 c7) (h8 : Blt w b8 t8 c8) : b1 < b ∧ b2 < b ∧ b3 < b ∧ b4 < b ∧ b5 < b ∧ b6 < b ∧ b7 < b ∧ b8 < b := by
  subst e
  exact ⟨h1.lt, h2.lt, h3.lt, h4.lt, h5.lt, h6.lt, h7.lt, h8.lt⟩
theorem st2_t {w : World} {b : Nat} {t : TypeId} {c0 c1 v0 v1 : Value} {ad0 ad1 : Addr} {K : World → Prop} (h : Blt w b t #[c0, c1]) (n0 : noU #[c0, c1] = true) (n1 : noU #[v0, c1] = true) (ht : rowTy t = false)
    (hk : ∀ w', Upt b w w' → Blt w' b t #[v0, v1] → K w') (hA0 : ad0 = ⟨b, 0, none⟩ := by first | rfl | exact add_off) (hA1 : ad1 = ⟨b, 1, none⟩ := by first | rfl | exact add_off) : stC ad0 v0 w fun w1 => stC ad1 v1 w1 K :=
  stC_t 0 h rfl n0 ht (fun w1 u1 h1 => stC_t 1 (show Blt w1 b t #[v0, c1] from h1) rfl n1 ht (fun w2 u2 h2 => hk w2 (u1.trans u2) h2) hA1) hA0
theorem st3_t {w : World} {b : Nat} {t : TypeId} {c0 c1 c2 v0 v1 v2 : Value} {ad0 ad1 ad2 : Addr} {K : World → Prop} (h : Blt w b t #[c0, c1, c2]) (n0 : noU #[c0, c1, c2] = true) (n1 : noU #[v0, c1, c2] = true) (n2 : noU #[v0, v1, c2] = true) (ht : rowTy t = false)
    (hk : ∀ w', Upt b w w' → Blt w' b t #[v0, v1, v2] → K w') (hA0 : ad0 = ⟨b, 0, none⟩ := by first | rfl | exact add_off) (hA1 : ad1 = ⟨b, 1, none⟩ := by first | rfl | exact add_off) (hA2 : ad2 = ⟨b, 2, none⟩ := by first | rfl | exact add_off) : stC ad0 v0 w fun w1 => stC ad1 v1 w1 fun w2 => stC ad2 v2 w2 K :=
  stC_t 0 h rfl n0 ht (fun w1 u1 h1 => stC_t 1 (show Blt w1 b t #[v0, c1, c2] from h1) rfl n1 ht (fun w2 u2 h2 => stC_t 2 (show Blt w2 b t #[v0, v1, c2] from h2) rfl n2 ht (fun w3 u3 h3 => hk w3 ((u1.trans u2).trans u3) h3) hA2) hA1) hA0

theorem le_eq {a b c : Nat} (h : a ≤ b) (e : c = b) : a ≤ c := by omega
theorem bb2 {w w' : World} {V0 V1 : Nat → Prop} {P : Prop} (a : Ahead w w') (h : P) : Bar V0 w w' ∧ Bar V1 w w' ∧ P := ⟨Bar.of_ahead a, Bar.of_ahead a, h⟩
theorem axa2 {w0 t w w' : World} (a : Ahead w w') (A : Ahead w0 w) (X : Ext t w) : Ahead w0 w' ∧ Ext t w' := ⟨A.trans a, X.trans (Ext.of_ahead a)⟩
theorem axa3 {w0 t w w' : World} {n : Nat} (a : Ahead w w') (A : Ahead w0 w) (X : Ext t w) (Y : n ≤ w.heap.size) : Ahead w0 w' ∧ Ext t w' ∧ n ≤ w'.heap.size := ⟨A.trans a, X.trans (Ext.of_ahead a), Nat.le_trans Y a.size⟩
theorem axu2 {w0 t w w' : World} {k : Nat} (u : Upt k w w') (g : w0.heap.size ≤ k) (A : Ahead w0 w) (X : Ext t w) : Ahead w0 w' ∧ Ext t w' := ⟨u.ahead A g, X.trans u.ext⟩
theorem axu3 {w0 t w w' : World} {k n : Nat} (u : Upt k w w') (g : w0.heap.size ≤ k) (A : Ahead w0 w) (X : Ext t w) (Y : n ≤ w.heap.size) : Ahead w0 w' ∧ Ext t w' ∧ n ≤ w'.heap.size := ⟨u.ahead A g, X.trans u.ext, Nat.le_trans Y (Nat.le_of_eq u.size.symm)⟩
theorem ldB_t (i : Nat) {w : World} {b : Nat} {t : TypeId} {cs : Array Value} {ad : Addr} {x : Bool} {K : Bool → Prop} (h : Blt w b t cs) (hc : cs[i]? = some (.bool x)) (hk : K x) (hA : ad = ⟨b, i, none⟩ := by first | rfl | exact add_off) : ldB ad w K := by
  subst hA; exact ⟨x, h.cell hc, hk⟩
theorem ldS_t (i : Nat) {w : World} {b : Nat} {t : TypeId} {cs : Array Value} {ad : Addr} {x : Slc} {K : Slc → Prop} (h : Blt w b t cs) (hc : cs[i]? = some x.v) (hk : K x) (hA : ad = ⟨b, i, none⟩ := by first | rfl | exact add_off) : ldS ad w K := by
  subst hA; exact ⟨x, h.cell hc, hk⟩
theorem ldI_t (i : Nat) {w : World} {b : Nat} {t : TypeId} {cs : Array Value} {ad : Addr} {k : IntKind} {x : Int} {K : Int → Prop} (h : Blt w b t cs) (hc : cs[i]? = some (.int k x)) (hk : K x) (hA : ad = ⟨b, i, none⟩ := by first | rfl | exact add_off) : ldI k ad w K := by
  subst hA; exact ⟨x, h.cell hc, hk⟩

theorem out_t {V : Nat → Prop} {ad : Addr} {b i : Nat} {p : Prop} (hA : ad = ⟨b, i, none⟩) (hv : ¬ V b) (h : p) : Out V ad p := by subst hA; exact ⟨hv, h⟩
theorem br_map {b : Bool} {X Y X' Y' : Prop} (h : br b X Y) (hx : X → X') (hy : Y → Y') : br b X' Y' := by cases b; exact hy h; exact hx h
theorem semwp_map {P : Program} {α : Type} {e : Sem α} {w : World} {Q Q' : α → World → Prop} {E : Halt → World → Prop} (h : Sem.wp P e Q E w) (hq : ∀ a w', Q a w' → Q' a w') : Sem.wp P e Q' E w := by
  rw [Sem.wp_iff_run] at h ⊢
  generalize e.run P w = r at h
  cases r with
  | halt x w' => exact h
  | ok n w' => exact hq _ _ h
section
variable {P : Program} {e : Sem Value} {w : World}
theorem semA_map {K K' : Addr → World → Prop} (h : semA P e w K) (hk : ∀ x w', K x w' → K' x w') : semA P e w K' := semwp_map h fun _ _ ⟨x, h1, h2⟩ => ⟨x, h1, hk _ _ h2⟩
end

/-- The block is no local variable's. -/
def NoLoc (w : World) (k : Nat) : Prop := ∀ (t : TypeId) (cs : Array Value), w.heap[k]? = some (Obj.cells cs t (0, 0)) → rowTy t = false → False
theorem bar_ahead2 {V : Nat → Prop} {w0 w w' : World} (h : Ahead w0 w) (hb : Bar V w w') (hv : ∀ k, V k → w0.heap.size ≤ k) : Ahead w0 w' :=
  ⟨hb.os.trans h.os, hb.tape.trans h.tape, hb.output.trans h.output, Nat.le_trans h.size hb.size, fun k hk => (hb.block k (Nat.lt_of_lt_of_le hk h.size) (fun h1 => by have := hv k h1; omega)).trans (Below.block h k hk)⟩

/-- A step that writes over rows of the call's own (the document's Own). -/
def OwnStep (w0 w w' : World) : Prop := ∃ V : Nat → Prop, Bar V w w' ∧ ∀ k, V k → w0.heap.size ≤ k ∧ NoLoc w k

theorem _root_.Go.Proofs.YtahbekmnphkiiaaDoor.Sp.Rd.ext {w w' : World} {s : Slc} {l : List Int} (h : Rd .u64 w s l) (x : Ext w w') : Rd .u64 w' s l :=
  ⟨h.n, h.c, fun i hi => by obtain ⟨ad, e, hc⟩ := h.get i hi; exact ⟨ad, e, x.cell _ _ hc⟩⟩
theorem _root_.Go.Proofs.YtahbekmnphkiiaaDoor.Sp.Own.ext {k : IntKind} {t : TypeId} {w w' : World} {s : Slc} {l : List Int} {b : Nat} (h : Own k t w s l b) (x : Ext w w') (ht : rowTy t = true := by rfl) : Own k t w' s l b := by
  obtain ⟨sp, h1, h2⟩ := h.mem
  exact ⟨h.hd, sp, h1, x.row _ _ _ _ h2 ht⟩

end L2
end Go.Proofs.YtahbekmnphkiiaaDoor
namespace Go.Proofs.YtahbekmnphkiiaaDoor
open Go Go.RowKit Eng Sp Dg
set_option linter.unusedVariables false
set_option linter.unusedSimpArgs false
set_option maxRecDepth 100000
namespace Ref
open _root_.Go.Proofs.YtahbekmnphkiiaaDoor.Nat (ldN OwnNil)

def isRw (P : Program) (t : TypeId) : Bool := match P.underlying t with
  | some (.slice e) => match P.info? e with
    | some i => i.size == 1
    | none => false
  | _ => false
theorem run_indexAtG {P : Program} {t : TypeId} (hT : isRw P t = true) (w : World) (s : Slc) (i : Int) (ad : Addr) (hA : s.A = some ad) (h0 : 0 ≤ i) (h1 : i < s.n) :
    (Instr.indexAt t s.v (.int .i64 i)).run P w = .ok (.pointer (some (ad.add i.toNat))) w := by
  unfold isRw at hT
  split at hT
  · rename_i e hu
    split at hT
    · rename_i inf hi
      have hs : inf.size = 1 := by simpa using hT
      obtain ⟨A, n, c⟩ := s
      simp only at hA h1
      subst hA
      simp only [Instr.indexAt, asIntOf, Slc.v, underlying, program, Sem.run_bind, Sem.run, Result.andThen, hu, Sem.run_pure]
      simp [h0, h1, sizeOf, typeInfo, program, Sem.run, hi, hs, hu]
    · cases hT
  · cases hT

/-- The slice's row lies in this block. -/
def Bk (s : Slc) (k : Nat) : Prop := s.A = some ⟨k, 0, none⟩
def upd {α : Type} (f : Nat → α) (i : Nat) (x : α) : Nat → α := fun j => if j = i then x else f j

/-- The state of a call of Own: the lists lie apart, in memory from base on; their heads stand in the block ab. -/
structure St (V : Nat → Prop) (base : Nat) (w0 : World) (ab n : Nat) (T : List Value) (w : World) (S : Nat → Slc) (L : Nat → List Nat) : Prop where
  low : Below base w0 w
  hab : base ≤ ab
  hsz : base ≤ w.heap.size
  row : w.heap[ab]? = some (.cells (((List.range n).map fun j => (S j).v) ++ T).toArray tU64s (0, 0))
  own : ∀ j, j < n → OwnNil base w (S j) (L j)
  nab : ∀ j, j < n → ¬ Bk (S j) ab
  apart : ∀ i j k, i < n → j < n → i ≠ j → Bk (S i) k → ¬ Bk (S j) k
  keepV : ∀ k, k < w0.heap.size → ¬ V k → w.heap[k]? = w0.heap[k]?
  vab : V ab
  vbig : ∀ k, w0.heap.size ≤ k → V k
  vS : ∀ j k, j < n → Bk (S j) k → V k

theorem St.ablt {V : Nat → Prop} {base : Nat} {w0 : World} {ab n : Nat} {T : List Value} {w : World} {S : Nat → Slc} {L : Nat → List Nat} (h : St V base w0 ab n T w S L) : ab < w.heap.size := (Array.getElem?_eq_some_iff.1 h.row).1

theorem OwnNil.block {base : Nat} {w w' : World} {s : Slc} {l : List Nat} (h : OwnNil base w s l) (hb : ∀ k, k < w.heap.size → Bk s k → w'.heap[k]? = w.heap[k]?) : OwnNil base w' s l := by
  rcases h with h | ⟨b, h1, h2, h3⟩
  · exact .inl h
  · refine .inr ⟨b, h1, h2, h3.hd, ?_⟩
    obtain ⟨sp, hc, hm⟩ := h3.mem
    exact ⟨sp, hc, by rw [hb b h3.lt h3.A]; exact hm⟩

theorem St.alloc {V : Nat → Prop} {base : Nat} {w0 : World} {ab n : Nat} {T : List Value} {w : World} {S : Nat → Slc} {L : Nat → List Nat} (h : St V base w0 ab n T w S L) (o : Obj) : St V base w0 ab n T (w.alloc o) S L where
  low := Below.alloc h.low h.hsz o
  hab := h.hab
  hsz := by rw [size_alloc]; have := h.hsz; omega
  row := by rw [Below.heap_alloc _ _ _ h.ablt]; exact h.row
  own := fun j hj => OwnNil.block (h.own j hj) fun k hk _ => Below.heap_alloc _ _ _ hk
  nab := h.nab
  apart := h.apart
  keepV := fun k hk hv => by rw [Below.heap_alloc _ _ _ (Nat.lt_of_lt_of_le hk h.low.size)]; exact h.keepV k hk hv
  vab := h.vab
  vbig := h.vbig
  vS := h.vS

theorem St.ld {V : Nat → Prop} {base : Nat} {w0 : World} {ab n c : Nat} {T : List Value} {w : World} {S : Nat → Slc} {L : Nat → List Nat} (h : St V base w0 ab n T w S L) {t : TypeId} (hT : isRw pr t = true) {i : Nat} (hi : i < n) {K : Slc → World → Prop} (hk : K (S i) w) :
    semA pr (Instr.indexAt t (Slc.v ⟨some ⟨ab, 0, none⟩, n, c⟩) (.int .i64 (i : Int))) w fun ad w1 => ldS ad w1 fun s => K s w1 := by
  unfold semA
  rw [Sem.wp_iff_run, run_indexAtG hT w ⟨some ⟨ab, 0, none⟩, n, c⟩ i ⟨ab, 0, none⟩ rfl (by omega) (by simp; omega), add_off]
  refine ⟨_, rfl, S i, ?_, hk⟩
  simp [World.cell?, h.row, hi, List.getElem?_append]

/-- A number is written into one of the lists. -/
theorem St.st {V : Nat → Prop} {base : Nat} {w0 : World} {ab n : Nat} {T : List Value} {w : World} {S : Nat → Slc} {L : Nat → List Nat} (h : St V base w0 ab n T w S L) {t : TypeId} (hT : isSl pr t .u64 = some tU64) {i k : Nat} (hi : i < n) (hk : k < (L i).length) {x : Nat} {K : World → Prop}
    (hK : ∀ w', St V base w0 ab n T w' S (upd L i ((L i).set k x)) → K w') :
    semA pr (Instr.indexAt t (S i).v (.int .i64 (k : Int))) w fun ad w1 => stC ad (.int .u64 (x : Int)) w1 fun w2 => K w2 := by
  rcases h.own i hi with ⟨_, hnil⟩ | ⟨b, hb, hc, ho⟩
  · rw [hnil] at hk; simp at hk
  · unfold semA
    rw [Sem.wp_iff_run, run_indexAt hT w (S i) k _ ho.A (by omega) (by rw [ho.n]; simpa using hk), add_off]
    refine ⟨_, rfl, ⟨_, ho.cell (by simpa using hk)⟩, ho.frozen _, hK _ ?_⟩
    have hbab : b ≠ ab := fun e => h.nab i hi (by rw [← e]; exact ho.A)
    refine ⟨Below.setCell h.low hb _, h.hab, by simpa [World.setCell] using h.hsz, ?_, ?_, h.nab, h.apart, ?_, h.vab, h.vbig, h.vS⟩
    · rw [Below.heap_setCell _ _ _ _ (by simpa using fun e => hbab e.symm)]; exact h.row
    · intro j hj
      unfold upd
      split
      · rename_i hji
        subst hji
        refine .inr ⟨b, hb, hc, ?_⟩
        have := ho.set (i := k) (by simpa using hk) (x : Int)
        rw [nn_set] at this
        exact this
      · rename_i hji
        refine OwnNil.block (h.own j hj) fun m hm hbm => Below.heap_setCell _ _ _ _ ?_
        intro e
        subst e
        exact h.apart i j _ hi hj (fun e => hji e.symm) ho.A hbm
    · intro m hm hv
      rw [Below.heap_setCell _ _ _ _ (by intro e; subst e; exact hv (h.vS i _ hi ho.A))]
      exact h.keepV m hm hv

/-- One of the lists grows, and its new head is stored. -/
theorem St.app {V : Nat → Prop} {base : Nat} {w0 : World} {ab n c : Nat} {T : List Value} {w : World} {S : Nat → Slc} {L : Nat → List Nat} (h : St V base w0 ab n T w S L) {t ty t2 : TypeId} (hT : isSl pr t .u64 = some tU64) (hT2 : isRw pr t2 = true) {i : Nat} (hi : i < n) {x : Slc} {ys : List Nat}
    (hx : Rd .u64 w x (nn ys)) (hy : 0 < ys.length) (hsz : ((L i).length + ys.length) * 8 ≤ 2 ^ 47) {K : World → Prop}
    (hK : ∀ w' s', St V base w0 ab n T w' (upd S i s') (upd L i (L i ++ ys)) → K w') :
    semS pr (Builtin.append_ #[t, t] ty #[(S i).v, x.v]) w fun s3 w6 => semA pr (Instr.indexAt t2 (Slc.v ⟨some ⟨ab, 0, none⟩, n, c⟩) (.int .i64 (i : Int))) w6 fun ad w7 => stC ad s3.v w7 fun w8 => K w8 := by
  obtain ⟨hu, he, inf, hinf, hs1, hb8, hz⟩ := isSl_out hT
  obtain ⟨ad, hA, _⟩ := hx.get 0 (by simpa using hy)
  have hrow : w.ownsRow base tU64 1 (S i).v (L i).length (ints .u64 (nn (L i))) := by
    rcases h.own i hi with ⟨h1, h2⟩ | ⟨b, h1, h2, h3⟩
    · rw [h1, h2]; exact ⟨rfl, .inl ⟨rfl, rfl⟩⟩
    · have := h3.ownsRow h1 h2
      rw [nn_length] at this
      exact this
  obtain ⟨v', w', hr, ho, hg, hn, hblk⟩ := run_append_own_at (P := pr) (ty := ty) w base t tU64 inf (.int .u64 0) 1 8 hu hinf hz hs1 hb8 rfl (by omega) (S i).v (L i).length (ints .u64 (nn (L i))) hrow ad ys.length x.c (ints .u64 (nn ys)) (by simp [ints])
    (fun j u hj => by
      have hj' : j < (nn ys).length := by
        have := (List.getElem?_eq_some_iff.1 hj).1
        simpa [ints] using this
      obtain ⟨ad', e', hc⟩ := hx.get j hj'
      rw [hA] at e'
      obtain rfl := Option.some.inj e'
      rw [ints_get hj'] at hj
      obtain rfl := Option.some.inj hj
      exact hc) (by simp [ints, Value.oneCell']) (by unfold maxLen; omega) (by omega) h.hsz
  have hne : v' ≠ .slice none 0 0 := fun e => by have := hn.1 e; omega
  have ho' : w'.ownsRow base tU64 1 v' (nn (L i ++ ys)).length (ints .u64 (nn (L i ++ ys))) := by
    simp only [ints, nn_append, List.map_append, List.length_append, nn_length]; exact ho
  obtain ⟨s', b', rfl, hb', hc', hown⟩ := own_of_row ho' hne
  unfold semS
  have hxv : x.v = .slice (some ad) ys.length x.c := by rw [Slc.v, hA, hx.n, nn_length]
  rw [Sem.wp_iff_run, hxv, hr]
  refine ⟨s', rfl, ?_⟩
  -- which blocks changed
  have hob : ∀ k, (S i).v.ownBlock = some k → Bk (S i) k ∧ base ≤ k := by
    intro k hk
    rcases h.own i hi with ⟨h1, _⟩ | ⟨b, h1, _, h3⟩
    · rw [h1] at hk; simp [Slc.v, Value.ownBlock] at hk
    · rw [Slc.v, h3.A] at hk
      simp [Value.ownBlock] at hk
      subst hk
      exact ⟨h3.A, h1⟩
  have keep : ∀ k, k < w.heap.size → ¬ Bk (S i) k → w'.heap[k]? = w.heap[k]? := fun k hk hb => hg.block k hk fun e => hb (hob k e.symm).1
  have hlow : Below base w w' := Below.grown (Below.refl _ _) hg h.hsz fun k hk => (hob k hk).2
  have hab' : w'.heap[ab]? = some (.cells (((List.range n).map fun j => (S j).v) ++ T).toArray tU64s (0, 0)) := by rw [keep ab h.ablt (h.nab i hi)]; exact h.row
  have hbnew : Bk s' b' := hown.A
  have hb2 : Bk (S i) b' ∨ b' = w.heap.size := by
    have e : s'.v.ownBlock = some b' := by rw [Slc.v, hown.A]; rfl
    rcases hblk with h1 | h1
    · exact .inl (hob b' (by rw [← h1]; exact e)).1
    · right
      rw [e] at h1
      exact Option.some.inj h1
  have hablt := h.ablt
  have hbab : b' ≠ ab := by
    rintro rfl
    rcases hb2 with h1 | h1
    · exact h.nab i hi h1
    · omega
  show semA pr (Instr.indexAt t2 (Slc.v ⟨some ⟨ab, 0, none⟩, n, c⟩) (.int .i64 (i : Int))) w' fun ad w7 => stC ad s'.v w7 fun w8 => K w8
  unfold semA
  rw [Sem.wp_iff_run, run_indexAtG hT2 w' ⟨some ⟨ab, 0, none⟩, n, c⟩ i ⟨ab, 0, none⟩ rfl (by omega) (by simp; omega), add_off]
  refine ⟨_, rfl, ⟨(S i).v, by simp [World.cell?, hab', hi, List.getElem?_append]⟩, by simp [World.frozen?, hab'], hK _ s' ?_⟩
  have hset : ∀ k, k ≠ ab → (w'.setCell ⟨ab, i, none⟩ s'.v).heap[k]? = w'.heap[k]? := fun k hk => Below.heap_setCell _ _ _ _ (by simpa using hk)
  refine ⟨Below.setCell (Below.trans h.low hlow) h.hab _, h.hab, ?_, ?_, ?_, ?_, ?_, ?_, h.vab, h.vbig, ?_⟩
  · have := h.hsz; have := hg.size; simp [World.setCell]; omega
  · have hlt : ab < w'.heap.size := (Array.getElem?_eq_some_iff.1 hab').1
    simp only [World.setCell]
    rw [Array.getElem?_modify, if_pos rfl, hab']
    simp only [Option.map_some, Option.some.injEq]
    congr 1
    apply Array.ext
    · simp
    · intro k hk1 hk2
      by_cases hk : k < n
      · by_cases hki : k = i
        · subst hki; simp [upd, List.getElem_append, hk]
        · simp [upd, hki, Ne.symm hki, Array.getElem_set, Array.getElem_setIfInBounds, List.getElem_append, hk]
      · simp [Ne.symm (show k ≠ i by omega), Array.getElem_setIfInBounds, List.getElem_append, hk, show ¬ i = k by omega]
  · intro j hj
    unfold upd
    split
    · rename_i hji
      subst hji
      refine .inr ⟨b', hb', hc', hown.hd, ?_⟩
      obtain ⟨sp, h1, h2⟩ := hown.mem
      exact ⟨sp, h1, (hset _ hbab).trans h2⟩
    · rename_i hji
      refine OwnNil.block (OwnNil.block (h.own j hj) fun k hk hbk => keep k hk fun e => h.apart i j k hi hj (fun e => hji e.symm) e hbk) fun k hk hbk => hset k ?_
      rintro rfl
      exact h.nab j hj hbk
  · intro j hj
    unfold upd
    split
    · intro e
      exact hbab (congrArg Addr.block (Option.some.inj (hbnew.symm.trans e)))
    · exact h.nab j hj
  · intro a c k ha hc hac
    unfold upd
    have only : ∀ j, j < n → j ≠ i → ∀ k, Bk (S j) k → Bk s' k → False := by
      intro j hj hji k h1 h2
      have : b' = k := congrArg Addr.block (Option.some.inj (hbnew.symm.trans h2))
      subst this
      rcases hb2 with h4 | h4
      · exact h.apart i j _ hi hj (fun e => hji e.symm) h4 h1
      · rcases h.own j hj with ⟨h5, _⟩ | ⟨b, _, _, h5⟩
        · rw [h5] at h1; simp [Bk] at h1
        · have h6 : b = b' := congrArg Addr.block (Option.some.inj (h5.A.symm.trans h1))
          have := h5.lt
          omega
    split
    · rename_i hai
      subst hai
      split
      · rename_i hci; exact absurd hci.symm hac
      · rename_i hci
        intro h1 h2
        exact only c hc hci k h2 h1
    · rename_i hai
      split
      · intro h1 h2
        exact only a ha hai k h1 h2
      · exact h.apart a c k ha hc hac
  · intro k hk hv
    have hkw := Nat.lt_of_lt_of_le hk h.low.size
    exact (Below.heap_setCell _ _ _ _ (by simpa using fun e => hv (by rw [e]; exact h.vab))).trans ((keep k hkw (fun e => hv (h.vS i k hi e))).trans (h.keepV k hk hv))
  · intro j k hj
    unfold upd
    split
    · intro e
      have : b' = k := congrArg Addr.block (Option.some.inj (hbnew.symm.trans e))
      subst this
      rcases hb2 with h1 | h1
      · exact h.vS i _ hi h1
      · exact h.vbig _ (by have := h.low.size; omega)
    · exact h.vS j k hj

/-- What Own writes into a list, and what it appends. -/
def fil (L : Nat → List Nat) (j : Nat) : List Nat := List.replicate (L j).length (j % 251 + 1)
def tl (j : Nat) : List Nat := [300 + 5 * j, 300 + 5 * j + 1, 300 + 5 * j + 2, 300 + 5 * j + 3, 300 + 5 * j + 4]
theorem upd_same {α : Type} (f : Nat → α) (i : Nat) (x : α) : upd f i x i = x := if_pos rfl
theorem upd_upd {α : Type} (f : Nat → α) (i : Nat) (x y : α) : upd (upd f i x) i y = upd f i y := by
  funext j; unfold upd; split <;> rfl
theorem upd_self {α : Type} (f : Nat → α) (i : Nat) : upd f i (f i) = f := by
  funext j; unfold upd; split
  · rename_i h; rw [h]
  · rfl
theorem tl_getD (i k : Nat) (h : k < 5) : (tl i).getD k 0 = 300 + 5 * i + k := by
  have : k = 0 ∨ k = 1 ∨ k = 2 ∨ k = 3 ∨ k = 4 := by omega
  rcases this with rfl | rfl | rfl | rfl | rfl <;> rfl

theorem St.congr {V : Nat → Prop} {base : Nat} {w0 : World} {ab n : Nat} {T : List Value} {w : World} {S : Nat → Slc} {L L' : Nat → List Nat} (h : St V base w0 ab n T w S L) (e : ∀ j, j < n → L j = L' j) : St V base w0 ab n T w S L' :=
  ⟨h.low, h.hab, h.hsz, h.row, fun j hj => by rw [← e j hj]; exact h.own j hj, h.nab, h.apart, h.keepV, h.vab, h.vbig, h.vS⟩
theorem fil_getD (L : Nat → List Nat) (i k : Nat) : (fil L i ++ tl i).getD k 0 = if k < (L i).length then i % 251 + 1 else if k < (L i).length + 5 then 300 + 5 * i + (k - (L i).length) else 0 := by
  by_cases h : k < (L i).length
  · rw [if_pos h]
    simp [fil, List.getD_eq_getElem?_getD, List.getElem?_append, h]
  · rw [if_neg h]
    have e : (fil L i ++ tl i).getD k 0 = (tl i).getD (k - (L i).length) 0 := by
      simp [fil, List.getD_eq_getElem?_getD, List.getElem?_append, h]
    rw [e]
    by_cases h2 : k < (L i).length + 5
    · rw [if_pos h2]; exact tl_getD i _ (by omega)
    · rw [if_neg h2, getD_ge]; simp [tl]; omega

theorem Own_spec {V : Nat → Prop} {base : Nat} {w0 w : World} {ab n c : Nat} {T : List Value} {S : Nat → Slc} {L : Nat → List Nat} (h : St V base w0 ab n T w S L) (hn : n ≤ 1000) (hL : ∀ j, j < n → ((L j).length + 5) * 8 ≤ 2 ^ 47) :
    Calls pr surdref01_Own_id #[Slc.v ⟨some ⟨ab, 0, none⟩, n, c⟩] w fun e w' => (Below base w0 w' ∧ ∀ k, k < w0.heap.size → ¬ V k → w'.heap[k]? = w0.heap[k]?) ∧ e = .returned (.bool true) := by
  have hB := B64v
  refine surdref01_Own_vc ⟨some ⟨ab, 0, none⟩, n, c⟩ w _
    (fun t0 t13 t14 t15 w' => t0 = ⟨some ⟨ab, 0, none⟩, n, c⟩ ∧ t13 = ⟨some ⟨ab, 0, none⟩, n, c⟩ ∧ t14 = (n : Int) ∧ ∃ i : Nat, t15 = (i : Int) ∧ i ≤ n ∧ St V base w0 ab n T w' S (fun j => if j < i then fil L j else L j))
    (fun _ _ n i _ => (n - i).toNat)
    (fun o0 o13 o14 o15 ow t0 t3 t4 t13 t14 t15 t21 t22 w' => t0 = ⟨some ⟨ab, 0, none⟩, n, c⟩ ∧ t13 = ⟨some ⟨ab, 0, none⟩, n, c⟩ ∧ t14 = (n : Int) ∧ ∃ (i k : Nat) (R : List Nat), o15 = (i : Int) ∧ t3 = (i : Int) ∧ t15 = (i : Int) ∧ i < n ∧ t4 = S i ∧ t21 = ((L i).length : Int) ∧ t22 = (k : Int) ∧ k ≤ (L i).length ∧
      R.length = (L i).length ∧ (∀ m, m < k → R.getD m 0 = i % 251 + 1) ∧ St V base w0 ab n T w' S (upd (fun j => if j < i then fil L j else L j) i R))
    (fun _ _ _ _ _ _ _ _ _ _ _ n k _ => (n - k).toNat)
    (fun t0 t34 t35 t36 w' => t0 = ⟨some ⟨ab, 0, none⟩, n, c⟩ ∧ t34 = ⟨some ⟨ab, 0, none⟩, n, c⟩ ∧ t35 = (n : Int) ∧ ∃ (i : Nat) (S' : Nat → Slc), t36 = (i : Int) ∧ i ≤ n ∧ St V base w0 ab n T w' S' (fun j => if j < i then fil L j ++ tl j else fil L j))
    (fun _ _ n i _ => (n - i).toNat)
    (fun t62 t63 t64 w' => t62 = ⟨some ⟨ab, 0, none⟩, n, c⟩ ∧ t63 = (n : Int) ∧ ∃ (i : Nat) (S' : Nat → Slc), t64 = (i : Int) ∧ i ≤ n ∧ St V base w0 ab n T w' S' (fun j => fil L j ++ tl j))
    (fun _ n i _ => (n - i).toNat)
    (fun o62 o63 o64 ow t9 t10 t62 t63 t64 t69 t70 t71 w' => t62 = ⟨some ⟨ab, 0, none⟩, n, c⟩ ∧ t63 = (n : Int) ∧ ∃ (i k : Nat) (S' : Nat → Slc), o64 = (i : Int) ∧ t9 = (i : Int) ∧ t64 = (i : Int) ∧ i < n ∧ t10 = S' i ∧ t69 = S' i ∧ t70 = ((L i).length + 5 : Nat) ∧ t71 = (k : Int) ∧ k ≤ (L i).length + 5 ∧ St V base w0 ab n T w' S' (fun j => fil L j ++ tl j))
    (fun _ _ _ _ _ _ _ _ _ _ n k _ => (n - k).toNat) ?_ ?_ ?_ ?_ ?_ ?_
  · exact ⟨rfl, rfl, rfl, 0, rfl, Nat.zero_le _, by simpa using h⟩
  · rintro t0 t13 t14 t15 w1 ⟨rfl, rfl, rfl, i, rfl, hi, hst⟩
    refine br_intro (fun hlt => ?_) (fun hge => ?_)
    · have hi' : i < n := by simp at hlt; omega
      refine hst.ld (by kernel_rfl) hi' ?_
      have ho := (hst.own i hi').rd
      rw [if_neg (by omega)] at ho
      refine ⟨rfl, rfl, rfl, i, 0, L i, rfl, rfl, rfl, hi', rfl, by rw [ho.n, nn_length], rfl, Nat.zero_le _, rfl, fun m hm => by omega, ?_⟩
      have e : upd (fun j => if j < i then fil L j else L j) i (L i) = fun j => if j < i then fil L j else L j := by
        have := upd_self (fun j => if j < i then fil L j else L j) i
        rw [if_neg (by omega)] at this
        exact this
      rw [e]
      exact hst
    · have hi' : i = n := by simp at hge; omega
      subst hi'
      exact ⟨rfl, rfl, rfl, 0, S, rfl, Nat.zero_le _, hst.congr fun j hj => by rw [if_pos hj, if_neg (by omega)]⟩
  · rintro t0 t13 t14 t15 w1 _ t0' t3' t4' t13' t14' t15' t21' t22' w2 ⟨rfl, rfl, rfl, i, k, R, rfl, rfl, rfl, hi, rfl, rfl, rfl, hk, hR, hd, hst⟩
    have hLi := hL i hi
    refine br_intro (fun hlt => ?_) (fun hge => ?_)
    · have hk' : k < (L i).length := by simp at hlt; omega
      have e8 : IntKind.i64.wrap ((k : Int) + 1) = ((k + 1 : Nat) : Int) := by rw [wrap_i64 (by omega) (by omega)]; omega
      have e1 : IntKind.u64.wrap (IntKind.i64.wrap (Int.tmod (i : Int) 251 + 1)) = ((i % 251 + 1 : Nat) : Int) := by
        have : Int.tmod (i : Int) 251 = ((i % 251 : Nat) : Int) := by rw [Int.tmod_eq_emod_of_nonneg (by omega)]; omega
        rw [this, wrap_i64 (by omega) (by omega), wrap_u64' (by omega) (by omega)]; omega
      rw [e1]
      refine hst.st (by kernel_rfl) hi (by rw [upd_same]; omega) ?_
      intro w3 hst3
      rw [upd_same, upd_upd] at hst3
      refine ⟨⟨rfl, rfl, rfl, i, k + 1, R.set k (i % 251 + 1), rfl, rfl, rfl, hi, rfl, rfl, e8, hk', by simpa using hR, fun m hm => ?_, hst3⟩, by rw [e8]; omega⟩
      rw [getD_set _ _ _ _ (by omega)]
      split
      · rfl
      · exact hd m (by omega)
    · have hk' : k = (L i).length := by simp at hge; omega
      subst hk'
      have e8 : IntKind.i64.wrap ((i : Int) + 1) = ((i + 1 : Nat) : Int) := by rw [wrap_i64 (by omega) (by omega)]; omega
      have hRf : R = fil L i := ext_getD (by rw [hR, fil, List.length_replicate]) fun m hm => by
        rw [hd m (by omega), fil]
        simp [List.getD_eq_getElem?_getD, List.getElem?_replicate, show m < (L i).length by omega]
      refine ⟨⟨rfl, rfl, rfl, i + 1, e8, hi, hst.congr fun j hj => ?_⟩, by rw [e8]; omega⟩
      unfold upd
      by_cases hji : j = i
      · subst hji; rw [if_pos rfl, if_pos (by omega), hRf]
      · rw [if_neg hji]
        show (if j < i then _ else _) = _
        by_cases hlt : j < i
        · rw [if_pos hlt, if_pos (by omega)]
        · rw [if_neg hlt, if_neg (by omega)]
  · rintro t0 t34 t35 t36 w1 ⟨rfl, rfl, rfl, i, S', rfl, hi, hst⟩
    refine br_intro (fun hlt => ?_) (fun hge => ?_)
    · have hi' : i < n := by simp at hlt; omega
      have hLi := hL i hi'
      have e8 : IntKind.i64.wrap ((i : Int) + 1) = ((i + 1 : Nat) : Int) := by rw [wrap_i64 (by omega) (by omega)]; omega
      have e0 : IntKind.u64.wrap (IntKind.i64.wrap (300 + IntKind.i64.wrap (5 * (i : Int)))) = ((300 + 5 * i : Nat) : Int) := by
        rw [wrap_i64 (x := 5 * (i : Int)) (by omega) (by omega), wrap_i64 (by omega) (by omega), wrap_u64' (by omega) (by omega)]; omega
      have e1 : IntKind.u64.wrap (((300 + 5 * i : Nat) : Int) + 1) = ((300 + 5 * i + 1 : Nat) : Int) := by rw [wrap_u64' (by omega) (by omega)]; omega
      have e2 : IntKind.u64.wrap (((300 + 5 * i : Nat) : Int) + 2) = ((300 + 5 * i + 2 : Nat) : Int) := by rw [wrap_u64' (by omega) (by omega)]; omega
      have e3 : IntKind.u64.wrap (((300 + 5 * i : Nat) : Int) + 3) = ((300 + 5 * i + 3 : Nat) : Int) := by rw [wrap_u64' (by omega) (by omega)]; omega
      have e4 : IntKind.u64.wrap (((300 + 5 * i : Nat) : Int) + 4) = ((300 + 5 * i + 4 : Nat) : Int) := by rw [wrap_u64' (by omega) (by omega)]; omega
      rw [e0, e1, e2, e3, e4]
      refine hst.ld (by kernel_rfl) hi' ?_
      have hst2 := hst.alloc (.cells (ints .u64 (nn (tl i))).toArray tU64 (0, 0))
      have hlit : Rd .u64 (w1.alloc (.cells (ints .u64 (nn (tl i))).toArray tU64 (0, 0))) ⟨some ⟨w1.heap.size, 0, none⟩, 5, 5⟩ (nn (tl i)) :=
        Own.rd (t := tU64) (b := w1.heap.size) ⟨rfl, [], rfl, by rw [get_alloc]; simp⟩
      have hG : (if i < i then fil L i ++ tl i else fil L i) = fil L i := if_neg (by omega)
      refine hst2.app (by kernel_rfl) (by kernel_rfl) hi' hlit (by simp [tl]) (by rw [hG]; simp [fil, tl]; omega) ?_
      intro w8 s' hst8
      refine ⟨⟨rfl, rfl, rfl, i + 1, upd S' i s', e8, hi', hst8.congr fun j hj => ?_⟩, by rw [e8]; omega⟩
      rw [hG]
      unfold upd
      by_cases hji : j = i
      · subst hji; rw [if_pos rfl, if_pos (by omega)]
      · rw [if_neg hji]
        show (if j < i then _ else _) = _
        by_cases hlt : j < i
        · rw [if_pos hlt, if_pos (by omega)]
        · rw [if_neg hlt, if_neg (by omega)]
    · have hi' : i = n := by simp at hge; omega
      subst hi'
      exact ⟨rfl, rfl, 0, S', rfl, Nat.zero_le _, hst.congr fun j hj => by rw [if_pos hj]⟩
  · rintro t62 t63 t64 w1 ⟨rfl, rfl, i, S', rfl, hi, hst⟩
    refine br_intro (fun hlt => ?_) (fun hge => ?_)
    · have hi' : i < n := by simp at hlt; omega
      refine hst.ld (by kernel_rfl) hi' ?_
      have ho := (hst.own i hi').rd
      exact ⟨rfl, rfl, i, 0, S', rfl, rfl, rfl, hi', rfl, rfl, by rw [ho.n, nn_length]; simp [fil, tl], rfl, Nat.zero_le _, hst⟩
    · exact ⟨⟨hst.low, hst.keepV⟩, rfl⟩
  · rintro t62 t63 t64 w1 _ t9' t10' t62' t63' t64' t69' t70' t71' w2 ⟨rfl, rfl, i, k, S', rfl, rfl, rfl, hi, rfl, rfl, rfl, rfl, hk, hst⟩
    have hLi := hL i hi
    have ho := (hst.own i hi).rd
    have hon : (S' i).n = (L i).length + 5 := by rw [ho.n, nn_length]; simp [fil, tl]
    have hlen : (fil L i ++ tl i).length = (L i).length + 5 := by simp [fil, tl]
    refine br_intro (fun hlt => ?_) (fun hge => ?_)
    · have hk' : k < (L i).length + 5 := by simp at hlt; omega
      have e8 : IntKind.i64.wrap ((k : Int) + 1) = ((k + 1 : Nat) : Int) := by rw [wrap_i64 (by omega) (by omega)]; omega
      have e1 : IntKind.u64.wrap (IntKind.i64.wrap (Int.tmod (i : Int) 251 + 1)) = ((i % 251 + 1 : Nat) : Int) := by
        have : Int.tmod (i : Int) 251 = ((i % 251 : Nat) : Int) := by rw [Int.tmod_eq_emod_of_nonneg (by omega)]; omega
        rw [this, wrap_i64 (by omega) (by omega), wrap_u64' (by omega) (by omega)]; omega
      have e5 : IntKind.i64.wrap (((S' i).n : Int) - 5) = ((L i).length : Int) := by rw [hon, wrap_i64 (by omega) (by omega)]; omega
      have go : ((⟨some ⟨ab, 0, none⟩, n, c⟩ : Slc) = ⟨some ⟨ab, 0, none⟩, n, c⟩ ∧ (n : Int) = (n : Int) ∧ ∃ (i' k' : Nat) (S'' : Nat → Slc), (i : Int) = (i' : Int) ∧ (i : Int) = (i' : Int) ∧ (i : Int) = (i' : Int) ∧ i' < n ∧ S' i = S'' i' ∧ S' i = S'' i' ∧ (((L i).length + 5 : Nat) : Int) = ((L i').length + 5 : Nat) ∧ IntKind.i64.wrap ((k : Int) + 1) = (k' : Int) ∧ k' ≤ (L i').length + 5 ∧ St V base w0 ab n T w2 S'' (fun j => fil L j ++ tl j)) ∧
          ((((L i).length + 5 : Nat) : Int) - IntKind.i64.wrap ((k : Int) + 1)).toNat < ((((L i).length + 5 : Nat) : Int) - (k : Int)).toNat :=
        ⟨⟨rfl, rfl, i, k + 1, S', rfl, rfl, rfl, hi, rfl, rfl, rfl, e8, hk', hst⟩, by rw [e8]; omega⟩
      refine ldN ho (by omega) (by omega) ?_
      rw [Int.toNat_natCast, fil_getD, e5, e1]
      refine br_intro (fun h2 => ?_) (fun h2 => ?_)
      · have h2' : k < (L i).length := by simp at h2; omega
        rw [if_pos h2']
        refine br_false (by simp) (br_false (by simp; omega) go)
      · have h2' : (L i).length ≤ k := by simp at h2; omega
        rw [if_neg (by omega), if_pos hk']
        have e6 : IntKind.u64.wrap (IntKind.i64.wrap (IntKind.i64.wrap (IntKind.i64.wrap (IntKind.i64.wrap (300 + IntKind.i64.wrap (5 * (i : Int))) + (k : Int)) - ((S' i).n : Int)) + 5)) = ((300 + 5 * i + (k - (L i).length) : Nat) : Int) := by
          rw [hon, wrap_i64 (x := 5 * (i : Int)) (by omega) (by omega), wrap_i64 (x := 300 + 5 * (i : Int)) (by omega) (by omega), wrap_i64 (x := 300 + 5 * (i : Int) + (k : Int)) (by omega) (by omega),
            wrap_i64 (x := 300 + 5 * (i : Int) + (k : Int) - _) (by omega) (by omega), wrap_i64 (by omega) (by omega), wrap_u64' (by omega) (by omega)]
          omega
        rw [e6]
        exact br_true (by simp; omega) (br_false (by simp) go)
    · have hk' : k = (L i).length + 5 := by simp at hge; omega
      subst hk'
      have e8 : IntKind.i64.wrap ((i : Int) + 1) = ((i + 1 : Nat) : Int) := by rw [wrap_i64 (by omega) (by omega)]; omega
      exact ⟨⟨rfl, rfl, i + 1, S', e8, hi, hst⟩, by rw [e8]; omega⟩

end Ref
end Go.Proofs.YtahbekmnphkiiaaDoor
namespace Go.Proofs.YtahbekmnphkiiaaDoor
open Go Go.RowKit Eng Sp Dg
set_option linter.unusedVariables false
set_option linter.unusedSimpArgs false
set_option maxRecDepth 100000
namespace Ref
open _root_.Go.Proofs.YtahbekmnphkiiaaDoor.Nat (OwnNil Num Ret bigC subC Yes own_num num_of digs_len_bl bigC_ok)

theorem own_listV {base : Nat} {w : World} (ss : List (Slc × List Nat)) (hb : base ≤ w.heap.size) (h : ∀ p ∈ ss, OwnNil base w p.1 p.2 ∧ (p.2.length + 5) * 8 ≤ 2 ^ 47) (hp : ss.Pairwise fun p q => ∀ k, Bk p.1 k → ¬ Bk q.1 k) (hn : ss.length ≤ 1000)
    {arr : Array Value} {n : Nat} (harr : arr = (ss.map fun p => p.1.v).toArray) (hnn : n = ss.length) :
    Calls pr surdref01_Own_id #[Slc.v ⟨some ⟨w.heap.size, 0, none⟩, n, n⟩] (w.alloc (.cells arr tU64s (0, 0))) fun e w' => e = .returned (.bool true) ∧ Below base w w' ∧ (w.alloc (.cells arr tU64s (0, 0))).heap.size ≤ w'.heap.size ∧ ∀ k, k < w.heap.size → (∀ p ∈ ss, ¬ Bk p.1 k) → w'.heap[k]? = w.heap[k]? := by
  subst harr hnn
  have hget : ∀ j, j < ss.length → ss.getD j (⟨none, 0, 0⟩, []) ∈ ss := fun j hj => by
    rw [List.getD_eq_getElem?_getD, List.getElem?_eq_getElem hj]; exact List.getElem_mem hj
  have hal : ∀ {arr : Array Value} {t : TypeId}, Below base w (w.alloc (.cells arr t (0, 0))) := Below.alloc (Below.refl _ _) hb _
  refine Calls.mono (Own_spec (c := ss.length) (T := []) (V := fun k => w.heap.size ≤ k ∨ ∃ p ∈ ss, Bk p.1 k) (base := base) (w0 := w.alloc (.cells (ss.map fun p => p.1.v).toArray tU64s (0, 0))) (ab := w.heap.size) (n := ss.length) (S := fun j => (ss.getD j (⟨none, 0, 0⟩, [])).1) (L := fun j => (ss.getD j (⟨none, 0, 0⟩, [])).2) ⟨Below.refl _ _, hb, ?_, ?_, ?_, ?_, ?_, fun _ _ _ => rfl, .inl (Nat.le_refl _), fun k hk => .inl (by rw [size_alloc] at hk; omega), fun j k hj hbk => .inr ⟨_, hget j hj, hbk⟩⟩ hn fun j hj => (h _ (hget j hj)).2) fun e w' ⟨⟨h1, h3⟩, h2⟩ => ⟨h2, Below.trans hal h1, h1.size, fun k hk hv => (h3 k (by rw [size_alloc]; omega) fun hh => by
    rcases hh with hh | ⟨p, hp, hh⟩
    · omega
    · exact hv p hp hh).trans (Below.heap_alloc _ _ _ hk)⟩
  · rw [size_alloc]; omega
  · rw [get_alloc, List.append_nil]
    congr 3
    apply List.ext_getElem
    · simp
    · intro i h1 h2
      have hi : i < ss.length := by simpa using h1
      simp [List.getD_eq_getElem?_getD, hi]
  · intro j hj
    refine OwnNil.block (h _ (hget j hj)).1 fun k hk _ => Below.heap_alloc _ _ _ hk
  · intro j hj hbk
    rcases (h _ (hget j hj)).1 with ⟨h1, _⟩ | ⟨b, _, _, ho⟩
    · simp only [Bk, h1] at hbk; cases hbk
    · have : b = w.heap.size := congrArg Addr.block (Option.some.inj (ho.A.symm.trans hbk))
      have := ho.lt
      omega
  · intro i j k hi hj hij h1 h2
    rw [List.pairwise_iff_getElem] at hp
    simp only [List.getD_eq_getElem?_getD, List.getElem?_eq_getElem hi, List.getElem?_eq_getElem hj, Option.getD_some] at h1 h2
    rcases Nat.lt_or_ge i j with hlt | hge
    · exact hp i j hi hj hlt k h1 h2
    · exact hp j i hj hi (by omega) k h2 h1

theorem old_new {b1 m : Nat} {wa wb : World} {s t : Slc} {l l' : List Nat} (hs : OwnNil b1 wa s l) (hm : wa.heap.size ≤ m) (ht : OwnNil m wb t l') (k : Nat) (h1 : Bk s k) : ¬ Bk t k := by
  intro h2
  rcases hs with ⟨rfl, _⟩ | ⟨b, _, _, ho⟩
  · simp [Bk] at h1
  rcases ht with ⟨rfl, _⟩ | ⟨b', hb', _, ho'⟩
  · simp [Bk] at h2
  have e1 : b = k := congrArg Addr.block (Option.some.inj (ho.A.symm.trans h1))
  have e2 : b' = k := congrArg Addr.block (Option.some.inj (ho'.A.symm.trans h2))
  have := ho.lt
  omega

theorem len32 {l : List Nat} (h : ok B64 l) : (digs B32 (val B64 l)).length ≤ 2 * l.length := by
  refine digs_length_le two32 ?_
  rw [← b64_sq]
  exact val_lt h

theorem digs_add_len {B x y k : Nat} (hB : 2 ≤ B) (hx : (digs B x).length ≤ k) (hy : (digs B y).length ≤ k) : (digs B (x + y)).length ≤ k + 1 := by
  have h : ∀ z, (digs B z).length ≤ k → z < B ^ k := fun z hz => by
    have := val_lt (ok_digs hB z)
    rw [val_digs hB] at this
    exact Nat.lt_of_lt_of_le this (Nat.pow_le_pow_right (by omega) hz)
  refine digs_length_le hB ?_
  have h1 := h x hx
  have h2 := h y hy
  rw [Nat.pow_succ]
  have := Nat.mul_le_mul_left (B ^ k) hB
  omega

end Ref
end Go.Proofs.YtahbekmnphkiiaaDoor
namespace Go.Proofs.YtahbekmnphkiiaaDoor
open Go Go.RowKit Eng Sp Dg L2
set_option linter.unusedVariables false
namespace Nat
theorem OwnNil.ext {base : Nat} {w w' : World} {s : Slc} {l : List Nat} (h : OwnNil base w s l) (x : Ext w w') : OwnNil base w' s l := by
  rcases h with h | ⟨b, h1, h2, h3⟩
  · exact .inl h
  · exact .inr ⟨b, h1, h2, h3.ext x⟩
theorem Num.ext {w w' : World} {s : Slc} {n : Nat} (h : Num w s n) (x : Ext w w') : Num w' s n := by
  obtain ⟨l, h1, h2⟩ := h
  exact ⟨l, h1.ext x, h2⟩
end Nat
namespace Ref
theorem Lent.ext {base : Nat} {w w' : World} {s t : Slc} {l : List Nat} (h : Lent base w s t l) (x : Ext w w') : Lent base w' s t l := by
  obtain ⟨b, h1, h2, h3, h4⟩ := h
  exact ⟨b, h1, h2, h3.ext x, h4⟩
theorem RN.ext {w w' : World} {s : Slc} {n : Nat} (h : RN w s n) (x : Ext w w') : RN w' s n := Sp.Rd.ext h x
/-- Own, as a step. -/
theorem own_step {base : Nat} {w0 w : World} (hw0 : w0.heap.size ≤ base) (ss : List (Slc × List Nat)) (hb : base ≤ w.heap.size) (h : ∀ p ∈ ss, Nat.OwnNil base w p.1 p.2 ∧ (p.2.length + 5) * 8 ≤ 2 ^ 47) (hp : ss.Pairwise fun p q => ∀ k, Bk p.1 k → ¬ Bk q.1 k) (hn : ss.length ≤ 1000)
    {arr : Array Value} {n : Nat} (harr : arr = (ss.map fun p => p.1.v).toArray) (hnn : n = ss.length) :
    Calls pr surdref01_Own_id #[Slc.v ⟨some ⟨w.heap.size, 0, none⟩, n, n⟩] (w.alloc (.cells arr tU64s (0, 0))) fun e w' => e = .returned (.bool true) ∧ OwnStep w0 (w.alloc (.cells arr tU64s (0, 0))) w' ∧ Below base w w' := by
  refine Calls.mono (own_listV ss hb h hp hn harr hnn) fun e w' ⟨h1, hlow, hsz, hkeep⟩ => ⟨h1, ⟨fun k => w.heap.size ≤ k ∨ ∃ p ∈ ss, Bk p.1 k, ⟨hlow.os, hlow.tape, hlow.output, hsz, fun k hk hv => ?_⟩, fun k hv => ⟨?_, fun t cs hc ht => ?_⟩⟩, hlow⟩
  · have hk' : k < w.heap.size := by
      rcases Nat.lt_or_ge k w.heap.size with h | h
      · exact h
      · exact absurd (.inl h) hv
    rw [hkeep k hk' fun p hp hbk => hv (.inr ⟨p, hp, hbk⟩)]
    exact (Below.heap_alloc _ _ _ hk').symm
  · rcases hv with hv | ⟨p, hp, hbk⟩
    · omega
    · rcases (h p hp).1 with ⟨h2, _⟩ | ⟨b, h2, _, h3⟩
      · simp only [Bk, h2] at hbk; cases hbk
      · have : b = k := congrArg Addr.block (Option.some.inj (h3.A.symm.trans hbk))
        omega
  · rcases hv with hv | ⟨p, hp, hbk⟩
    · rcases Nat.eq_or_lt_of_le hv with rfl | hv
      · rw [get_alloc] at hc
        have := Option.some.inj hc
        injection this with q1 q2 q3
        rw [← q2] at ht
        simp [rowTy] at ht
      · have := (Array.getElem?_eq_some_iff.1 hc).1
        rw [size_alloc] at this
        omega
    · rcases (h p hp).1 with ⟨h2, _⟩ | ⟨b, h2, _, h3⟩
      · simp only [Bk, h2] at hbk; cases hbk
      · have e : b = k := congrArg Addr.block (Option.some.inj (h3.A.symm.trans hbk))
        subst e
        obtain ⟨sp, _, hm⟩ := h3.mem
        have hl := h3.lt
        rw [Below.heap_alloc _ _ _ hl, hm] at hc
        have := Option.some.inj hc
        injection this with q1 q2 q3
        rw [← q2] at ht
        simp [rowTy] at ht
end Ref
end Go.Proofs.YtahbekmnphkiiaaDoor
namespace Go.Proofs.YtahbekmnphkiiaaDoor
open Go Go.RowKit Eng
set_option linter.unusedVariables false

set_option maxRecDepth 100000 in
/-- surd/surdref06.Ceil: function 53. -/
theorem surdref06_Ceil_vc (a0_a_0 : Bool) (a0_a_1 : Slc) (a1_b_0 : Bool) (a1_b_1 : Slc) (w : World) (R : Ending → World → Prop)
    
    (h : newC w #[Value.bool a0_a_0, a0_a_1.v] 27 fun ad1 w1 =>
    newC w1 #[Value.bool a1_b_0, a1_b_1.v] 27 fun ad2 w2 =>
    newC w2 #[Value.bool false, (⟨none, 0, 0⟩ : Slc).v] 27 fun ad3 w3 =>
    newC w3 #[Value.bool false, (⟨none, 0, 0⟩ : Slc).v] 27 fun ad4 w4 =>
    ldB ad1 w4 fun b1 =>
    ldS (ad1.add 1) w4 fun s1 =>
    ldB ad2 w4 fun b2 =>
    ldS (ad2.add 1) w4 fun s2 =>
    Calls Tryd.prog 52 #[Value.agg #[Value.bool b1, s1.v], Value.agg #[Value.bool b2, s2.v]] w4 fun e1 w5 =>
    ∃ b3 : Bool, ∃ s3 : Slc, ∃ b4 : Bool, ∃ s4 : Slc, e1 = .returned (Value.tuple #[Value.agg #[Value.bool b3, s3.v], Value.agg #[Value.bool b4, s4.v]]) ∧
    (newC w5 #[Value.bool false, (⟨none, 0, 0⟩ : Slc).v] 27 fun ad5 w6 =>
     newC w6 #[Value.bool false, (⟨none, 0, 0⟩ : Slc).v] 27 fun ad6 w7 =>
     stC ad5 (Value.bool b3) w7 fun w8 =>
     stC (ad5.add 1) s3.v w8 fun w9 =>
     stC ad6 (Value.bool b4) w9 fun w10 =>
     stC (ad6.add 1) s4.v w10 fun w11 =>
     ldB ad6 w11 fun b5 =>
     ldS (ad6.add 1) w11 fun s5 =>
     Calls Tryd.prog 43 #[Value.agg #[Value.bool b5, s5.v]] w11 fun e2 w12 =>
     ∃ x1 : Int, e2 = .returned (Value.int .i64 x1) ∧
     (br (x1 == 0)
      (∃ V1 : Nat → Nat → Prop, Out (V1 0) ad5 (ldB ad5 w12.drew fun b6 =>
        ldS (ad5.add 1) w12.drew fun s6 =>
        Out (V1 1) ad6 (ldB ad6 w12.drew fun b7 =>
         ldS (ad6.add 1) w12.drew fun s7 =>
         stC ad3 (Value.bool b6) w12.drew fun w13 =>
         stC (ad3.add 1) s6.v w13 fun w14 =>
         Bar (V1 1) w12.drew w14 ∧
         (stC ad4 (Value.bool b7) w14 fun w15 =>
          stC (ad4.add 1) s7.v w15 fun w16 =>
          ldB ad3 w16 fun b8 =>
          ldS (ad3.add 1) w16 fun s8 =>
          ldB ad4 w16 fun b9 =>
          ldS (ad4.add 1) w16 fun s9 =>
          R (.returned (Value.tuple #[Value.agg #[Value.bool b8, s8.v], Value.agg #[Value.bool b9, s9.v]])) w16))))
      (ldB ad5 w12.drew fun b10 =>
       ldS (ad5.add 1) w12.drew fun s10 =>
       Calls Tryd.prog 62 #[Value.int .i64 1] w12.drew fun e3 w17 =>
       ∃ b11 : Bool, ∃ s11 : Slc, e3 = .returned (Value.agg #[Value.bool b11, s11.v]) ∧
       (Ahead w12.drew w17 ∧
        (Calls Tryd.prog 75 #[Value.agg #[Value.bool b10, s10.v], Value.agg #[Value.bool b11, s11.v]] w17 fun e4 w18 =>
         ∃ b12 : Bool, ∃ s12 : Slc, e4 = .returned (Value.agg #[Value.bool b12, s12.v]) ∧
         (Ahead w17 w18 ∧
          (stC ad5 (Value.bool b12) w18 fun w19 =>
           stC (ad5.add 1) s12.v w19 fun w20 =>
           ∃ V2 : Nat → Nat → Prop, Out (V2 0) ad5 (ldB ad5 w20.drew fun b13 =>
            ldS (ad5.add 1) w20.drew fun s13 =>
            Out (V2 1) ad1 (ldB ad1 w20.drew fun b14 =>
             ldS (ad1.add 1) w20.drew fun s14 =>
             Out (V2 2) ad5 (ldB ad5 w20.drew fun b15 =>
              ldS (ad5.add 1) w20.drew fun s15 =>
              Out (V2 3) ad2 (ldB ad2 w20.drew fun b16 =>
               ldS (ad2.add 1) w20.drew fun s16 =>
               Calls Tryd.prog 55 #[Value.agg #[Value.bool b15, s15.v], Value.agg #[Value.bool b16, s16.v]] w20.drew fun e5 w21 =>
               ∃ b17 : Bool, ∃ s17 : Slc, e5 = .returned (Value.agg #[Value.bool b17, s17.v]) ∧
               (Bar (V2 0) w20.drew w21 ∧
                (Bar (V2 1) w20.drew w21 ∧
                 (Calls Tryd.prog 74 #[Value.agg #[Value.bool b14, s14.v], Value.agg #[Value.bool b17, s17.v]] w21 fun e6 w22 =>
                  ∃ b18 : Bool, ∃ s18 : Slc, e6 = .returned (Value.agg #[Value.bool b18, s18.v]) ∧
                  (Bar (V2 0) w21 w22 ∧
                   (stC ad3 (Value.bool b13) w22 fun w23 =>
                    stC (ad3.add 1) s13.v w23 fun w24 =>
                    stC ad4 (Value.bool b18) w24 fun w25 =>
                    stC (ad4.add 1) s18.v w25 fun w26 =>
                    ldB ad3 w26 fun b19 =>
                    ldS (ad3.add 1) w26 fun s19 =>
                    ldB ad4 w26 fun b20 =>
                    ldS (ad4.add 1) w26 fun s20 =>
                    R (.returned (Value.tuple #[Value.agg #[Value.bool b19, s19.v], Value.agg #[Value.bool b20, s20.v]])) w26))))))))))))))))) :
    Calls Tryd.prog 53 #[Value.agg #[Value.bool a0_a_0, a0_a_1.v], Value.agg #[Value.bool a1_b_0, a1_b_1.v]] w R := by
  refine calls_of_vc (marks [2000003, 2000005] (fun _ => none)) (by kernel_rfl) Tryd.func53 rfl ?_ ?_
  · refine kcast h ?_; kernel_rfl
  · exact (obl_seq rfl (obl_reg (obl_seq rfl (obl_reg (obl_seq rfl (obl_seq rfl (obl_reg (obl_cond (obl_seq rfl (obl_store _ rfl (by kernel_rfl) (obl_ret (obl_skip (obl_seq rfl (obl_held (by kernel_rfl) (by kernel_rfl) (by kernel_rfl) (obl_seq rfl (obl_store _ rfl (by kernel_rfl) (obl_ret trivial)))))))))))))))))

set_option maxRecDepth 100000 in
/-- surd/dyadic.two: function 40. -/
theorem dyadic_two_vc (a0_a_0 : Bool) (a0_a_1 : Slc) (a0_a_2 : Int) (a1_b_0 : Bool) (a1_b_1 : Slc) (a1_b_2 : Int) (w : World) (R : Ending → World → Prop)
    
    (h : newC w #[Value.bool a0_a_0, a0_a_1.v, Value.int .i64 a0_a_2] 39 fun ad1 w1 =>
    newC w1 #[Value.bool a1_b_0, a1_b_1.v, Value.int .i64 a1_b_2] 39 fun ad2 w2 =>
    newC w2 #[Value.bool false, (⟨none, 0, 0⟩ : Slc).v, Value.int .i64 0] 76 fun ad3 w3 =>
    newC w3 #[Value.bool false, (⟨none, 0, 0⟩ : Slc).v, Value.int .i64 0] 76 fun ad4 w4 =>
    ldB ad1 w4 fun b1 =>
    ldS (ad1.add 1) w4 fun s1 =>
    ldI .i64 (ad1.add 2) w4 fun x1 =>
    Calls Tryd.prog 36 #[Value.agg #[Value.bool b1, s1.v, Value.int .i64 x1]] w4 fun e1 w5 =>
    ∃ b2 : Bool, ∃ s2 : Slc, ∃ x2 : Int, ∃ x3 : Int, e1 = .returned (Value.tuple #[Value.agg #[Value.bool b2, s2.v, Value.int .i64 x2], Value.int .i64 x3]) ∧
    (newC w5 #[Value.bool false, (⟨none, 0, 0⟩ : Slc).v, Value.int .i64 0] 76 fun ad5 w6 =>
     stC ad5 (Value.bool b2) w6 fun w7 =>
     stC (ad5.add 1) s2.v w7 fun w8 =>
     stC (ad5.add 2) (Value.int .i64 x2) w8 fun w9 =>
     br (x3 != 0)
     (∃ V1 : Nat → Nat → Prop, Out (V1 0) ad5 (ldB ad5 w9.drew fun b3 =>
       ldS (ad5.add 1) w9.drew fun s3 =>
       ldI .i64 (ad5.add 2) w9.drew fun x4 =>
       Out (V1 1) ad5 (ldB ad5 w9.drew fun b4 =>
        ldS (ad5.add 1) w9.drew fun s4 =>
        ldI .i64 (ad5.add 2) w9.drew fun x5 =>
        stC ad3 (Value.bool b3) w9.drew fun w10 =>
        stC (ad3.add 1) s3.v w10 fun w11 =>
        stC (ad3.add 2) (Value.int .i64 x4) w11 fun w12 =>
        Bar (V1 1) w9.drew w12 ∧
        (stC ad4 (Value.bool b4) w12 fun w13 =>
         stC (ad4.add 1) s4.v w13 fun w14 =>
         stC (ad4.add 2) (Value.int .i64 x5) w14 fun w15 =>
         ldB ad3 w15 fun b5 =>
         ldS (ad3.add 1) w15 fun s5 =>
         ldI .i64 (ad3.add 2) w15 fun x6 =>
         ldB ad4 w15 fun b6 =>
         ldS (ad4.add 1) w15 fun s6 =>
         ldI .i64 (ad4.add 2) w15 fun x7 =>
         R (.returned (Value.tuple #[Value.agg #[Value.bool b5, s5.v, Value.int .i64 x6], Value.agg #[Value.bool b6, s6.v, Value.int .i64 x7], Value.int .i64 x3])) w15))))
     (ldB ad2 w9 fun b7 =>
      ldS (ad2.add 1) w9 fun s7 =>
      ldI .i64 (ad2.add 2) w9 fun x8 =>
      Calls Tryd.prog 36 #[Value.agg #[Value.bool b7, s7.v, Value.int .i64 x8]] w9 fun e2 w16 =>
      ∃ b8 : Bool, ∃ s8 : Slc, ∃ x9 : Int, ∃ x10 : Int, e2 = .returned (Value.tuple #[Value.agg #[Value.bool b8, s8.v, Value.int .i64 x9], Value.int .i64 x10]) ∧
      (newC w16 #[Value.bool false, (⟨none, 0, 0⟩ : Slc).v, Value.int .i64 0] 76 fun ad6 w17 =>
       stC ad6 (Value.bool b8) w17 fun w18 =>
       stC (ad6.add 1) s8.v w18 fun w19 =>
       stC (ad6.add 2) (Value.int .i64 x9) w19 fun w20 =>
       ∃ V2 : Nat → Nat → Prop, Out (V2 0) ad5 (ldB ad5 w20.drew fun b9 =>
        ldS (ad5.add 1) w20.drew fun s9 =>
        ldI .i64 (ad5.add 2) w20.drew fun x11 =>
        Out (V2 1) ad6 (ldB ad6 w20.drew fun b10 =>
         ldS (ad6.add 1) w20.drew fun s10 =>
         ldI .i64 (ad6.add 2) w20.drew fun x12 =>
         stC ad3 (Value.bool b9) w20.drew fun w21 =>
         stC (ad3.add 1) s9.v w21 fun w22 =>
         stC (ad3.add 2) (Value.int .i64 x11) w22 fun w23 =>
         Bar (V2 1) w20.drew w23 ∧
         (stC ad4 (Value.bool b10) w23 fun w24 =>
          stC (ad4.add 1) s10.v w24 fun w25 =>
          stC (ad4.add 2) (Value.int .i64 x12) w25 fun w26 =>
          ldB ad3 w26 fun b11 =>
          ldS (ad3.add 1) w26 fun s11 =>
          ldI .i64 (ad3.add 2) w26 fun x13 =>
          ldB ad4 w26 fun b12 =>
          ldS (ad4.add 1) w26 fun s12 =>
          ldI .i64 (ad4.add 2) w26 fun x14 =>
          R (.returned (Value.tuple #[Value.agg #[Value.bool b11, s11.v, Value.int .i64 x13], Value.agg #[Value.bool b12, s12.v, Value.int .i64 x14], Value.int .i64 x10])) w26))))))) :
    Calls Tryd.prog 40 #[Value.agg #[Value.bool a0_a_0, a0_a_1.v, Value.int .i64 a0_a_2], Value.agg #[Value.bool a1_b_0, a1_b_1.v, Value.int .i64 a1_b_2]] w R := by
  refine calls_of_vc (marks [2000003, 2000005] (fun _ => none)) (by kernel_rfl) Tryd.func40 rfl ?_ ?_
  · refine kcast h ?_; kernel_rfl
  · exact (obl_seq rfl (obl_reg (obl_seq rfl (obl_reg (obl_seq rfl (obl_seq rfl (obl_reg (obl_cond (obl_seq rfl (obl_store _ rfl (by kernel_rfl) (obl_ret (obl_skip (obl_seq rfl (obl_reg (obl_seq rfl (obl_store _ rfl (by kernel_rfl) (obl_ret trivial)))))))))))))))))

def dyadic_sum_cut (K4 : Addr → Addr → Addr → World → Prop) (K8 : Addr → Addr → Addr → World → Prop) (K11 : Addr → Addr → Addr → Int → World → Prop) (K12 : Addr → Addr → Addr → Addr → Int → World → Prop) : Nat → Option ((Act → World → Prop) × (Act → World → Nat))
  | 3000004 => some (fun a_ w_ => atSz a_ 97 (atA a_ 2 fun t2 => atA a_ 3 fun t3 => atA a_ 4 fun t4 => K4 t2 t3 t4 w_), fun _ _ => 0)
  | 3000008 => some (fun a_ w_ => atSz a_ 97 (atA a_ 2 fun t2 => atA a_ 3 fun t3 => atA a_ 4 fun t4 => K8 t2 t3 t4 w_), fun _ _ => 0)
  | 3000011 => some (fun a_ w_ => atSz a_ 97 (atA a_ 2 fun t2 => atA a_ 3 fun t3 => atA a_ 4 fun t4 => atI .i64 a_ 6 fun t6 => K11 t2 t3 t4 t6 w_), fun _ _ => 0)
  | 3000012 => some (fun a_ w_ => atSz a_ 97 (atA a_ 2 fun t2 => atA a_ 3 fun t3 => atA a_ 4 fun t4 => atA a_ 7 fun t7 => atI .i64 a_ 8 fun t8 => K12 t2 t3 t4 t7 t8 w_), fun _ _ => 0)
  | _ => none

set_option maxRecDepth 100000 in
/-- surd/dyadic.sum: function 57. -/
theorem dyadic_sum_vc (a0_0 : Bool) (a0_1 : Slc) (a0_2 : Int) (a1_0 : Bool) (a1_1 : Slc) (a1_2 : Int) (w : World) (R : Ending → World → Prop)
    (K4 : Addr → Addr → Addr → World → Prop) (K8 : Addr → Addr → Addr → World → Prop) (K11 : Addr → Addr → Addr → Int → World → Prop) (K12 : Addr → Addr → Addr → Addr → Int → World → Prop)
    (h : newC w #[Value.bool a0_0, a0_1.v, Value.int .i64 a0_2] 76 fun ad1 w1 =>
    newC w1 #[Value.bool a1_0, a1_1.v, Value.int .i64 a1_2] 76 fun ad2 w2 =>
    newC w2 #[Value.bool false, (⟨none, 0, 0⟩ : Slc).v, Value.int .i64 0] 39 fun ad3 w3 =>
    ldB ad1 w3 fun b1 =>
    ldS (ad1.add 1) w3 fun s1 =>
    Calls Tryd.prog 64 #[Value.agg #[Value.bool b1, s1.v]] w3 fun e1 w4 =>
    ∃ x1 : Int, e1 = .returned (Value.int .i64 x1) ∧
    (br (x1 == 0)
     (ldB ad2 w4 fun b2 =>
      ldS (ad2.add 1) w4 fun s2 =>
      ldI .i64 (ad2.add 2) w4 fun x2 =>
      ldB ad1 w4 fun b3 =>
      ldS (ad1.add 1) w4 fun s3 =>
      ldI .i64 (ad1.add 2) w4 fun x3 =>
      stC ad1 (Value.bool b2) w4 fun w5 =>
      stC (ad1.add 1) s2.v w5 fun w6 =>
      stC (ad1.add 2) (Value.int .i64 x2) w6 fun w7 =>
      stC ad2 (Value.bool b3) w7 fun w8 =>
      stC (ad2.add 1) s3.v w8 fun w9 =>
      stC (ad2.add 2) (Value.int .i64 x3) w9 fun w10 =>
      K4 ad1 ad2 ad3 w10)
     (K4 ad1 ad2 ad3 w4)))
    (h3000004 : ∀ (t2 : Addr) (t3 : Addr) (t4 : Addr) (w_ : World), K4 t2 t3 t4 w_ → 
    ldB t3 w_ fun b4 =>
    ldS (t3.add 1) w_ fun s4 =>
    Calls Tryd.prog 64 #[Value.agg #[Value.bool b4, s4.v]] w_ fun e2 w11 =>
    ∃ x4 : Int, e2 = .returned (Value.int .i64 x4) ∧
    (br (x4 == 0)
     (ldB t2 w11 fun b5 =>
      ldS (t2.add 1) w11 fun s5 =>
      ldI .i64 (t2.add 2) w11 fun x5 =>
      Calls Tryd.prog 42 #[Value.agg #[Value.bool b5, s5.v], Value.int .i64 x5] w11 fun e3 w12 =>
      ∃ b6 : Bool, ∃ s6 : Slc, ∃ x6 : Int, ∃ x7 : Int, e3 = .returned (Value.tuple #[Value.agg #[Value.bool b6, s6.v, Value.int .i64 x6], Value.int .i64 x7]) ∧
      (stC t4 (Value.bool b6) w12 fun w13 =>
       stC (t4.add 1) s6.v w13 fun w14 =>
       stC (t4.add 2) (Value.int .i64 x6) w14 fun w15 =>
       ldB t4 w15 fun b7 =>
       ldS (t4.add 1) w15 fun s7 =>
       ldI .i64 (t4.add 2) w15 fun x8 =>
       R (.returned (Value.tuple #[Value.agg #[Value.bool b7, s7.v, Value.int .i64 x8], Value.int .i64 x7])) w15))
     (ldI .i64 (t2.add 2) w11 fun x9 =>
      ldI .i64 (t3.add 2) w11 fun x10 =>
      br (decide (x9 < x10))
      (ldB t3 w11 fun b8 =>
       ldS (t3.add 1) w11 fun s8 =>
       ldI .i64 (t3.add 2) w11 fun x11 =>
       ldB t2 w11 fun b9 =>
       ldS (t2.add 1) w11 fun s9 =>
       ldI .i64 (t2.add 2) w11 fun x12 =>
       stC t2 (Value.bool b8) w11 fun w16 =>
       stC (t2.add 1) s8.v w16 fun w17 =>
       stC (t2.add 2) (Value.int .i64 x11) w17 fun w18 =>
       stC t3 (Value.bool b9) w18 fun w19 =>
       stC (t3.add 1) s9.v w19 fun w20 =>
       stC (t3.add 2) (Value.int .i64 x12) w20 fun w21 =>
       K8 t2 t3 t4 w21)
      (K8 t2 t3 t4 w11))))
    (h3000008 : ∀ (t2 : Addr) (t3 : Addr) (t4 : Addr) (w_ : World), K8 t2 t3 t4 w_ → 
    ldI .i64 (t2.add 2) w_ fun x13 =>
    ldI .i64 (t3.add 2) w_ fun x14 =>
    br (decide ((IntKind.i64.wrap (x13 - x14)) > 0))
    (ldB t2 w_.drew fun b10 =>
     ldS (t2.add 1) w_.drew fun s10 =>
     ldI .i64 (t2.add 2) w_.drew fun x15 =>
     ldB t3 w_.drew fun b11 =>
     ldS (t3.add 1) w_.drew fun s11 =>
     ldI .i64 (t3.add 2) w_.drew fun x16 =>
     ldI .i64 (t3.add 2) w_.drew fun x17 =>
     Calls Tryd.prog 78 #[Value.agg #[Value.bool b10, s10.v, Value.int .i64 x15]] w_.drew fun e4 w22 =>
     ∃ x18 : Int, e4 = .returned (Value.int .i64 x18) ∧
     (Ahead w_.drew w22 ∧
      (Calls Tryd.prog 78 #[Value.agg #[Value.bool b11, s11.v, Value.int .i64 x16]] w22 fun e5 w23 =>
       ∃ x19 : Int, e5 = .returned (Value.int .i64 x19) ∧
       (Ahead w22 w23 ∧
        (br (decide ((IntKind.i64.wrap ((maxI x18 (IntKind.i64.wrap (x19 + 1))) - x17)) > 67108866))
         (stC t4 (Value.bool false) w23 fun w24 =>
          stC (t4.add 1) ((⟨none, 0, 0⟩ : Slc).v) w24 fun w25 =>
          stC (t4.add 2) (Value.int .i64 0) w25 fun w26 =>
          ldB t4 w26 fun b12 =>
          ldS (t4.add 1) w26 fun s12 =>
          ldI .i64 (t4.add 2) w26 fun x20 =>
          R (.returned (Value.tuple #[Value.agg #[Value.bool b12, s12.v, Value.int .i64 x20], Value.int .i64 3])) w26)
         (K11 t2 t3 t4 (IntKind.i64.wrap (x13 - x14)) w23))))))
    (K11 t2 t3 t4 (IntKind.i64.wrap (x13 - x14)) w_.drew))
    (h3000011 : ∀ (t2 : Addr) (t3 : Addr) (t4 : Addr) (t6 : Int) (w_ : World), K11 t2 t3 t4 t6 w_ → 
    ∃ V1 : Nat → Nat → Prop, Out (V1 3) t2 (ldB t2 w_.drew fun b13 =>
     Out (V1 7) (t2.add 1) (ldS (t2.add 1) w_.drew fun s13 =>
      (Calls Tryd.prog 80 #[s13.v, Value.int .i64 t6] w_.drew fun e6 w27 =>
       ∃ s14 : Slc, e6 = .returned s14.v ∧
       (Bar (V1 3) w_.drew w27 ∧
        ((Calls Tryd.prog 79 #[Value.bool b13, s14.v] w27 fun e7 w28 =>
          ∃ b14 : Bool, ∃ s15 : Slc, ∃ x21 : Int, e7 = .returned (Value.tuple #[Value.agg #[Value.bool b14, s15.v], Value.int .i64 x21]) ∧
          (newC w28 #[Value.bool false, (⟨none, 0, 0⟩ : Slc).v] 37 fun ad4 w29 =>
           Bar (V1 3) w28 w29 ∧
           (Bar (V1 7) w28 w29 ∧
            (stC ad4 (Value.bool b14) w29 fun w30 =>
             stC (ad4.add 1) s15.v w30 fun w31 =>
             K12 t2 t3 t4 ad4 x21 w31)))) ∧
         (newC w27 #[Value.bool false, (⟨none, 0, 0⟩ : Slc).v] 37 fun ad6 w48 =>
          Bar (V1 3) w27 w48 ∧
          (Bar (V1 7) w27 w48 ∧
           (Calls Tryd.prog 79 #[Value.bool b13, s14.v] w48 fun e12 w49 =>
            ∃ b29 : Bool, ∃ s30 : Slc, ∃ x37 : Int, e12 = .returned (Value.tuple #[Value.agg #[Value.bool b29, s30.v], Value.int .i64 x37]) ∧
            (stC ad6 (Value.bool b29) w49 fun w50 =>
             stC (ad6.add 1) s30.v w50 fun w51 =>
             K12 t2 t3 t4 ad6 x37 w51))))))) ∧
      (newC w_.drew #[Value.bool false, (⟨none, 0, 0⟩ : Slc).v] 37 fun ad7 w52 =>
       Bar (V1 3) w_.drew w52 ∧
       (Bar (V1 7) w_.drew w52 ∧
        (Calls Tryd.prog 80 #[s13.v, Value.int .i64 t6] w52 fun e13 w53 =>
         ∃ s31 : Slc, e13 = .returned s31.v ∧
         (Bar (V1 3) w52 w53 ∧
          (Calls Tryd.prog 79 #[Value.bool b13, s31.v] w53 fun e14 w54 =>
           ∃ b30 : Bool, ∃ s32 : Slc, ∃ x38 : Int, e14 = .returned (Value.tuple #[Value.agg #[Value.bool b30, s32.v], Value.int .i64 x38]) ∧
           (stC ad7 (Value.bool b30) w54 fun w55 =>
            stC (ad7.add 1) s32.v w55 fun w56 =>
            K12 t2 t3 t4 ad7 x38 w56)))))))))
    (h3000012 : ∀ (t2 : Addr) (t3 : Addr) (t4 : Addr) (t7 : Addr) (t8 : Int) (w_ : World), K12 t2 t3 t4 t7 t8 w_ → 
    br (t8 != 0)
    (ldB t2 w_ fun b15 =>
     ldS (t2.add 1) w_ fun s16 =>
     ldI .i64 (t2.add 2) w_ fun x22 =>
     ldB t3 w_ fun b16 =>
     ldS (t3.add 1) w_ fun s17 =>
     ldI .i64 (t3.add 2) w_ fun x23 =>
     Calls Tryd.prog 81 #[Value.agg #[Value.bool b15, s16.v, Value.int .i64 x22], Value.agg #[Value.bool b16, s17.v, Value.int .i64 x23]] w_ fun e8 w32 =>
     ∃ b17 : Bool, ∃ s18 : Slc, ∃ x24 : Int, ∃ x25 : Int, e8 = .returned (Value.tuple #[Value.agg #[Value.bool b17, s18.v, Value.int .i64 x24], Value.int .i64 x25]) ∧
     (stC t4 (Value.bool b17) w32 fun w33 =>
      stC (t4.add 1) s18.v w33 fun w34 =>
      stC (t4.add 2) (Value.int .i64 x24) w34 fun w35 =>
      ldB t4 w35 fun b18 =>
      ldS (t4.add 1) w35 fun s19 =>
      ldI .i64 (t4.add 2) w35 fun x26 =>
      R (.returned (Value.tuple #[Value.agg #[Value.bool b18, s19.v, Value.int .i64 x26], Value.int .i64 x25])) w35))
    (ldB t7 w_ fun b19 =>
     ldS (t7.add 1) w_ fun s20 =>
     ldB t3 w_ fun b20 =>
     ldS (t3.add 1) w_ fun s21 =>
     Calls Tryd.prog 82 #[Value.agg #[Value.bool b19, s20.v], Value.agg #[Value.bool b20, s21.v]] w_ fun e9 w36 =>
     ∃ b21 : Bool, ∃ s22 : Slc, ∃ x27 : Int, e9 = .returned (Value.tuple #[Value.agg #[Value.bool b21, s22.v], Value.int .i64 x27]) ∧
     (newC w36 #[Value.bool false, (⟨none, 0, 0⟩ : Slc).v] 37 fun ad5 w37 =>
      stC ad5 (Value.bool b21) w37 fun w38 =>
      stC (ad5.add 1) s22.v w38 fun w39 =>
      br (x27 != 0)
      (ldB t2 w39 fun b22 =>
       ldS (t2.add 1) w39 fun s23 =>
       ldI .i64 (t2.add 2) w39 fun x28 =>
       ldB t3 w39 fun b23 =>
       ldS (t3.add 1) w39 fun s24 =>
       ldI .i64 (t3.add 2) w39 fun x29 =>
       Calls Tryd.prog 81 #[Value.agg #[Value.bool b22, s23.v, Value.int .i64 x28], Value.agg #[Value.bool b23, s24.v, Value.int .i64 x29]] w39 fun e10 w40 =>
       ∃ b24 : Bool, ∃ s25 : Slc, ∃ x30 : Int, ∃ x31 : Int, e10 = .returned (Value.tuple #[Value.agg #[Value.bool b24, s25.v, Value.int .i64 x30], Value.int .i64 x31]) ∧
       (stC t4 (Value.bool b24) w40 fun w41 =>
        stC (t4.add 1) s25.v w41 fun w42 =>
        stC (t4.add 2) (Value.int .i64 x30) w42 fun w43 =>
        ldB t4 w43 fun b25 =>
        ldS (t4.add 1) w43 fun s26 =>
        ldI .i64 (t4.add 2) w43 fun x32 =>
        R (.returned (Value.tuple #[Value.agg #[Value.bool b25, s26.v, Value.int .i64 x32], Value.int .i64 x31])) w43))
      (ldB ad5 w39 fun b26 =>
       ldS (ad5.add 1) w39 fun s27 =>
       ldI .i64 (t3.add 2) w39 fun x33 =>
       Calls Tryd.prog 42 #[Value.agg #[Value.bool b26, s27.v], Value.int .i64 x33] w39 fun e11 w44 =>
       ∃ b27 : Bool, ∃ s28 : Slc, ∃ x34 : Int, ∃ x35 : Int, e11 = .returned (Value.tuple #[Value.agg #[Value.bool b27, s28.v, Value.int .i64 x34], Value.int .i64 x35]) ∧
       (stC t4 (Value.bool b27) w44 fun w45 =>
        stC (t4.add 1) s28.v w45 fun w46 =>
        stC (t4.add 2) (Value.int .i64 x34) w46 fun w47 =>
        ldB t4 w47 fun b28 =>
        ldS (t4.add 1) w47 fun s29 =>
        ldI .i64 (t4.add 2) w47 fun x36 =>
        R (.returned (Value.tuple #[Value.agg #[Value.bool b28, s29.v, Value.int .i64 x36], Value.int .i64 x35])) w47))))) :
    Calls Tryd.prog 57 #[Value.agg #[Value.bool a0_0, a0_1.v, Value.int .i64 a0_2], Value.agg #[Value.bool a1_0, a1_1.v, Value.int .i64 a1_2]] w R := by
  refine calls_of_vc (marks [2000010] (dyadic_sum_cut K4 K8 K11 K12)) (by kernel_rfl) Tryd.func57 rfl ?_ ?_
  · refine kcast h ?_; kernel_rfl
  · exact (obl_seq rfl (obl_reg (obl_join _ rfl (obl_seq rfl (obl_reg (obl_cond (obl_reg (obl_skip trivial))))) (fun a_ w_ hL_ => (by
    obtain ⟨hz_, hd_, hL_⟩ := atSz_out hL_
    obtain ⟨t2, h2_, hL_⟩ := atA_out hL_
    obtain ⟨t3, h3_, hL_⟩ := atA_out hL_
    obtain ⟨t4, h4_, hL_⟩ := atA_out hL_
    obtain ⟨g3000004, rfl⟩ : ∃ g, a_ = Fr 97 [(2, Value.pointer (some t2)), (3, Value.pointer (some t3)), (4, Value.pointer (some t4))] g := ⟨_, fr_of hz_ hd_ [(2, Value.pointer (some t2)), (3, Value.pointer (some t3)), (4, Value.pointer (some t4))] (sel_cons h2_ (sel_cons h3_ (sel_cons h4_ sel_nil)))⟩
    clear hz_ hd_ h2_ h3_ h4_
    have hJ3000004_ := hL_
    refine ⟨(marks [2000010] (dyadic_sum_cut K4 K8 K11 K12)), kcast (h3000004 t2 t3 t4 w_ hJ3000004_) ?_, ?_⟩
    · kernel_rfl
    · exact (obl_seq rfl (obl_seq rfl (obl_reg (obl_cond (obl_seq rfl (obl_reg (obl_ret (obl_skip (obl_join _ rfl (obl_seq rfl (obl_reg (obl_cond (obl_reg (obl_skip trivial))))) (fun a_ w_ hL_ => (by
      obtain ⟨hz_, hd_, hL_⟩ := atSz_out hL_
      obtain ⟨t2, h2_, hL_⟩ := atA_out hL_
      obtain ⟨t3, h3_, hL_⟩ := atA_out hL_
      obtain ⟨t4, h4_, hL_⟩ := atA_out hL_
      obtain ⟨g3000008, rfl⟩ : ∃ g, a_ = Fr 97 [(2, Value.pointer (some t2)), (3, Value.pointer (some t3)), (4, Value.pointer (some t4))] g := ⟨_, fr_of hz_ hd_ [(2, Value.pointer (some t2)), (3, Value.pointer (some t3)), (4, Value.pointer (some t4))] (sel_cons h2_ (sel_cons h3_ (sel_cons h4_ sel_nil)))⟩
      clear hz_ hd_ h2_ h3_ h4_
      have hJ3000008_ := hL_
      refine ⟨(marks [2000010] (dyadic_sum_cut K4 K8 K11 K12)), kcast (h3000008 t2 t3 t4 w_ hJ3000008_) ?_, ?_⟩
      · kernel_rfl
      · exact (obl_seq rfl (obl_reg (obl_join _ rfl (obl_seq rfl (obl_held (by kernel_rfl) (by kernel_rfl) (by kernel_rfl) (obl_cond (obl_seq rfl (obl_reg (obl_ret (obl_skip trivial))))))) (fun a_ w_ hL_ => (by
        obtain ⟨hz_, hd_, hL_⟩ := atSz_out hL_
        obtain ⟨t2, h2_, hL_⟩ := atA_out hL_
        obtain ⟨t3, h3_, hL_⟩ := atA_out hL_
        obtain ⟨t4, h4_, hL_⟩ := atA_out hL_
        obtain ⟨t6, h6_, hL_⟩ := atI_out hL_
        obtain ⟨g3000011, rfl⟩ : ∃ g, a_ = Fr 97 [(2, Value.pointer (some t2)), (3, Value.pointer (some t3)), (4, Value.pointer (some t4)), (6, Value.int .i64 t6)] g := ⟨_, fr_of hz_ hd_ [(2, Value.pointer (some t2)), (3, Value.pointer (some t3)), (4, Value.pointer (some t4)), (6, Value.int .i64 t6)] (sel_cons h2_ (sel_cons h3_ (sel_cons h4_ (sel_cons h6_ sel_nil))))⟩
        clear hz_ hd_ h2_ h3_ h4_ h6_
        have hJ3000011_ := hL_
        refine ⟨(marks [2000010] (dyadic_sum_cut K4 K8 K11 K12)), kcast (h3000011 t2 t3 t4 t6 w_ hJ3000011_) ?_, ?_⟩
        · kernel_rfl
        · exact (obl_join _ rfl (obl_store _ rfl (by kernel_rfl) trivial) (fun a_ w_ hL_ => (by
          obtain ⟨hz_, hd_, hL_⟩ := atSz_out hL_
          obtain ⟨t2, h2_, hL_⟩ := atA_out hL_
          obtain ⟨t3, h3_, hL_⟩ := atA_out hL_
          obtain ⟨t4, h4_, hL_⟩ := atA_out hL_
          obtain ⟨t7, h7_, hL_⟩ := atA_out hL_
          obtain ⟨t8, h8_, hL_⟩ := atI_out hL_
          obtain ⟨g3000012, rfl⟩ : ∃ g, a_ = Fr 97 [(2, Value.pointer (some t2)), (3, Value.pointer (some t3)), (4, Value.pointer (some t4)), (7, Value.pointer (some t7)), (8, Value.int .i64 t8)] g := ⟨_, fr_of hz_ hd_ [(2, Value.pointer (some t2)), (3, Value.pointer (some t3)), (4, Value.pointer (some t4)), (7, Value.pointer (some t7)), (8, Value.int .i64 t8)] (sel_cons h2_ (sel_cons h3_ (sel_cons h4_ (sel_cons h7_ (sel_cons h8_ sel_nil)))))⟩
          clear hz_ hd_ h2_ h3_ h4_ h7_ h8_
          have hJ3000012_ := hL_
          refine ⟨(marks [2000010] (dyadic_sum_cut K4 K8 K11 K12)), kcast (h3000012 t2 t3 t4 t7 t8 w_ hJ3000012_) ?_, ?_⟩
          · kernel_rfl
          · exact (obl_seq rfl (obl_seq rfl (obl_reg (obl_cond (obl_seq rfl (obl_reg (obl_ret (obl_skip (obl_seq rfl (obl_reg (obl_seq rfl (obl_seq rfl (obl_reg (obl_cond (obl_seq rfl (obl_reg (obl_ret (obl_skip (obl_seq rfl (obl_reg (obl_ret trivial)))))))))))))))))))))))))))))))))))))))))))))

set_option maxRecDepth 100000 in
/-- surd/whole.fits: function 95. -/
theorem whole_fits_vc (a0_a_0 : Bool) (a0_a_1 : Slc) (w : World) (R : Ending → World → Prop)
    
    (h : newC w #[Value.bool a0_a_0, a0_a_1.v] 37 fun ad1 w1 =>
    newC w1 #[Value.bool false, (⟨none, 0, 0⟩ : Slc).v] 37 fun ad2 w2 =>
    ldS (ad1.add 1) w2 fun s1 =>
    Calls Tryd.prog 85 #[s1.v] w2 fun e1 w3 =>
    ∃ x1 : Int, e1 = .returned (Value.int .i64 x1) ∧
    (br (decide (x1 > 67108864))
     (stC ad2 (Value.bool false) w3 fun w4 =>
      stC (ad2.add 1) ((⟨none, 0, 0⟩ : Slc).v) w4 fun w5 =>
      ldB ad2 w5 fun b1 =>
      ldS (ad2.add 1) w5 fun s2 =>
      R (.returned (Value.tuple #[Value.agg #[Value.bool b1, s2.v], Value.int .i64 3])) w5)
     (ldB ad1 w3 fun b2 =>
      ldS (ad1.add 1) w3 fun s3 =>
      Calls Tryd.prog 101 #[Value.agg #[Value.bool b2, s3.v]] w3 fun e2 w6 =>
      ∃ b3 : Bool, ∃ s4 : Slc, e2 = .returned (Value.agg #[Value.bool b3, s4.v]) ∧
      (stC ad2 (Value.bool b3) w6 fun w7 =>
       stC (ad2.add 1) s4.v w7 fun w8 =>
       ldB ad2 w8 fun b4 =>
       ldS (ad2.add 1) w8 fun s5 =>
       R (.returned (Value.tuple #[Value.agg #[Value.bool b4, s5.v], Value.int .i64 0])) w8)))) :
    Calls Tryd.prog 95 #[Value.agg #[Value.bool a0_a_0, a0_a_1.v]] w R := by
  refine calls_of_vc (fun _ => none) (by kernel_rfl) Tryd.func95 rfl ?_ ?_
  · refine kcast h ?_; kernel_rfl
  · exact (obl_seq rfl (obl_reg (obl_seq rfl (obl_seq rfl (obl_reg (obl_cond (obl_seq rfl (obl_reg (obl_ret (obl_skip (obl_seq rfl (obl_reg (obl_ret trivial)))))))))))))

set_option maxRecDepth 100000 in
/-- surd/whole.norm: function 101. -/
theorem whole_norm_vc (a0_a_0 : Bool) (a0_a_1 : Slc) (w : World) (R : Ending → World → Prop)
    
    (h : newC w #[Value.bool a0_a_0, a0_a_1.v] 37 fun ad1 w1 =>
    newC w1 #[Value.bool false, (⟨none, 0, 0⟩ : Slc).v] 37 fun ad2 w2 =>
    ldS (ad1.add 1) w2 fun s1 =>
    Calls Tryd.prog 86 #[s1.v] w2 fun e1 w3 =>
    ∃ s2 : Slc, e1 = .returned s2.v ∧
    (ldB ad1 w3 fun b1 =>
     br b1
     (stC ad2 (Value.bool (decide ((s2.n : Int) > 0))) w3 fun w4 =>
      stC (ad2.add 1) s2.v w4 fun w5 =>
      ldB ad2 w5 fun b2 =>
      ldS (ad2.add 1) w5 fun s3 =>
      R (.returned (Value.agg #[Value.bool b2, s3.v])) w5)
     (stC ad2 (Value.bool false) w3 fun w6 =>
      stC (ad2.add 1) s2.v w6 fun w7 =>
      ldB ad2 w7 fun b3 =>
      ldS (ad2.add 1) w7 fun s4 =>
      R (.returned (Value.agg #[Value.bool b3, s4.v])) w7))) :
    Calls Tryd.prog 101 #[Value.agg #[Value.bool a0_a_0, a0_a_1.v]] w R := by
  refine calls_of_vc (fun _ => none) (by kernel_rfl) Tryd.func101 rfl ?_ ?_
  · refine kcast h ?_; kernel_rfl
  · exact (obl_seq rfl (obl_reg (obl_seq rfl (obl_reg (obl_seq rfl (obl_reg (obl_ret trivial)))))))

set_option maxRecDepth 100000 in
/-- surd/whole.result: function 67. -/
theorem whole_result_vc (a0_neg : Bool) (a1_n : Slc) (a2_e : Int) (w : World) (R : Ending → World → Prop)
    
    (h : newC w #[Value.bool false, (⟨none, 0, 0⟩ : Slc).v] 37 fun ad1 w1 =>
    br (a2_e != 0)
    (stC ad1 (Value.bool false) w1 fun w2 =>
     stC (ad1.add 1) ((⟨none, 0, 0⟩ : Slc).v) w2 fun w3 =>
     ldB ad1 w3 fun b1 =>
     ldS (ad1.add 1) w3 fun s1 =>
     R (.returned (Value.tuple #[Value.agg #[Value.bool b1, s1.v], Value.int .i64 a2_e])) w3)
    (Calls Tryd.prog 95 #[Value.agg #[Value.bool a0_neg, a1_n.v]] w1 fun e1 w4 =>
     ∃ b2 : Bool, ∃ s2 : Slc, ∃ x1 : Int, e1 = .returned (Value.tuple #[Value.agg #[Value.bool b2, s2.v], Value.int .i64 x1]) ∧
     (stC ad1 (Value.bool b2) w4 fun w5 =>
      stC (ad1.add 1) s2.v w5 fun w6 =>
      ldB ad1 w6 fun b3 =>
      ldS (ad1.add 1) w6 fun s3 =>
      R (.returned (Value.tuple #[Value.agg #[Value.bool b3, s3.v], Value.int .i64 x1])) w6))) :
    Calls Tryd.prog 67 #[Value.bool a0_neg, a1_n.v, Value.int .i64 a2_e] w R := by
  refine calls_of_vc (fun _ => none) (by kernel_rfl) Tryd.func67 rfl ?_ ?_
  · refine kcast h ?_; kernel_rfl
  · exact (obl_seq rfl (obl_reg (obl_seq rfl (obl_seq rfl (obl_reg (obl_cond (obl_seq rfl (obl_reg (obl_ret (obl_skip (obl_seq rfl (obl_reg (obl_ret trivial)))))))))))))

end Go.Proofs.YtahbekmnphkiiaaDoor
