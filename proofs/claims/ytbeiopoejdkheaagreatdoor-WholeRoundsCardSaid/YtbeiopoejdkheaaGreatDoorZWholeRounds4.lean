/- What the law leans on, part 4. No condition. -/
import Derived.Test.YtbeiopoejdkheaaGreatDoorZWholeRounds3
namespace Go.Proofs.YtbeiopoejdkheaaGreatDoor
open Go Go.RowKit Eng Sp Dg Kd
set_option linter.unusedVariables false
set_option linter.unusedSimpArgs false
set_option maxRecDepth 100000
namespace Dq
open _root_.Go.Proofs.YtbeiopoejdkheaaGreatDoor.Nat (ldN ldNf stF stFf mkF mkN Fill Fill.rd Fill.base Fill.src Fill.ahead OwnNil OwnNil.rd OwnNil.ahead OwnNil.mono OwnNil.nil Num Num.bl num_of Compare_spec Norm_spec From_spec Length_spec len_num own_num Div64_spec bigC bigC_ok digs_len_bl cutHi)
open _root_.Go.Proofs.YtbeiopoejdkheaaGreatDoor.Mul (Only Off stO)

theorem ahead_bk {w0 w w' : World} {m : Nat} (h : Ahead w0 w) (a : Bk1 m w w') (hm : w0.heap.size ≤ m) : Ahead w0 w' :=
  ⟨a.os.trans h.os, a.tape.trans h.tape, a.output.trans h.output, Nat.le_trans h.size a.size, fun k hk => (a.block k (Nat.lt_of_lt_of_le hk h.size) (by omega)).trans (h.block k hk)⟩
theorem Bk1.own {b k : Nat} {w w' : World} {s : Slc} {l : List Int} {kd : IntKind} {t : TypeId} (h : Bk1 b w w') (hr : Owr kd t w s l k) (hne : k ≠ b) : Owr kd t w' s l k := by
  have hlt := hr.lt
  obtain ⟨sp, hc, hm⟩ := hr.mem
  exact ⟨hr.hd, sp, hc, by rw [h.block k hlt hne]; exact hm⟩

theorem lead {y : Nat} (hy : y ≠ 0) {n : Nat} (hn : (digs B64 y).length = n + 1) : ∃ s : Nat, s < 64 ∧ (64 : Int) - (Lib.bitLen (((digs B64 y).getD n 0 : Nat) : Int).toNat : Int) = (s : Int) ∧ (digs B64 (y * 2 ^ s)).length = n + 1 ∧ 2 ^ 63 ≤ (digs B64 (y * 2 ^ s)).getD n 0 := by
  have hB := B64v
  have h64 : B64 = 2 ^ 64 := rfl
  have hlast := digs_last two64 hy
  rw [hn, Nat.add_sub_cancel] at hlast
  have ht := ok_getD (ok_digs two64 y) (by omega : 0 < B64) n
  have hb1 := bl_pos hlast
  have hb2 : bl ((digs B64 y).getD n 0) ≤ 64 := bl_le ht
  refine ⟨64 - bl ((digs B64 y).getD n 0), by omega, by rw [Int.toNat_natCast, bitLen_eq ht]; omega, ?_⟩
  generalize hs : 64 - bl ((digs B64 y).getD n 0) = s
  have hbl := bl_top hn
  have hbb := bl_bounds (n := y * 2 ^ s) (by have := Nat.mul_pos (Nat.pos_of_ne_zero hy) (Nat.pow_pos (n := s) (show 0 < 2 by omega)); omega)
  have hblS : bl (y * 2 ^ s) = 64 * (n + 1) := by
    have h1 := bl_bounds hy
    have e : 64 * (n + 1) = (64 * (n + 1) - 1) + 1 := by omega
    rw [e]
    refine bl_eq ?_ ?_
    · have := Nat.mul_le_mul_right (2 ^ s) h1.1
      rw [← Nat.pow_add] at this
      rwa [show bl y - 1 + s = 64 * (n + 1) - 1 by omega] at this
    · have := Nat.mul_lt_mul_of_pos_right h1.2 (Nat.pow_pos (n := s) (show 0 < 2 by omega))
      rw [← Nat.pow_add] at this
      rwa [show bl y + s = 64 * (n + 1) - 1 + 1 by omega] at this
  have hlen : (digs B64 (y * 2 ^ s)).length = n + 1 := by
    have h1 := digs_len_bl (N := y * 2 ^ s) (m := n + 1) (by omega)
    have h2 := bl_len (ok_digs two64 (y * 2 ^ s))
    rw [val_digs two64, hblS] at h2
    omega
  refine ⟨hlen, ?_⟩
  have h3 := bl_top hlen
  rw [hblS] at h3
  have h4 : bl ((digs B64 (y * 2 ^ s)).getD n 0) = 64 := by omega
  have h5 : (digs B64 (y * 2 ^ s)).getD n 0 ≠ 0 := fun h => by rw [h, bl_zero] at h4; omega
  have := (bl_bounds h5).1
  rw [h4] at this
  exact this

def SJ (w : World) (a b : Slc) (x y : Nat) (t0 t1 t6 : Slc) (t7 t8 : Int) (w' : World) : Prop :=
  t0 = a ∧ t1 = b ∧ (digs B64 y).length = 1 ∧ ∃ (l : List Nat) (j r : Nat), t7 = (r : Int) ∧ r < y ∧ t8 = (j : Int) - 1 ∧ j ≤ (digs B64 x).length ∧ Fill w w' t6 l (fun w' => Rd .u64 w' a (nn (digs B64 x)) ∧ Rd .u64 w' b (nn (digs B64 y))) ∧ l.length = (digs B64 x).length ∧ ok B64 l ∧
    val B64 ((digs B64 x).drop j) = val B64 (l.drop j) * y + r
def LJ (w : World) (s n T : Nat) (V : List Nat) (t9 : Int) (t10 t11 : Slc) (t12 : Int) (t13 : Slc) (t14 : Int) (w' : World) : Prop :=
  t9 = (s : Int) ∧ t12 = (n : Int) ∧ 2 ≤ n ∧ Ahead w w' ∧ ∃ (bu bq : Nat) (U Q : List Nat) (k : Nat), t14 = (k : Int) - 1 ∧ w.heap.size ≤ bu ∧ w.heap.size ≤ bq ∧ U.length ≤ 2 ^ 44 + 1 ∧ LD w' t10 t11 t13 bu bq U V Q T k

theorem drop_cons_val {B : Nat} {l : List Nat} {j : Nat} (h : j < l.length) : val B (l.drop j) = l.getD j 0 + B * val B (l.drop (j + 1)) := by
  rw [List.drop_eq_getElem_cons h, getD_lt _ 0 h]; rfl
theorem drop_set_ge (l : List Nat) (i q : Nat) : (l.set i q).drop (i + 1) = l.drop (i + 1) := by
  rw [List.drop_set_of_lt (by omega)]

theorem same_b {k : IntKind} {t : TypeId} {w : World} {s : Slc} {l : List Int} {b c : Nat} (h : Owr k t w s l b) (h' : Owr k t w s l c) : b = c := by
  have := h.A; rw [h'.A] at this; injection this with this; injection this with this; exact this.symm
theorem ld_start {w8 w9 w10 w11 : World} {u v q : Slc} {U V0 : List Nat} {x y s n : Nat} {S1 S2 S3 : World → Prop} (fu : Fill w8 w9 u U S1) (fv : Fill w9 w10 v V0 S2) (fq : Fill w10 w11 q (List.replicate ((digs B64 x).length - n) 0) S3)
    (hn : (digs B64 y).length = n + 1) (hnx : n < (digs B64 x).length) (lu : U.length = (digs B64 x).length + 1) (lv : V0.length = (digs B64 y).length + 1) (oku : ok B64 U) (okv : ok B64 V0) (vu : val B64 U = x * 2 ^ s) (vv : val B64 V0 = y * 2 ^ s)
    (hvl : (digs B64 (y * 2 ^ s)).length = n + 1) (hvt : 2 ^ 63 ≤ (digs B64 (y * 2 ^ s)).getD n 0) (hxlt : x < B64 ^ (digs B64 x).length) (hyge : B64 ^ n ≤ y) :
    ∃ bu bq, w8.heap.size ≤ bu ∧ w10.heap.size ≤ bq ∧ LD w11 u ⟨v.A, n + 1, v.c⟩ q bu bq U (digs B64 (y * 2 ^ s)) (List.replicate ((digs B64 x).length - n) 0) (x * 2 ^ s) ((digs B64 x).length - n) := by
  have hB := B64v
  have h10 := fv.base
  have h11 := fq.base
  have hV : V0.take (n + 1) = digs B64 (y * 2 ^ s) := by
    have hlt : y * 2 ^ s < B64 ^ (n + 1) := by
      have := val_lt (ok_digs two64 (y * 2 ^ s)); rwa [val_digs two64, hvl] at this
    have h1 : val B64 (V0.take (n + 1)) = y * 2 ^ s := by
      have h2 := top1 (B := B64) (m := n + 1) (s := V0) (by omega)
      rw [vv] at h2
      rcases Nat.eq_zero_or_pos (V0.getD (n + 1) 0) with h0 | h0
      · rw [h0] at h2; omega
      · have := Nat.mul_le_mul_left (B64 ^ (n + 1)) h0
        omega
    rw [← h1, digs_val two64 (ok_take okv _)]
    right
    rw [show (V0.take (n + 1)).length = n + 1 by rw [List.length_take]; omega, Nat.add_sub_cancel]
    have h3 : (V0.take (n + 1)).getD n 0 = (digs B64 (y * 2 ^ s)).getD n 0 := by
      rw [digit (by omega : 0 < B64) _ (ok_take okv _) n, digit (by omega : 0 < B64) _ (ok_digs two64 (y * 2 ^ s)) n, h1, val_digs two64]
    rw [h3]; omega
  have rv := fv.rd.take (m := n + 1) (c := v.c) (by rw [nn_length]; omega) (by have := fv.rd.c; have := fv.rd.n; rw [nn_length] at this; omega)
  rw [nn_take, hV] at rv
  obtain ⟨bu, bq, ou, oq, hne, hbu, hbq, _, _⟩ := off_fill fu h10 fq
  obtain ⟨bu2, bv, ou2, ov, hne2, _, hbv, offu, _⟩ := off_fill fu (Ahead.refl _) fv
  obtain ⟨bv2, bq2, ov2, oq2, hne3, _, _, _, _⟩ := off_fill fv (Ahead.refl _) fq
  obtain rfl := same_b (ou2.ahead h11) ou
  obtain rfl := same_b (ov.ahead h11) ov2
  obtain rfl := same_b oq oq2
  refine ⟨bu2, bq, hbu, hbq, ou, oq, rv.ahead h11, hne, fun ad e _ => ?_, fun ad e _ => ?_, oku, ok_replicate (by omega) _, ?_, ?_, ?_, ?_⟩
  · rw [show (⟨v.A, n + 1, v.c⟩ : Slc).A = v.A from rfl, ov.A] at e; obtain rfl := Option.some.inj e; exact hne2.symm
  · rw [show (⟨v.A, n + 1, v.c⟩ : Slc).A = v.A from rfl, ov.A] at e; obtain rfl := Option.some.inj e; exact hne3
  · rw [List.length_replicate, lu, hvl]; omega
  · rw [List.length_replicate]; exact Nat.le_refl _
  · rw [val_digs two64]
    have h1 := val_take_drop (B := B64) U ((digs B64 x).length - n) (by omega)
    have h2 : x * 2 ^ s < y * 2 ^ s * B64 ^ ((digs B64 x).length - n) := by
      have h3 : x < y * B64 ^ ((digs B64 x).length - n) := by
        refine Nat.lt_of_lt_of_le hxlt ?_
        have := Nat.mul_le_mul_right (B64 ^ ((digs B64 x).length - n)) hyge
        rwa [← Nat.pow_add, show n + ((digs B64 x).length - n) = (digs B64 x).length by omega] at this
      have := Nat.mul_lt_mul_of_pos_right h3 (Nat.pow_pos (n := s) (show 0 < 2 by omega))
      rwa [Nat.mul_right_comm] at this
    rw [← vu, h1, Nat.mul_comm (y * 2 ^ s)] at h2
    exact lt_of_mul (Nat.lt_of_le_of_lt (Nat.le_add_left _ _) h2)
  · rw [List.drop_eq_nil_of_le (by rw [List.length_replicate]; exact Nat.le_refl _), vu]; simp [val]

set_option maxHeartbeats 1000000 in
theorem divide_spec {w : World} {a b : Slc} {x y base : Nat} (oa : OwnNil base w a (digs B64 x)) (hbase : base ≤ w.heap.size) (rb : Rd .u64 w b (nn (digs B64 y))) (na : (digs B64 x).length ≤ 2 ^ 44) (nb : (digs B64 y).length ≤ 2 ^ 44) (hy : y ≠ 0) :
    Calls pr div_divide_id #[a.v, b.v] w fun e w' => Ahead w w' ∧ ∃ s t, e = .returned (.tuple #[Slc.v s, Slc.v t]) ∧ OwnNil w.heap.size w' s (digs B64 (x / y)) ∧ OwnNil base w' t (digs B64 (x % y)) := by
  have hB := B64v
  have ra := oa.rd
  have hna : a.n = (digs B64 x).length := by rw [ra.n, nn_length]
  have hnb : b.n = (digs B64 y).length := by rw [rb.n, nn_length]
  have vx := val_digs two64 x
  have vy := val_digs two64 y
  have okx := ok_digs two64 x
  have oky := ok_digs two64 y
  have hyl := List.length_pos_iff.2 (digs_ne_nil two64 hy)
  obtain ⟨n, hn⟩ : ∃ n, (digs B64 y).length = n + 1 := ⟨(digs B64 y).length - 1, by omega⟩
  obtain ⟨s, hs, hlz, hvl, hvt⟩ := lead hy hn
  have hxlt : x < B64 ^ (digs B64 x).length := by have := val_lt okx; rwa [vx] at this
  have hyge : B64 ^ n ≤ y := by have := (digs_length_bounds two64 hy).1; rwa [hn, Nat.add_sub_cancel] at this
  refine div_divide_vc a b w _ (SJ w a b x y) (fun _ _ _ _ t8 _ => (t8 + 1).toNat) (LJ w s (n + 1) (x * 2 ^ s) (digs B64 (y * 2 ^ s))) (fun _ _ _ _ _ t14 _ => (t14 + 1).toNat) ?_ ?_ ?_
  · refine Calls.mono (Compare_spec ra rb (by omega) (by omega) okx oky) ?_
    rw [vx, vy]
    rintro e w1 ⟨h1, rfl⟩
    refine ⟨_, rfl, br_intro (fun hc => ?_) (fun hc => ?_)⟩
    · have hlt : x < y := cmpI_neg.1 (of_decide_eq_true hc)
      rw [Nat.div_eq_of_lt hlt, Nat.mod_eq_of_lt hlt, digs_zero]
      exact ⟨h1, _, _, rfl, OwnNil.nil, oa.ahead h1⟩
    · have hge : y ≤ x := by
        have := of_decide_eq_false hc
        exact Nat.le_of_not_lt fun h => this (cmpI_neg.2 h)
      have hlen : (digs B64 y).length ≤ (digs B64 x).length := Nat.le_of_not_lt fun h => by have := digs_len_lt two64 h; omega
      refine br_intro (fun h1' => ?_) (fun h1' => ?_)
      · have hn0 : n = 0 := by have := eq_of_beq h1'; omega
        rw [hna, wrap_i64 (by omega) (by omega)]
        refine mkF (w0 := w) (S := fun w' => Rd .u64 w' a (nn (digs B64 x)) ∧ Rd .u64 w' b (nn (digs B64 y))) (by omega) (by omega) h1 ⟨ra.ahead h1, rb.ahead h1⟩ ?_
        intro c w3 hcn hf ha
        refine ⟨rfl, rfl, by omega, _, _, 0, rfl, by omega, rfl, Nat.le_refl _, hf, by rw [List.length_replicate]; omega, ok_replicate (by omega) _, ?_⟩
        rw [List.drop_eq_nil_of_le (Nat.le_refl _), List.drop_eq_nil_of_le (by rw [List.length_replicate]; omega)]
        simp [val]
      · have hn1 : 1 ≤ n := by
          rcases Nat.eq_zero_or_pos n with h | h
          · rw [hnb, hn, h] at h1'; simp at h1'
          · exact h
        have e1 : IntKind.i64.wrap ((b.n : Int) - 1) = (n : Int) := by rw [hnb, hn, wrap_i64 (by omega) (by omega)]; omega
        rw [e1]
        refine ldN (rb.ahead h1) (by omega) (by omega) ?_
        repeat rw [Int.toNat_natCast]
        have ht := ok_getD oky (by omega : 0 < B64) n
        refine Calls.mono (Tryz.bits_LeadingZeros64 (((digs B64 y).getD n 0 : Nat) : Int) w1 (by omega) (by omega)) ?_
        rintro e w8 ⟨rfl, rfl⟩
        rw [hlz]
        refine ⟨_, rfl, ?_⟩
        rw [wrap_u64' (x := (s : Int)) (by omega) (by omega)]
        have h8 := h1.trans (Ahead.drew w8)
        refine Calls.mono (up_spec (ra.ahead h8) na okx hs) ?_
        rintro e w9 ⟨u, U, rfl, fu, lu, oku, vu⟩
        have h9 := fu.base
        refine ⟨_, rfl, h9, Calls.mono (up_spec ((rb.ahead h8).ahead h9) nb oky hs) ?_⟩
        rintro e w10 ⟨v, V0, rfl, fv, lv, okv, vv⟩
        have h10 := fv.base
        rw [vy] at vv
        rw [vx] at vu
        refine ⟨_, rfl, h10, ?_⟩
        have hvn : v.n = n + 2 := by rw [fv.rd.n, nn_length, lv, hn]
        have hvc := fv.rd.c
        have hun : u.n = (digs B64 x).length + 1 := by rw [fu.rd.n, nn_length, lu]
        have hcut : ∀ w', (Instr.sliceAt 23 v.v none (some (Value.int .i64 (b.n : Int))) none).run pr w' = .ok (Slc.v ⟨v.A, n + 1, v.c⟩) w' := fun w' => by
          have := run_slice_hi (P := pr) (t := 23) (k := .u64) (e := tU64) (by kernel_rfl) w' v (h := (b.n : Int)) (by omega) (by omega)
          rw [Int.toNat_natCast] at this
          rw [this, hnb, hn]
        refine ⟨⟨v.A, n + 1, v.c⟩, fun w' _ => hcut w', ?_⟩
        have e2 : IntKind.i64.wrap (IntKind.i64.wrap ((a.n : Int) - ((n + 1 : Nat) : Int)) + 1) = (((digs B64 x).length - n : Nat) : Int) := by
          rw [hna, wrap_i64 (x := ((digs B64 x).length : Int) - _) (by omega) (by omega), wrap_i64 (by omega) (by omega)]; omega
        have e3 : IntKind.i64.wrap ((a.n : Int) - ((n + 1 : Nat) : Int)) = (((digs B64 x).length - n : Nat) : Int) - 1 := by
          rw [hna, wrap_i64 (by omega) (by omega)]; omega
        show semS pr (Instr.makeSlice 23 (Value.int .i64 (IntKind.i64.wrap (IntKind.i64.wrap ((a.n : Int) - ((n + 1 : Nat) : Int)) + 1))) (Value.int .i64 (IntKind.i64.wrap (IntKind.i64.wrap ((a.n : Int) - ((n + 1 : Nat) : Int)) + 1)))) w10 fun s7 w11 =>
          LJ w s (n + 1) (x * 2 ^ s) (digs B64 (y * 2 ^ s)) (s : Int) u ⟨v.A, n + 1, v.c⟩ ((n + 1 : Nat) : Int) s7 (IntKind.i64.wrap ((a.n : Int) - ((n + 1 : Nat) : Int))) w11
        rw [e2, e3]
        refine mkF (w0 := w10) (S := fun _ => True) (by omega) (by omega) (Ahead.refl _) trivial ?_
        intro q w11 hqn fq h11
        rw [Int.toNat_natCast] at fq
        obtain ⟨bu, bq, hbu, hbq, L⟩ := ld_start fu fv fq hn (by omega) lu lv oku okv vu vv hvl hvt hxlt hyge
        exact ⟨rfl, rfl, by omega, (h8.trans h9).trans (h10.trans h11), bu, bq, U, _, (digs B64 x).length - n, rfl, Nat.le_trans h8.size hbu, Nat.le_trans ((h8.trans h9).trans h10).size hbq, by omega, L⟩
  · -- one limb
    rintro t0 t1 q t7 t8 w1 ⟨rfl, rfl, hone, l, j, r, rfl, hr, rfl, hj, hf, hl, okl, hv⟩
    have hS := hf.src (fun _ h hs => ⟨Rd.ahead hs.1 h, Rd.ahead hs.2 h⟩)
    have hyv : y = (digs B64 y).getD 0 0 := by
      have h1 := top1 (B := B64) (m := 0) hone
      rw [vy] at h1
      simpa [val] using h1
    have hyB := ok_getD oky (by omega : 0 < B64) 0
    refine br_intro (fun hge => ?_) (fun hlt => ?_)
    · have hj' : 1 ≤ j := by have := of_decide_eq_true hge; omega
      have e1 : (j : Int) - 1 = ((j - 1 : Nat) : Int) := by omega
      have ad := Ahead.drew w1
      rw [e1]
      refine ⟨fun _ _ => False, ldNa (hS.1.ahead ad) (by omega) (by omega) (fun _ h => h) (ldNa (hS.2.ahead ad) (by omega) (by omega) (fun _ h => h) ?_)⟩
      repeat rw [Int.toNat_natCast]
      rw [show (0 : Int).toNat = 0 from rfl, ← hyv]
      have hx1 := ok_getD okx (by omega : 0 < B64) (j - 1)
      refine Calls.mono (Div64_spec hr hx1 (by omega)) ?_
      rintro e w3 ⟨h3, rfl⟩
      refine ⟨_, _, rfl, ?_⟩
      have hq : (r * B64 + (digs B64 x).getD (j - 1) 0) / y < B64 := div_lt_of (by
        have := Nat.mul_le_mul_right B64 hr
        rw [Nat.succ_mul] at this
        rw [Nat.mul_comm B64 y]; omega) (by omega)
      refine stFa ((hf.ahead ad).ahead h3) (by omega) (by omega) ?_
      intro w4 hf4
      rw [Int.toNat_natCast] at hf4
      rw [wrap_i64 (by omega) (by omega)]
      refine ⟨⟨rfl, rfl, hone, _, j - 1, _, rfl, Nat.mod_lt _ (by omega), rfl, by omega, hf4, by simpa using hl, ok_set okl hq, ?_⟩, by omega⟩
      rw [drop_cons_val (show j - 1 < (digs B64 x).length by omega), drop_cons_val (show j - 1 < (l.set (j - 1) ((r * B64 + (digs B64 x).getD (j - 1) 0) / y)).length by simp; omega), getD_set _ _ _ _ (by omega), if_pos rfl, drop_set_ge, show j - 1 + 1 = j by omega, hv]
      have d := Nat.div_add_mod (r * B64 + (digs B64 x).getD (j - 1) 0) y
      generalize (r * B64 + (digs B64 x).getD (j - 1) 0) / y = Q at *
      generalize (r * B64 + (digs B64 x).getD (j - 1) 0) % y = R at *
      rw [Nat.mul_add, Nat.add_mul, Nat.mul_comm B64 r, Nat.mul_comm Q y, ← Nat.mul_assoc]
      omega
    · have hj' : j = 0 := by have := of_decide_eq_false hlt; omega
      subst hj'
      rw [List.drop_zero, List.drop_zero, vx] at hv
      have hdv : x / y = val B64 l := by rw [hv, Nat.mul_comm, Nat.mul_add_div (by omega), Nat.div_eq_of_lt hr, Nat.add_zero]
      have hmd : x % y = r := by rw [hv, Nat.mul_comm, Nat.mul_add_mod, Nat.mod_eq_of_lt hr]
      refine Calls.mono (Norm_spec hf.rd (by omega) okl) ?_
      rw [← hdv]
      rintro e w5 ⟨h5, s5, rfl, os⟩
      refine ⟨_, rfl, Calls.mono (From_spec (v := r) (by omega)) ?_⟩
      rintro e w6 ⟨h6, s6, rfl, or⟩
      have hb1 := hf.base
      exact ⟨_, rfl, (hb1.trans h5).trans h6, _, _, rfl, (os.ahead h6).mono hb1.size, by rw [hmd]; exact or.mono (Nat.le_trans hbase (hb1.trans h5).size)⟩
  · -- a limb of the long division
    rintro t9 u v t12 q t14 w1 ⟨rfl, rfl, hn2, h1, bu, bq, U, Q, k, rfl, hbu, hbq, hUl, L⟩
    have hun : u.n = U.length := by rw [L.ou.rd.n, nn_length]
    have huc := L.ou.rd.c
    have hlen := L.len
    have hk := L.hk
    have hvl' := hvl
    generalize hVV : digs B64 (y * 2 ^ s) = V at *
    have okV : ok B64 V := by rw [← hVV]; exact ok_digs two64 _
    have vV : val B64 V = y * 2 ^ s := by rw [← hVV]; exact val_digs two64 _
    have hVlt : val B64 V < B64 ^ (n + 1) := by have := val_lt okV; rwa [hvl'] at this
    refine br_intro (fun hge => ?_) (fun hlt => ?_)
    · obtain ⟨k', rfl⟩ : ∃ k', k = k' + 1 := ⟨k - 1, by have := of_decide_eq_true hge; omega⟩
      have e0 : ((k' + 1 : Nat) : Int) - 1 = (k' : Int) := by omega
      have e1 : IntKind.i64.wrap (IntKind.i64.wrap ((k' : Int) + ((n + 1 : Nat) : Int)) + 1) = ((k' + (n + 2) : Nat) : Int) := by rw [wrap_i64 (x := (k' : Int) + _) (by omega) (by omega), wrap_i64 (by omega) (by omega)]; omega
      rw [e0, e1]
      have hcut : (Instr.sliceAt 23 u.v (some (Value.int .i64 (k' : Int))) (some (Value.int .i64 ((k' + (n + 2) : Nat) : Int))) none).run pr w1 = .ok (Slc.v ⟨some ⟨bu, k', none⟩, n + 2, u.c - k'⟩) w1 := by
        rw [run_slice_both (k := .u64) (e := tU64) (by kernel_rfl) w1 u (by omega) (by omega) (by omega)]
        repeat rw [Int.toNat_natCast]
        rw [if_neg (by omega), L.ou.A, Option.map_some, add_off, Nat.add_sub_cancel_left]
      unfold semS
      rw [Sem.wp_iff_run, hcut]
      refine ⟨_, rfl, ?_⟩
      -- the window
      have hsl : ((U.drop k').take (n + 2)).length = n + 2 := by rw [List.length_take, List.length_drop]; omega
      have hpl : (U.take k').length = k' := by rw [List.length_take]; omega
      have hsplit : U = U.take k' ++ ((U.drop k').take (n + 2) ++ U.drop (k' + (n + 2))) := by
        rw [← List.drop_drop, List.take_append_drop, List.take_append_drop]
      have W : Win w1 bu u ⟨some ⟨bu, k', none⟩, n + 2, u.c - k'⟩ (U.take k') ((U.drop k').take (n + 2)) (U.drop (k' + (n + 2))) := by
        refine ⟨by rw [← hsplit]; exact L.ou, u.c - k', by omega, ?_⟩
        rw [hpl, hsl]
      -- its value
      have hlow := L.low
      have hpost : val B64 (U.drop (k' + (n + 2))) = 0 := by
        have h2 := val_take_drop (B := B64) (U.drop (k' + 1)) (n + 1) (by rw [List.length_drop]; omega)
        rw [List.drop_drop, show k' + 1 + (n + 1) = k' + (n + 2) by omega] at h2
        rcases Nat.eq_zero_or_pos (val B64 (U.drop (k' + (n + 2)))) with h0 | h0
        · exact h0
        · have := Nat.mul_le_mul_left (B64 ^ (n + 1)) h0
          omega
      have hval : val B64 (U.drop k') = val B64 ((U.drop k').take (n + 2)) := by
        have h2 := val_take_drop (B := B64) (U.drop k') (n + 2) (by rw [List.length_drop]; omega)
        rwa [List.drop_drop, hpost, Nat.mul_zero, Nat.add_zero] at h2
      have hlt : val B64 ((U.drop k').take (n + 2)) < val B64 V * B64 := by
        rw [← hval, drop_cons_val (by omega)]
        have h3 := ok_getD L.okU (by omega : 0 < B64) k'
        have h4 := Nat.mul_le_mul_left B64 hlow
        rw [Nat.mul_succ] at h4
        rw [Nat.mul_comm (val B64 V)]; omega
      have hokw : ok B64 ((U.drop k').take (n + 2)) := ok_take (ok_drop L.okU _) _
      refine Calls.mono (guess_spec W L.rv L.offu (by omega) (by omega) (by omega) hokw okV (by rw [hvl', Nat.add_sub_cancel]; omega) hlt) ?_
      rintro e w13 ⟨rfl, b13, s', W', ls', oks', vs'⟩
      refine ⟨_, rfl, ?_⟩
      have oq13 := b13.own L.oq L.ne.symm
      refine stO oq13 (by omega) (by omega) ?_
      intro w15 oq15 on15
      rw [Int.toNat_natCast] at oq15
      have b15 : Bk1 bq w13 w15 := Bk1.of_only on15
      have hVpos : 0 < val B64 V := by omega
      have hqB : val B64 ((U.drop k').take (n + 2)) / val B64 V < B64 := div_lt_of (by rw [Nat.mul_comm]; exact hlt) hVpos
      have hd2 : (U.take k' ++ (s' ++ U.drop (k' + (n + 2)))).drop k' = s' ++ U.drop (k' + (n + 2)) := List.drop_left' hpl
      have hvd : val B64 ((U.take k' ++ (s' ++ U.drop (k' + (n + 2)))).drop k') = val B64 s' := by rw [hd2, val_append, hpost, Nat.mul_zero, Nat.add_zero]
      rw [wrap_i64 (by omega) (by omega)]
      refine ⟨⟨rfl, rfl, hn2, ahead_bk (ahead_bk h1 b13 hbu) b15 hbq, bu, bq, _, _, k', rfl, hbu, hbq, by rw [List.length_append, List.length_append, hpl, ls', hsl, List.length_drop]; omega, on15.own W'.own L.ne, oq15, b15.rd (b13.rd L.rv L.offu) L.offq, L.ne, L.offu, L.offq, ?_, ok_set L.okQ hqB, ?_, ?_, ?_, ?_⟩, by omega⟩
      · rw [ok_append, ok_append]
        exact ⟨ok_take L.okU _, oks', ok_drop L.okU _⟩
      · rw [List.length_append, List.length_append, hpl, ls', hsl, List.length_drop, List.length_set]; omega
      · rw [List.length_set]; omega
      · rw [hvd, vs']; exact Nat.mod_lt _ hVpos
      · have ht := L.tot
        have h5 := val_take_drop (B := B64) U k' (by omega)
        rw [h5, hval] at ht
        have h6 := Nat.div_add_mod (val B64 ((U.drop k').take (n + 2))) (val B64 V)
        rw [← vs', Nat.mul_comm] at h6
        have h7 := round_val ht h6.symm
        rw [val_append, hpl, val_append, hpost, Nat.mul_zero, Nat.add_zero, drop_cons_val (show k' < (Q.set k' _).length by rw [List.length_set]; omega), getD_set _ _ _ _ (by omega), if_pos rfl, drop_set_ge]
        exact h7
    · have hk0 : k = 0 := by have := of_decide_eq_false hlt; omega
      subst hk0
      have hlow := L.low
      have ht := L.tot
      rw [List.drop_zero] at hlow
      rw [List.drop_zero, Nat.pow_zero, Nat.one_mul, vV] at ht
      rw [vV] at hlow
      have hp2 : 0 < 2 ^ s := Nat.pow_pos (by omega)
      obtain ⟨f1, f2⟩ := fin_div hp2 (by omega) ht hlow
      have hU : val B64 (U.take (n + 1)) = val B64 U := by
        have h2 := val_take_drop (B := B64) U (n + 1) (by omega)
        rcases Nat.eq_zero_or_pos (val B64 (U.drop (n + 1))) with h0 | h0
        · rw [h0] at h2; omega
        · have := Nat.mul_le_mul_left (B64 ^ (n + 1)) h0
          omega
      have hcut : ∀ w', (Instr.sliceAt 23 u.v none (some (Value.int .i64 ((n + 1 : Nat) : Int))) none).run pr w' = .ok (Slc.v ⟨u.A, n + 1, u.c⟩) w' := fun w' => by
        have := run_slice_hi (P := pr) (t := 23) (k := .u64) (e := tU64) (by kernel_rfl) w' u (h := ((n + 1 : Nat) : Int)) (by omega) (by omega)
        rwa [Int.toNat_natCast] at this
      refine ⟨_, fun w' _ => hcut w', ?_⟩
      have ad := Ahead.drew w1
      have ru := (L.ou.ahead ad).rd.take (m := n + 1) (c := u.c) (by rw [nn_length]; omega) (by omega)
      rw [nn_take] at ru
      refine Calls.mono (Norm_spec (L.oq.ahead ad).rd (by omega) L.okQ) ?_
      rintro e w16 ⟨h16, s10, rfl, os⟩
      refine ⟨_, rfl, h16, ?_⟩
      refine Calls.mono (down_spec (ru.ahead h16) (by rw [List.length_take]; omega) (ok_take L.okU _) hs) ?_
      rw [hU, f2]
      rintro e w17 ⟨h17, s11, rfl, ot⟩
      have h1d := h1.trans ad
      refine ⟨_, rfl, h17, (h1d.trans h16).trans h17, _, _, rfl, ?_, ot.mono (Nat.le_trans hbase (h1d.trans h16).size)⟩
      rw [← f1]
      exact (os.ahead h17).mono h1d.size

/-- What a quotient of the program's limit answers. -/
def quoC (x y : Nat) : Int := if y = 0 then 30 else bigC (x / y)
theorem Quo_spec {w : World} {a b : Slc} {x y : Nat} (ha : Num w a x) (hb : Num w b y) : Calls pr div_Quo_id #[a.v, b.v] w (Nat.Ret w (quoC x y) (x / y)) := by
  have lx := Num.bl ha
  have ly := Num.bl hb
  have dx := digs_len_bl (N := x) (m := 2 ^ 44) (by omega)
  have dy := digs_len_bl (N := y) (m := 2 ^ 44) (by omega)
  obtain ⟨la, ra, na, oka, va⟩ := ha
  obtain ⟨lb, rb, nb, okb, vb⟩ := hb
  refine div_Quo_vc a b w _ (Calls.mono (Norm_spec ra na oka) ?_)
  rw [va]
  rintro e w1 ⟨h1, s, rfl, os⟩
  refine ⟨_, rfl, Calls.mono (Norm_spec (rb.ahead h1) nb okb) ?_⟩
  rw [vb]
  rintro e w2 ⟨h2, t, rfl, ot⟩
  have hn : t.n = (digs B64 y).length := by rw [ot.rd.n, nn_length]
  have h02 := h1.trans h2
  refine ⟨_, rfl, br_intro (fun h0 => ?_) (fun h0 => ?_)⟩
  · have hy : y = 0 := by
      have h3 := eq_of_beq h0
      rcases Nat.eq_zero_or_pos y with h | h
      · exact h
      · have := List.length_pos_iff.2 (digs_ne_nil two64 (show y ≠ 0 by omega)); omega
    have hc : quoC x y = 30 := by rw [quoC, if_pos hy]
    rw [hc]
    exact ⟨h02, _, rfl, OwnNil.nil⟩
  · have hy : y ≠ 0 := fun h => by rw [hn, h, digs_zero] at h0; simp at h0
    have hc : quoC x y = bigC (x / y) := by rw [quoC, if_neg hy]
    rw [hc]
    refine Calls.mono (divide_spec (os.ahead h2) h02.size ot.rd dx dy hy) ?_
    rintro e w3 ⟨h3, q, r, rfl, oq, or⟩
    have hle : (digs B64 (x / y)).length ≤ 2 ^ 44 := Nat.le_trans (digs_len_bl (m := 2 ^ 44) (Nat.le_trans (bl_mono (Nat.div_le_self _ _)) (by omega))) (Nat.le_refl _)
    refine ⟨_, _, rfl, Calls.mono (len_num ⟨_, oq.rd, hle, ok_digs two64 _, val_digs two64 _⟩) ?_⟩
    rintro e w4 ⟨rfl, rfl⟩
    refine ⟨_, rfl, br_intro (fun hg => ?_) (fun hg => ?_)⟩
    · have hc : bigC (x / y) = 3 := by have := of_decide_eq_true hg; rw [bigC, if_neg (by omega)]
      rw [hc]
      exact ⟨h02.trans h3, _, rfl, OwnNil.nil⟩
    · have hc : bigC (x / y) = 0 := by have := of_decide_eq_false hg; rw [bigC, if_pos (by omega)]
      rw [hc]
      exact ⟨h02.trans h3, _, rfl, by rw [if_pos rfl]; exact oq.mono h02.size⟩
end Dq
end Go.Proofs.YtbeiopoejdkheaaGreatDoor
namespace Go.Proofs.YtbeiopoejdkheaaGreatDoor
open Go Go.RowKit Eng
set_option linter.unusedVariables false

set_option maxRecDepth 100000 in
/-- surd/roots.Sqrt: function 51. -/
theorem roots_Sqrt_vc (a0_a : Slc) (w : World) (R : Ending → World → Prop)
    
    (h : Calls Tryz.prog 96 #[a0_a.v, Value.int .i64 2] w fun e1 w1 =>
    ∃ s1 : Slc, ∃ s2 : Slc, ∃ x1 : Int, e1 = .returned (Value.tuple #[s1.v, s2.v, Value.int .i64 x1]) ∧
    (R (.returned (Value.tuple #[s1.v, s2.v, Value.int .i64 x1])) w1)) :
    Calls Tryz.prog 51 #[a0_a.v] w R := by
  refine calls_of_vc (fun _ => none) (by kernel_rfl) Tryz.func51 rfl ?_ ?_
  · refine kcast h ?_; kernel_rfl
  · exact (obl_seq rfl (obl_reg (obl_seq rfl (obl_reg (obl_ret trivial)))))

set_option maxRecDepth 100000 in
/-- surd/roots.Root: function 96. -/
theorem roots_Root_vc (a0_a : Slc) (a1_k : Int) (w : World) (R : Ending → World → Prop)
    
    (h : br (decide (a1_k < 1))
    (R (.returned (Value.tuple #[(⟨none, 0, 0⟩ : Slc).v, (⟨none, 0, 0⟩ : Slc).v, Value.int .i64 40])) w)
    (Calls Tryz.prog 123 #[a0_a.v] w fun e1 w1 =>
     ∃ s1 : Slc, ∃ x1 : Int, e1 = .returned (Value.tuple #[s1.v, Value.int .i64 x1]) ∧
     (br (x1 != 0)
      (R (.returned (Value.tuple #[(⟨none, 0, 0⟩ : Slc).v, (⟨none, 0, 0⟩ : Slc).v, Value.int .i64 x1])) w1)
      (br (a1_k == 1)
       (R (.returned (Value.tuple #[s1.v, (⟨none, 0, 0⟩ : Slc).v, Value.int .i64 0])) w1)
       (Calls Tryz.prog 46 #[s1.v] w1 fun e2 w2 =>
        ∃ x2 : Int, e2 = .returned (Value.int .i64 x2) ∧
        (br (x2 == 0)
         (R (.returned (Value.tuple #[s1.v, (⟨none, 0, 0⟩ : Slc).v, Value.int .i64 0])) w2)
         (Calls Tryz.prog 124 #[s1.v, Value.int .i64 a1_k] w2 fun e3 w3 =>
          ∃ s2 : Slc, e3 = .returned s2.v ∧
          (Calls Tryz.prog 125 #[s2.v, Value.int .i64 a1_k] w3 fun e4 w4 =>
           ∃ s3 : Slc, ∃ x3 : Int, e4 = .returned (Value.tuple #[s3.v, Value.int .i64 x3]) ∧
           (Calls Tryz.prog 126 #[s1.v, s3.v] w4 fun e5 w5 =>
            ∃ s4 : Slc, e5 = .returned s4.v ∧
            (R (.returned (Value.tuple #[s2.v, s4.v, Value.int .i64 0])) w5)))))))))) :
    Calls Tryz.prog 96 #[a0_a.v, Value.int .i64 a1_k] w R := by
  refine calls_of_vc (fun _ => none) (by kernel_rfl) Tryz.func96 rfl ?_ ?_
  · refine kcast h ?_; kernel_rfl
  · exact (obl_seq rfl (obl_reg (obl_seq rfl (obl_seq rfl (obl_reg (obl_cond (obl_seq rfl (obl_reg (obl_ret (obl_skip (obl_seq rfl (obl_reg (obl_seq rfl (obl_seq rfl (obl_reg (obl_cond (obl_seq rfl (obl_reg (obl_ret (obl_skip (obl_seq rfl (obl_seq rfl (obl_reg (obl_cond (obl_seq rfl (obl_reg (obl_ret (obl_skip (obl_seq rfl (obl_reg (obl_seq rfl (obl_reg (obl_seq rfl (obl_reg (obl_ret trivial)))))))))))))))))))))))))))))))))))

set_option maxRecDepth 100000 in
/-- surd/roots.fits: function 123. -/
theorem roots_fits_vc (a0_a : Slc) (w : World) (R : Ending → World → Prop)
    
    (h : Calls Tryz.prog 46 #[a0_a.v] w fun e1 w1 =>
    ∃ x1 : Int, e1 = .returned (Value.int .i64 x1) ∧
    (br (decide (x1 > 67108864))
     (R (.returned (Value.tuple #[(⟨none, 0, 0⟩ : Slc).v, Value.int .i64 3])) w1)
     (Calls Tryz.prog 85 #[a0_a.v] w1 fun e2 w2 =>
      ∃ s1 : Slc, e2 = .returned s1.v ∧
      (R (.returned (Value.tuple #[s1.v, Value.int .i64 0])) w2)))) :
    Calls Tryz.prog 123 #[a0_a.v] w R := by
  refine calls_of_vc (fun _ => none) (by kernel_rfl) Tryz.func123 rfl ?_ ?_
  · refine kcast h ?_; kernel_rfl
  · exact (obl_seq rfl (obl_reg (obl_seq rfl (obl_seq rfl (obl_reg (obl_cond (obl_seq rfl (obl_reg (obl_ret (obl_skip (obl_seq rfl (obl_reg (obl_ret trivial)))))))))))))

def roots_newton_cut (J0 : Slc → Int → Slc → World → Prop) (m0 : Slc → Int → Slc → World → Nat) : Nat → Option ((Act → World → Prop) × (Act → World → Nat))
  | 0 => some (fun a_ w_ => atSz a_ 72 (atS a_ 0 fun t0 => atI .i64 a_ 1 fun t1 => atS a_ 6 fun t6 => J0 t0 t1 t6 w_), fun a_ w_ => mS a_ 0 fun t0 => mI a_ 1 fun t1 => mS a_ 6 fun t6 => m0 t0 t1 t6 w_)
  | _ => none

set_option maxRecDepth 100000 in
/-- surd/roots.newton: function 124. -/
theorem roots_newton_vc (a0 : Slc) (a1 : Int) (w : World) (R : Ending → World → Prop)
    (J0 : Slc → Int → Slc → World → Prop) (m0 : Slc → Int → Slc → World → Nat)
    (h : Calls Tryz.prog 46 #[a0.v] w fun e1 w1 =>
    ∃ x1 : Int, e1 = .returned (Value.int .i64 x1) ∧
    (br (decide (a1 ≥ x1))
     (Calls Tryz.prog 84 #[Value.int .u64 1] w1 fun e2 w2 =>
      ∃ s1 : Slc, e2 = .returned s1.v ∧
      (R (.returned s1.v) w2))
     (semI Tryz.prog .i64 (binOp .quo 3 (Value.int .i64 (IntKind.i64.wrap ((IntKind.i64.wrap (x1 + a1)) - 1))) (Value.int .i64 a1)) w1 fun x2 w3 =>
      Calls Tryz.prog 155 #[Value.int .i64 x2] w3 fun e3 w4 =>
      ∃ s2 : Slc, e3 = .returned s2.v ∧
      (J0 a0 a1 s2 w4))))
    (h0 : ∀ (t0 : Slc) (t1 : Int) (t6 : Slc) (w_ : World), J0 t0 t1 t6 w_ → 
    Calls Tryz.prog 125 #[t6.v, Value.int .i64 (IntKind.i64.wrap (t1 - 1))] w_ fun e4 w5 =>
    ∃ s3 : Slc, ∃ x3 : Int, e4 = .returned (Value.tuple #[s3.v, Value.int .i64 x3]) ∧
    (Calls Tryz.prog 86 #[t0.v, s3.v] w5 fun e5 w6 =>
     ∃ s4 : Slc, ∃ x4 : Int, e5 = .returned (Value.tuple #[s4.v, Value.int .i64 x4]) ∧
     (Calls Tryz.prog 156 #[t6.v, Value.int .u64 (IntKind.u64.wrap (IntKind.i64.wrap (t1 - 1)))] w6 fun e6 w7 =>
      ∃ s5 : Slc, ∃ x5 : Int, e6 = .returned (Value.tuple #[s5.v, Value.int .i64 x5]) ∧
      (Calls Tryz.prog 94 #[s5.v, s4.v] w7 fun e7 w8 =>
       ∃ s6 : Slc, ∃ x6 : Int, e7 = .returned (Value.tuple #[s6.v, Value.int .i64 x6]) ∧
       (Calls Tryz.prog 157 #[s6.v, Value.int .u64 (IntKind.u64.wrap t1)] w8 fun e8 w9 =>
        ∃ s7 : Slc, ∃ x7 : Int, ∃ x8 : Int, e8 = .returned (Value.tuple #[s7.v, Value.int .u64 x7, Value.int .i64 x8]) ∧
        (Calls Tryz.prog 81 #[s7.v, t6.v] w9 fun e9 w10 =>
         ∃ x9 : Int, e9 = .returned (Value.int .i64 x9) ∧
         (br (decide (x9 ≥ 0))
          (R (.returned t6.v) w10)
          (J0 t0 t1 s7 w10 ∧
           m0 t0 t1 s7 w10 < m0 t0 t1 t6 w_)))))))) :
    Calls Tryz.prog 124 #[a0.v, Value.int .i64 a1] w R := by
  refine calls_of_vc (roots_newton_cut J0 m0) (by kernel_rfl) Tryz.func124 rfl ?_ ?_
  · refine kcast h ?_; kernel_rfl
  · exact (obl_seq rfl (obl_reg (obl_seq rfl (obl_reg (obl_seq rfl (obl_seq rfl (obl_reg (obl_cond (obl_seq rfl (obl_reg (obl_ret (obl_skip (obl_seq rfl (obl_reg (obl_loop _ rfl (fun a_ w_ hL_ => (by
    obtain ⟨hz_, hd_, hL_⟩ := atSz_out hL_
    obtain ⟨t0, h0_, hL_⟩ := atS_out hL_
    obtain ⟨t1, h1_, hL_⟩ := atI_out hL_
    obtain ⟨t6, h6_, hL_⟩ := atS_out hL_
    obtain ⟨g0, rfl⟩ : ∃ g, a_ = Fr 72 [(0, t0.v), (1, Value.int .i64 t1), (6, t6.v)] g := ⟨_, fr_of hz_ hd_ [(0, t0.v), (1, Value.int .i64 t1), (6, t6.v)] (sel_cons h0_ (sel_cons h1_ (sel_cons h6_ sel_nil)))⟩
    clear hz_ hd_ h0_ h1_ h6_
    have hJ0_ := hL_
    refine ⟨(fun _ => none), kcast (h0 t0 t1 t6 w_ hJ0_) ?_, ?_⟩
    · kernel_rfl
    · exact (obl_blk rfl (obl_seq rfl (obl_reg (obl_seq rfl (obl_reg (obl_seq rfl (obl_reg (obl_seq rfl (obl_reg (obl_seq rfl (obl_reg (obl_seq rfl (obl_seq rfl (obl_reg (obl_cond (obl_seq rfl (obl_reg (obl_ret (obl_skip (obl_reg trivial)))))))))))))))))))))) trivial)))))))))))))))

set_option maxRecDepth 100000 in
/-- surd/roots.less: function 126. -/
theorem roots_less_vc (a0_a : Slc) (a1_b : Slc) (w : World) (R : Ending → World → Prop)
    
    (h : Calls Tryz.prog 158 #[a0_a.v, a1_b.v] w fun e1 w1 =>
    ∃ s1 : Slc, ∃ x1 : Int, e1 = .returned (Value.tuple #[s1.v, Value.int .i64 x1]) ∧
    (R (.returned s1.v) w1)) :
    Calls Tryz.prog 126 #[a0_a.v, a1_b.v] w R := by
  refine calls_of_vc (fun _ => none) (by kernel_rfl) Tryz.func126 rfl ?_ ?_
  · refine kcast h ?_; kernel_rfl
  · exact (obl_seq rfl (obl_reg (obl_seq rfl (obl_reg (obl_seq rfl (obl_reg (obl_ret trivial)))))))

set_option maxRecDepth 100000 in
/-- surd/roots.power: function 155. -/
theorem roots_power_vc (a0_n : Int) (w : World) (R : Ending → World → Prop)
    
    (h : Calls Tryz.prog 84 #[Value.int .u64 1] w fun e1 w1 =>
    ∃ s1 : Slc, e1 = .returned s1.v ∧
    (Calls Tryz.prog 159 #[s1.v, Value.int .i64 a0_n] w1 fun e2 w2 =>
     ∃ s2 : Slc, ∃ x1 : Int, e2 = .returned (Value.tuple #[s2.v, Value.int .i64 x1]) ∧
     (R (.returned s2.v) w2))) :
    Calls Tryz.prog 155 #[Value.int .i64 a0_n] w R := by
  refine calls_of_vc (fun _ => none) (by kernel_rfl) Tryz.func155 rfl ?_ ?_
  · refine kcast h ?_; kernel_rfl
  · exact (obl_seq rfl (obl_reg (obl_seq rfl (obl_reg (obl_seq rfl (obl_reg (obl_ret trivial)))))))

end Go.Proofs.YtbeiopoejdkheaaGreatDoor
namespace Go.Proofs.YtbeiopoejdkheaaGreatDoor
open Go Go.RowKit Eng Sp Dg Kd
set_option linter.unusedVariables false
set_option linter.unusedSimpArgs false
set_option maxRecDepth 100000
namespace Rt
open _root_.Go.Proofs.YtbeiopoejdkheaaGreatDoor.Nat (Num Num.ahead Num.bl OwnNil OwnNil.nil OwnNil.rd OwnNil.mono OwnNil.ahead Ret Ret.num bigC bigC_ok digs_len_bl Norm_spec From_spec add_num sub_num subC cmp_num len_num left_num leftC own_num times_num through_num thC RetQ)
open _root_.Go.Proofs.YtbeiopoejdkheaaGreatDoor.Mul (Pow_spec)
open _root_.Go.Proofs.YtbeiopoejdkheaaGreatDoor.Dq (Quo_spec quoC)

def isR (a r : Nat) : Prop := r * r ≤ a ∧ a < (r + 1) * (r + 1)
theorem isR_unique {a r s : Nat} (h : isR a r) (h' : isR a s) : r = s := by
  have h1 : r < s + 1 := Nat.lt_of_not_le fun hle => by
    have := Nat.mul_le_mul hle hle
    have := h.1; have := h'.2; omega
  have h2 : s < r + 1 := Nat.lt_of_not_le fun hle => by
    have := Nat.mul_le_mul hle hle
    have := h'.1; have := h.2; omega
  omega
/-- Newton's next stays above. -/
theorem newton_step {a x : Nat} (hx : 0 < x) : a < ((x + a / x) / 2 + 1) * ((x + a / x) / 2 + 1) := by
  have h1 : a < x * (a / x + 1) := by
    have := Nat.div_add_mod a x
    have := Nat.mod_lt a hx
    rw [Nat.mul_add]; omega
  generalize a / x = q at *
  have h2 : x + q + 1 ≤ 2 * ((x + q) / 2 + 1) := by omega
  generalize (x + q) / 2 + 1 = z at *
  -- (x + q + 1)^2 ≥ 4 x (q + 1)
  have h3 : 4 * (x * (q + 1)) ≤ (x + q + 1) * (x + q + 1) := by
    rcases Nat.le_total x (q + 1) with h | h
    · obtain ⟨d, hd⟩ := Nat.exists_eq_add_of_le h
      rw [show x + q + 1 = x + (q + 1) by omega, hd]
      have e1 : (x + (x + d)) * (x + (x + d)) = 4 * (x * (x + d)) + d * d := by
        simp only [Nat.mul_add, Nat.add_mul, Nat.mul_comm d x]; omega
      omega
    · obtain ⟨d, hd⟩ := Nat.exists_eq_add_of_le h
      rw [show x + q + 1 = x + (q + 1) by omega, hd]
      generalize q + 1 = y
      have e1 : (y + d + y) * (y + d + y) = 4 * ((y + d) * y) + d * d := by
        simp only [Nat.mul_add, Nat.add_mul, Nat.mul_comm d y]; omega
      omega
  have h4 : (x + q + 1) * (x + q + 1) ≤ (2 * z) * (2 * z) := Nat.mul_le_mul h2 h2
  have h5 : (2 * z) * (2 * z) = 4 * (z * z) := by
    rw [Nat.mul_mul_mul_comm]
  omega
/-- Where Newton stands still, it is the root. -/
theorem newton_stop {a x : Nat} (hx : 0 < x) (h : a < (x + 1) * (x + 1)) (hs : x ≤ (x + a / x) / 2) : isR a x := by
  refine ⟨?_, h⟩
  have h1 : x ≤ a / x := by omega
  exact (Nat.le_div_iff_mul_le hx).1 h1

/-- The number that a slice reads as. -/
noncomputable def nv (w : World) (s : Slc) : Nat := by
  classical
  exact if h : ∃ m, Num w s m then Classical.choose h else 0
theorem rd_inj {k : IntKind} {w : World} {s : Slc} {l m : List Int} (h1 : Rd k w s l) (h2 : Rd k w s m) : l = m := by
  have hl : l.length = m.length := by rw [← h1.n, h2.n]
  refine List.ext_getElem hl fun i q1 q2 => ?_
  obtain ⟨a, e1, c1⟩ := h1.get i q1
  obtain ⟨b, e2, c2⟩ := h2.get i q2
  rw [e1] at e2
  obtain rfl := Option.some.inj e2
  rw [c1] at c2
  injection c2 with c2
  injection c2 with _ c2
  rw [getD_lt _ _ q1, getD_lt _ _ q2] at c2
  exact c2
theorem nv_eq {w : World} {s : Slc} {m : Nat} (h : Num w s m) : nv w s = m := by
  have hx : ∃ m, Num w s m := ⟨m, h⟩
  unfold nv
  rw [dif_pos hx]
  obtain ⟨l, q1, _, _, q2⟩ := h
  obtain ⟨l', r1, _, _, r2⟩ := Classical.choose_spec hx
  rw [← r2, ← q2, nn_inj (rd_inj r1 q1)]

theorem semQuoI {x y : Nat} {t : TypeId} {w : World} {K : Int → World → Prop} (hy : 0 < y) (hx : x ≤ 9223372036854775807) (h : K ((x / y : Nat) : Int) w) : semI pr .i64 (binOp .quo t (.int .i64 (x : Int)) (.int .i64 (y : Int))) w K := by
  have hle : x / y ≤ x := Nat.div_le_self _ _
  have hq : ((x : Int) / (y : Int)) = ((x / y : Nat) : Int) := by norm_cast
  have e : binOp .quo t (.int .i64 (x : Int)) (.int .i64 (y : Int)) = pure (.int .i64 ((x / y : Nat) : Int)) := by
    unfold binOp
    simp only [Op.intDiv]
    rw [if_neg (by simp), if_neg (by omega), Int.tdiv_eq_ediv_of_nonneg (by omega), hq]
    generalize x / y = q at *
    rw [wrap_i64 (by omega) (by omega)]
  unfold semI
  rw [e, Sem.wp_iff_run]
  exact ⟨_, rfl, h⟩

theorem bl_add_le {a b k : Nat} (ha : bl a ≤ k) (hb : bl b ≤ k) : bl (a + b) ≤ k + 1 := by
  refine bl_le ?_
  have h1 := bl_le_iff.1 ha
  have h2 := bl_le_iff.1 hb
  rw [Nat.pow_succ]; omega
theorem bl_one : bl 1 = 1 := bl_eq (k := 0) (by omega) (by omega)
theorem two_bl {x : Nat} (h : 2 ≤ x) : 2 ≤ bl x := by
  have := lt_bl x
  rcases Nat.lt_or_ge (bl x) 2 with h1 | h1
  · have h2 : 2 ^ bl x ≤ 2 ^ 1 := Nat.pow_le_pow_right (by omega) (by omega)
    omega
  · exact h1
/-- A power of 1. -/
theorem pow_one {w : World} {a : Slc} {n : Nat} (ha : Num w a 1) (h0 : 1 ≤ n) (hn : n ≤ 67108864) : Calls pr mul_Pow_id #[a.v, .int .i64 (n : Int)] w (Ret w 0 1) := by
  refine mul_Pow_vc a _ w _ (fun _ _ _ _ _ => False) (fun _ _ _ _ _ => 0) (br_false (decide_eq_false (by omega)) ?_) (fun _ _ _ _ _ h => h.elim)
  obtain ⟨l, rl, ll, ol, vl⟩ := ha
  refine Calls.mono (Norm_spec rl ll ol) ?_
  rw [vl]
  rintro e w1 ⟨h1, s, rfl, os⟩
  refine ⟨_, rfl, br_false (beq_eq_false_iff_ne.2 (by omega)) (Calls.mono (len_num (own_num os (by rw [bl_one]; omega))) ?_)⟩
  rintro e w2 ⟨rfl, rfl⟩
  rw [bl_one]
  exact ⟨_, rfl, br_true rfl ⟨h1, s, rfl, by rw [if_pos rfl]; exact os⟩⟩
theorem pow_any {w : World} {a : Slc} {x n : Nat} (ha : Num w a x) (hx : 1 ≤ x) (h0 : 1 ≤ n) (hn : n ≤ 67108864) (hb : bl x * n ≤ 67108864) : Calls pr mul_Pow_id #[a.v, .int .i64 (n : Int)] w (Ret w 0 (x ^ n)) := by
  rcases Nat.lt_or_ge x 2 with h | h
  · have : x = 1 := by omega
    subst this
    rw [Nat.one_pow]
    exact pow_one ha h0 hn
  · exact Pow_spec ha (two_bl h) h0 hb

theorem newton_spec {w : World} {a : Slc} {x : Nat} (ha : Num w a x) (hx : 0 < x) (hb : bl x ≤ 33554432) :
    Calls pr roots_newton_id #[a.v, .int .i64 2] w fun e w' => Ahead w w' ∧ ∃ s r, e = .returned (Slc.v s) ∧ OwnNil w.heap.size w' s (digs B64 r) ∧ isR x r := by
  have hB := B64v
  have hbp := bl_pos (show x ≠ 0 by omega)
  refine roots_newton_vc a 2 w _ (fun t0 t1 t6 w' => t0 = a ∧ t1 = 2 ∧ 4 ≤ x ∧ Ahead w w' ∧ ∃ z, 2 ≤ z ∧ bl z ≤ 16777220 ∧ x < (z + 1) * (z + 1) ∧ OwnNil w.heap.size w' t6 (digs B64 z)) (fun _ _ t6 w' => nv w' t6) ?_ ?_
  · refine Calls.mono (len_num ha) ?_
    rintro e w1 ⟨rfl, rfl⟩
    refine ⟨_, rfl, br_intro (fun h => ?_) (fun h => ?_)⟩
    · have h' := of_decide_eq_true h
      have hx4 : x < 2 ^ 2 := Nat.lt_of_lt_of_le (lt_bl x) (Nat.pow_le_pow_right (by omega) (by omega))
      refine Calls.mono (From_spec (v := 1) (by omega)) ?_
      rintro e w2 ⟨h2, s, rfl, os⟩
      exact ⟨_, rfl, h2, _, 1, rfl, os, by omega, by omega⟩
    · have h' := of_decide_eq_false h
      rw [wrap_i64 (x := (bl x : Int) + 2) (by omega) (by omega), wrap_i64 (x := (bl x : Int) + 2 - 1) (by omega) (by omega), show (bl x : Int) + 2 - 1 = ((bl x + 1 : Nat) : Int) by omega, show (2 : Int) = ((2 : Nat) : Int) from rfl]
      refine semQuoI (by omega) (by omega) ?_
      refine roots_power_vc _ w1 _ (Calls.mono (From_spec (v := 1) (by omega)) ?_)
      rintro e w2 ⟨h2, s, rfl, os⟩
      refine ⟨_, rfl, ?_⟩
      have hl := left_num (n := (((bl x + 1) / 2 : Nat) : Int)) (own_num os (by rw [bl_one]; omega)) (by omega) (by omega)
      have hb2 : bl (1 * 2 ^ ((bl x + 1) / 2)) = (bl x + 1) / 2 + 1 := by
        rw [Nat.one_mul]; exact bl_eq (Nat.le_refl _) (Nat.pow_lt_pow_right (by omega) (by omega))
      have hc : leftC 1 (((bl x + 1) / 2 : Nat) : Int) = 0 := by
        unfold leftC
        rw [if_neg (by omega), if_neg (by rw [bl_one]; omega)]
      rw [hc, Int.toNat_natCast] at hl
      refine Calls.mono hl ?_
      intro e w3 hr
      obtain ⟨h3, u, rfl, ou, nu⟩ := hr.num rfl (by omega)
      have hx4 : 4 ≤ x := by
        have g1 := (bl_bounds (show x ≠ 0 by omega)).1
        have g2 : 2 ^ 2 ≤ 2 ^ (bl x - 1) := Nat.pow_le_pow_right (by omega) (by omega)
        omega
      refine ⟨_, _, rfl, _, rfl, rfl, rfl, hx4, h2.trans h3, _, ?_, by omega, ?_, ou.mono h2.size⟩
      · rw [Nat.one_mul]
        have : 2 ^ 1 ≤ 2 ^ ((bl x + 1) / 2) := Nat.pow_le_pow_right (by omega) (by omega)
        omega
      · rw [Nat.one_mul]
        have h4 := lt_bl x
        have h5 : 2 ^ bl x ≤ 2 ^ ((bl x + 1) / 2 + (bl x + 1) / 2) := Nat.pow_le_pow_right (by omega) (by omega)
        rw [Nat.pow_add] at h5
        generalize 2 ^ ((bl x + 1) / 2) = P at *
        have h6 : P * P ≤ (P + 1) * (P + 1) := Nat.mul_le_mul (by omega) (by omega)
        omega
  · rintro t0 t1 t6 w1 ⟨rfl, rfl, hx4, h1, z, hz2, hzb, hz, oz⟩
    have nz : Num w1 t6 z := own_num oz (by omega)
    have na := ha.ahead h1
    rw [wrap_i64 (x := (2 : Int) - 1) (by omega) (by omega), show (2 : Int) - 1 = ((1 : Nat) : Int) from rfl]
    refine Calls.mono (Pow_spec nz (two_bl hz2) (n := 1) (by omega) (by omega)) ?_
    rw [Nat.pow_one]
    intro e w5 hr5
    obtain ⟨h5, p, rfl, op, np⟩ := hr5.num rfl (by omega)
    have bq : bl (x / z) ≤ 33554432 := Nat.le_trans (bl_mono (Nat.div_le_self _ _)) hb
    have hqc : quoC x z = 0 := by rw [quoC, if_neg (by omega), bigC_ok (by omega)]
    refine ⟨_, _, rfl, Calls.mono (Quo_spec (na.ahead h5) np) ?_⟩
    intro e w6 hr6
    obtain ⟨h6, q, rfl, oq, nq⟩ := hr6.num hqc (by omega)
    have h56 := h5.trans h6
    rw [wrap_u64' (x := ((1 : Nat) : Int)) (by omega) (by omega)]
    refine ⟨_, _, rfl, Calls.mono (times_num (m := 1) (nz.ahead h56) (by omega)) ?_⟩
    rw [Nat.mul_one]
    intro e w7 hr7
    obtain ⟨h7, r, rfl, or, nr⟩ := hr7.num (bigC_ok (by omega)) (by omega)
    have bs : bl (z + x / z) ≤ 33554440 := Nat.le_trans (bl_add_le (k := 33554432) (by omega) bq) (by omega)
    refine ⟨_, _, rfl, Calls.mono (add_num nr (nq.ahead h7)) ?_⟩
    intro e w8 hr8
    obtain ⟨h8, u, rfl, ou, nu⟩ := hr8.num (bigC_ok (by omega)) (by omega)
    have by2 : bl ((z + x / z) / 2) ≤ 33554440 := Nat.le_trans (bl_mono (Nat.div_le_self _ _)) bs
    have ht : thC (z + x / z) 2 = 0 := by rw [thC, if_neg (by omega), bigC_ok (by omega)]
    rw [show IntKind.u64.wrap (2 : Int) = ((2 : Nat) : Int) from wrap_u64' (by omega) (by omega)]
    refine ⟨_, _, rfl, Calls.mono (through_num (d := 2) nu (by omega)) ?_⟩
    rw [ht]
    rintro e w9 ⟨h9, v, rfl, ov⟩
    rw [if_pos rfl] at ov
    have h18 := (h56.trans h7).trans h8
    have h19 := h18.trans h9
    have nv9 : Num w9 v ((z + x / z) / 2) := own_num ov (by omega)
    refine ⟨_, _, _, rfl, Calls.mono (cmp_num nv9 (nz.ahead h19)) ?_⟩
    rintro e w10 ⟨h10, rfl⟩
    have h110 := h19.trans h10
    refine ⟨_, rfl, br_intro (fun hge => ?_) (fun hlt => ?_)⟩
    · have hge' : ¬ (z + x / z) / 2 < z := fun h => by
        have h0 := of_decide_eq_true hge
        have := cmpI_neg.2 h
        omega
      exact ⟨h1.trans h110, _, z, rfl, oz.ahead h110, newton_stop (by omega) hz (by omega)⟩
    · have hlt' : (z + x / z) / 2 < z := by
        have h0 := of_decide_eq_false hlt
        rcases Nat.lt_or_ge ((z + x / z) / 2) z with h | h
        · exact h
        · exfalso
          have : ¬ cmpI ((z + x / z) / 2) z < 0 := fun h' => by have := cmpI_neg.1 h'; omega
          omega
      have hst := newton_step (a := x) (x := z) (by omega)
      have h2 : 2 ≤ (z + x / z) / 2 := by
        refine Nat.le_of_not_lt fun h => ?_
        have g : ((z + x / z) / 2 + 1) * ((z + x / z) / 2 + 1) ≤ 2 * 2 := Nat.mul_le_mul (by omega) (by omega)
        omega
      refine ⟨⟨rfl, rfl, hx4, h1.trans h110, _, h2, Nat.le_trans (bl_mono (Nat.le_of_lt hlt')) hzb, hst, (ov.ahead h10).mono (Nat.le_trans h1.size h18.size)⟩, ?_⟩
      rw [nv_eq (nv9.ahead h10), nv_eq nz]; exact hlt'

theorem Sqrt_spec {w : World} {a : Slc} {x : Nat} (ha : Num w a x) (hb : bl x ≤ 33554432) :
    Calls pr roots_Sqrt_id #[a.v] w fun e w' => Ahead w w' ∧ ∃ s t r, e = .returned (.tuple #[Slc.v s, Slc.v t, .int .i64 0]) ∧ OwnNil w.heap.size w' s (digs B64 r) ∧ OwnNil w.heap.size w' t (digs B64 (x - r * r)) ∧ isR x r := by
  have hB := B64v
  refine roots_Sqrt_vc a w _ (roots_Root_vc a 2 w _ (br_false rfl (roots_fits_vc a w _ (Calls.mono (len_num ha) ?_))))
  rintro e w1 ⟨rfl, rfl⟩
  refine ⟨_, rfl, br_false (decide_eq_false (by omega)) ?_⟩
  obtain ⟨l, rl, ll, ol, vl⟩ := ha
  refine Calls.mono (Norm_spec rl ll ol) ?_
  rw [vl]
  rintro e w2 ⟨h2, s, rfl, os⟩
  have ns : Num w2 s x := own_num os (by omega)
  refine ⟨_, rfl, _, _, rfl, br_false rfl (br_false rfl (Calls.mono (len_num ns) ?_))⟩
  rintro e w3 ⟨rfl, rfl⟩
  refine ⟨_, rfl, br_intro (fun h0 => ?_) (fun h0 => ?_)⟩
  · have hx : x = 0 := by
      have h1 := eq_of_beq h0
      rcases Nat.eq_zero_or_pos x with h | h
      · exact h
      · have := bl_pos (show x ≠ 0 by omega); omega
    subst hx
    exact ⟨_, _, _, rfl, h2, _, _, 0, rfl, os, by rw [Nat.zero_sub, digs_zero]; exact OwnNil.nil, by omega, by omega⟩
  · have hx : 0 < x := Nat.pos_of_ne_zero fun h => by rw [h, bl_zero] at h0; simp at h0
    refine Calls.mono (newton_spec ns hx hb) ?_
    rintro e w4 ⟨h4, u, r, rfl, ou, hr⟩
    have hr1 : 1 ≤ r := Nat.pos_of_ne_zero fun h => by have := hr.2; rw [h] at this; omega
    have hrr : r ≤ x := Nat.le_trans (Nat.le_mul_of_pos_left r hr1) hr.1
    have br2 : bl r * 2 ≤ 67108864 := by have := bl_mono hrr; omega
    have nr : Num w4 u r := own_num ou (by omega)
    refine ⟨_, rfl, Calls.mono (pow_any (n := 2) nr hr1 (by omega) (by omega) br2) ?_⟩
    have bsq : bl (r ^ 2) ≤ 67108864 := by rw [Nat.pow_two]; exact Nat.le_trans (bl_mono hr.1) (by omega)
    intro e w5 hr5
    obtain ⟨h5, p, rfl, op, np⟩ := hr5.num rfl bsq
    rw [Nat.pow_two] at np
    have h45 := h4.trans h5
    have hsc : subC x (r * r) = 0 := by rw [subC, if_neg (by have := hr.1; omega), bigC_ok (Nat.le_trans (bl_mono (Nat.sub_le _ _)) (by omega))]
    refine ⟨_, _, rfl, roots_less_vc _ _ w5 _ (Calls.mono (sub_num (ns.ahead h45) np) ?_)⟩
    rw [hsc]
    rintro e w6 ⟨h6, t, rfl, ot⟩
    rw [if_pos rfl] at ot
    have h26 := (h2.trans h45).trans h6
    exact ⟨_, _, rfl, _, rfl, _, _, _, rfl, h26, _, _, r, rfl, ((ou.ahead h5).ahead h6).mono h2.size, ot.mono (h2.trans h45).size, hr⟩
end Rt
end Go.Proofs.YtbeiopoejdkheaaGreatDoor
namespace Go.Proofs.YtbeiopoejdkheaaGreatDoor
open Go Go.RowKit Eng
set_option linter.unusedVariables false

set_option maxRecDepth 100000 in
/-- (surd/surdref07.R).Sign: function 10. -/
theorem surdref07_R_Sign_vc (a0_r_0 : Bool) (a0_r_1 : Slc) (a0_r_2 : Slc) (w : World) (R : Ending → World → Prop)
    
    (h : newC w #[Value.bool a0_r_0, a0_r_1.v, a0_r_2.v] 34 fun ad1 w1 =>
    ldS (ad1.add 1) w1 fun s1 =>
    Calls Tryz.prog 40 #[s1.v] w1 fun e1 w2 =>
    ∃ b1 : Bool, e1 = .returned (Value.bool b1) ∧
    (br b1
     (R (.returned (Value.int .i64 0)) w2)
     (ldB ad1 w2 fun b2 =>
      br b2
      (R (.returned (Value.int .i64 (-1))) w2)
      (R (.returned (Value.int .i64 1)) w2)))) :
    Calls Tryz.prog 10 #[Value.agg #[Value.bool a0_r_0, a0_r_1.v, a0_r_2.v]] w R := by
  refine calls_of_vc (fun _ => none) (by kernel_rfl) Tryz.func10 rfl ?_ ?_
  · refine kcast h ?_; kernel_rfl
  · exact (obl_seq rfl (obl_reg (obl_seq rfl (obl_seq rfl (obl_reg (obl_cond (obl_seq rfl (obl_reg (obl_ret (obl_skip (obl_seq rfl (obl_seq rfl (obl_reg (obl_cond (obl_seq rfl (obl_reg (obl_ret (obl_skip (obl_seq rfl (obl_reg (obl_ret trivial)))))))))))))))))))))

set_option maxRecDepth 100000 in
/-- surd/surdref07.Quo: function 12. -/
theorem surdref07_Quo_vc (a0_a_0 : Bool) (a0_a_1 : Slc) (a0_a_2 : Slc) (a1_b_0 : Bool) (a1_b_1 : Slc) (a1_b_2 : Slc) (w : World) (R : Ending → World → Prop)
    
    (h : newC w #[Value.bool a0_a_0, a0_a_1.v, a0_a_2.v] 34 fun ad1 w1 =>
    newC w1 #[Value.bool a1_b_0, a1_b_1.v, a1_b_2.v] 34 fun ad2 w2 =>
    newC w2 #[Value.bool false, (⟨none, 0, 0⟩ : Slc).v, (⟨none, 0, 0⟩ : Slc).v] 34 fun ad3 w3 =>
    ldB ad1 w3.drew fun b1 =>
    ldB ad2 w3.drew fun b2 =>
    ldS (ad1.add 1) w3.drew fun s1 =>
    ldS (ad2.add 2) w3.drew fun s2 =>
    ldS (ad1.add 2) w3.drew fun s3 =>
    ldS (ad2.add 1) w3.drew fun s4 =>
    Calls Tryz.prog 45 #[s1.v, s2.v] w3.drew fun e1 w4 =>
    ∃ s5 : Slc, e1 = .returned s5.v ∧
    (Ahead w3.drew w4 ∧
     (Calls Tryz.prog 45 #[s3.v, s4.v] w4 fun e2 w5 =>
      ∃ s6 : Slc, e2 = .returned s6.v ∧
      (Ahead w4 w5 ∧
       (Calls Tryz.prog 44 #[Value.bool (!(b1 == b2)), s5.v, s6.v] w5 fun e3 w6 =>
        ∃ b3 : Bool, ∃ s7 : Slc, ∃ s8 : Slc, e3 = .returned (Value.agg #[Value.bool b3, s7.v, s8.v]) ∧
        (Ahead w5 w6 ∧
         (stC ad3 (Value.bool b3) w6 fun w7 =>
          stC (ad3.add 1) s7.v w7 fun w8 =>
          stC (ad3.add 2) s8.v w8 fun w9 =>
          ldB ad3 w9 fun b4 =>
          ldS (ad3.add 1) w9 fun s9 =>
          ldS (ad3.add 2) w9 fun s10 =>
          R (.returned (Value.agg #[Value.bool b4, s9.v, s10.v])) w9))))))) :
    Calls Tryz.prog 12 #[Value.agg #[Value.bool a0_a_0, a0_a_1.v, a0_a_2.v], Value.agg #[Value.bool a1_b_0, a1_b_1.v, a1_b_2.v]] w R := by
  refine calls_of_vc (fun _ => none) (by kernel_rfl) Tryz.func12 rfl ?_ ?_
  · refine kcast h ?_; kernel_rfl
  · exact (obl_seq rfl (obl_reg (obl_seq rfl (obl_held (by kernel_rfl) (by kernel_rfl) (by kernel_rfl) (obl_ret trivial)))))

set_option maxRecDepth 100000 in
/-- surd/surdref07.Scale: function 15. -/
theorem surdref07_Scale_vc (a0_r_0 : Bool) (a0_r_1 : Slc) (a0_r_2 : Slc) (a1_n : Int) (w : World) (R : Ending → World → Prop)
    
    (h : newC w #[Value.bool a0_r_0, a0_r_1.v, a0_r_2.v] 34 fun ad1 w1 =>
    newC w1 #[Value.bool false, (⟨none, 0, 0⟩ : Slc).v, (⟨none, 0, 0⟩ : Slc).v] 34 fun ad2 w2 =>
    ldS (ad1.add 1) w2 fun s1 =>
    Calls Tryz.prog 40 #[s1.v] w2 fun e1 w3 =>
    ∃ b1 : Bool, e1 = .returned (Value.bool b1) ∧
    (br b1
     (ldB ad1 w3 fun b2 =>
      ldS (ad1.add 1) w3 fun s2 =>
      ldS (ad1.add 2) w3 fun s3 =>
      stC ad2 (Value.bool b2) w3 fun w4 =>
      stC (ad2.add 1) s2.v w4 fun w5 =>
      stC (ad2.add 2) s3.v w5 fun w6 =>
      ldB ad2 w6 fun b3 =>
      ldS (ad2.add 1) w6 fun s4 =>
      ldS (ad2.add 2) w6 fun s5 =>
      R (.returned (Value.agg #[Value.bool b3, s4.v, s5.v])) w6)
     (br (decide (a1_n ≥ 0))
      (ldS (ad1.add 2) w3 fun s6 =>
       Calls Tryz.prog 53 #[s6.v] w3 fun e2 w7 =>
       ∃ x1 : Int, e2 = .returned (Value.int .i64 x1) ∧
       (br (decide (x1 > a1_n))
        (ldB ad1 w7.drew fun b4 =>
         ldS (ad1.add 1) w7.drew fun s7 =>
         ldS (ad1.add 2) w7.drew fun s8 =>
         Calls Tryz.prog 54 #[s7.v, Value.int .i64 (IntKind.i64.wrap (a1_n - a1_n))] w7.drew fun e3 w8 =>
         ∃ s9 : Slc, e3 = .returned s9.v ∧
         (Ahead w7.drew w8 ∧
          (Calls Tryz.prog 55 #[s8.v, Value.int .i64 a1_n] w8 fun e4 w9 =>
           ∃ s10 : Slc, e4 = .returned s10.v ∧
           (Ahead w8 w9 ∧
            (stC ad2 (Value.bool b4) w9 fun w10 =>
             stC (ad2.add 1) s9.v w10 fun w11 =>
             stC (ad2.add 2) s10.v w11 fun w12 =>
             ldB ad2 w12 fun b5 =>
             ldS (ad2.add 1) w12 fun s11 =>
             ldS (ad2.add 2) w12 fun s12 =>
             R (.returned (Value.agg #[Value.bool b5, s11.v, s12.v])) w12)))))
        (ldB ad1 w7.drew fun b6 =>
         ldS (ad1.add 1) w7.drew fun s13 =>
         ldS (ad1.add 2) w7.drew fun s14 =>
         Calls Tryz.prog 54 #[s13.v, Value.int .i64 (IntKind.i64.wrap (a1_n - x1))] w7.drew fun e5 w13 =>
         ∃ s15 : Slc, e5 = .returned s15.v ∧
         (Ahead w7.drew w13 ∧
          (Calls Tryz.prog 55 #[s14.v, Value.int .i64 x1] w13 fun e6 w14 =>
           ∃ s16 : Slc, e6 = .returned s16.v ∧
           (Ahead w13 w14 ∧
            (stC ad2 (Value.bool b6) w14 fun w15 =>
             stC (ad2.add 1) s15.v w15 fun w16 =>
             stC (ad2.add 2) s16.v w16 fun w17 =>
             ldB ad2 w17 fun b7 =>
             ldS (ad2.add 1) w17 fun s17 =>
             ldS (ad2.add 2) w17 fun s18 =>
             R (.returned (Value.agg #[Value.bool b7, s17.v, s18.v])) w17)))))))
      (ldS (ad1.add 1) w3 fun s19 =>
       Calls Tryz.prog 53 #[s19.v] w3 fun e7 w18 =>
       ∃ x2 : Int, e7 = .returned (Value.int .i64 x2) ∧
       (br (decide (x2 > (IntKind.i64.wrap (0 - a1_n))))
        (ldB ad1 w18.drew fun b8 =>
         ldS (ad1.add 1) w18.drew fun s20 =>
         ldS (ad1.add 2) w18.drew fun s21 =>
         Calls Tryz.prog 55 #[s20.v, Value.int .i64 (IntKind.i64.wrap (0 - a1_n))] w18.drew fun e8 w19 =>
         ∃ s22 : Slc, e8 = .returned s22.v ∧
         (Ahead w18.drew w19 ∧
          (Calls Tryz.prog 54 #[s21.v, Value.int .i64 (IntKind.i64.wrap ((IntKind.i64.wrap (0 - a1_n)) - (IntKind.i64.wrap (0 - a1_n))))] w19 fun e9 w20 =>
           ∃ s23 : Slc, e9 = .returned s23.v ∧
           (Ahead w19 w20 ∧
            (stC ad2 (Value.bool b8) w20 fun w21 =>
             stC (ad2.add 1) s22.v w21 fun w22 =>
             stC (ad2.add 2) s23.v w22 fun w23 =>
             ldB ad2 w23 fun b9 =>
             ldS (ad2.add 1) w23 fun s24 =>
             ldS (ad2.add 2) w23 fun s25 =>
             R (.returned (Value.agg #[Value.bool b9, s24.v, s25.v])) w23)))))
        (ldB ad1 w18.drew fun b10 =>
         ldS (ad1.add 1) w18.drew fun s26 =>
         ldS (ad1.add 2) w18.drew fun s27 =>
         Calls Tryz.prog 55 #[s26.v, Value.int .i64 x2] w18.drew fun e10 w24 =>
         ∃ s28 : Slc, e10 = .returned s28.v ∧
         (Ahead w18.drew w24 ∧
          (Calls Tryz.prog 54 #[s27.v, Value.int .i64 (IntKind.i64.wrap ((IntKind.i64.wrap (0 - a1_n)) - x2))] w24 fun e11 w25 =>
           ∃ s29 : Slc, e11 = .returned s29.v ∧
           (Ahead w24 w25 ∧
            (stC ad2 (Value.bool b10) w25 fun w26 =>
             stC (ad2.add 1) s28.v w26 fun w27 =>
             stC (ad2.add 2) s29.v w27 fun w28 =>
             ldB ad2 w28 fun b11 =>
             ldS (ad2.add 1) w28 fun s30 =>
             ldS (ad2.add 2) w28 fun s31 =>
             R (.returned (Value.agg #[Value.bool b11, s30.v, s31.v])) w28)))))))))) :
    Calls Tryz.prog 15 #[Value.agg #[Value.bool a0_r_0, a0_r_1.v, a0_r_2.v], Value.int .i64 a1_n] w R := by
  refine calls_of_vc (fun _ => none) (by kernel_rfl) Tryz.func15 rfl ?_ ?_
  · refine kcast h ?_; kernel_rfl
  · exact (obl_seq rfl (obl_reg (obl_seq rfl (obl_seq rfl (obl_reg (obl_cond (obl_seq rfl (obl_reg (obl_ret (obl_skip (obl_seq rfl (obl_seq rfl (obl_reg (obl_cond (obl_seq rfl (obl_reg (obl_seq rfl (obl_seq rfl (obl_reg (obl_cond (obl_reg (obl_skip (obl_seq rfl (obl_held (by kernel_rfl) (by kernel_rfl) (by kernel_rfl) (obl_ret (obl_skip (obl_seq rfl (obl_reg (obl_seq rfl (obl_seq rfl (obl_reg (obl_cond (obl_reg (obl_skip (obl_seq rfl (obl_held (by kernel_rfl) (by kernel_rfl) (by kernel_rfl) (obl_ret trivial)))))))))))))))))))))))))))))))))))))

set_option maxRecDepth 100000 in
/-- surd/surdref07.Int: function 16. -/
theorem surdref07_Int_vc (a0_v : Int) (w : World) (R : Ending → World → Prop)
    
    (h : newC w #[Value.bool false, (⟨none, 0, 0⟩ : Slc).v, (⟨none, 0, 0⟩ : Slc).v] 34 fun ad1 w1 =>
    br (decide (a0_v < 0))
    (newC w1 #[Value.int .u64 (IntKind.u64.wrap (0 - (IntKind.u64.wrap a0_v)))] 65 fun ad2 w2 =>
     Calls Tryz.prog 33 #[(⟨some ad2, 1, 1⟩ : Slc).v] w2 fun e1 w3 =>
     ∃ s1 : Slc, e1 = .returned s1.v ∧
     (Calls Tryz.prog 56 #[Value.int .i64 1] w3 fun e2 w4 =>
      ∃ s2 : Slc, e2 = .returned s2.v ∧
      (stC ad1 (Value.bool true) w4 fun w5 =>
       stC (ad1.add 1) s1.v w5 fun w6 =>
       stC (ad1.add 2) s2.v w6 fun w7 =>
       ldB ad1 w7 fun b1 =>
       ldS (ad1.add 1) w7 fun s3 =>
       ldS (ad1.add 2) w7 fun s4 =>
       R (.returned (Value.agg #[Value.bool b1, s3.v, s4.v])) w7)))
    (Calls Tryz.prog 56 #[Value.int .i64 a0_v] w1 fun e3 w8 =>
     ∃ s5 : Slc, e3 = .returned s5.v ∧
     (Calls Tryz.prog 56 #[Value.int .i64 1] w8 fun e4 w9 =>
      ∃ s6 : Slc, e4 = .returned s6.v ∧
      (stC ad1 (Value.bool false) w9 fun w10 =>
       stC (ad1.add 1) s5.v w10 fun w11 =>
       stC (ad1.add 2) s6.v w11 fun w12 =>
       ldB ad1 w12 fun b2 =>
       ldS (ad1.add 1) w12 fun s7 =>
       ldS (ad1.add 2) w12 fun s8 =>
       R (.returned (Value.agg #[Value.bool b2, s7.v, s8.v])) w12)))) :
    Calls Tryz.prog 16 #[Value.int .i64 a0_v] w R := by
  refine calls_of_vc (fun _ => none) (by kernel_rfl) Tryz.func16 rfl ?_ ?_
  · refine kcast h ?_; kernel_rfl
  · exact (obl_seq rfl (obl_reg (obl_seq rfl (obl_seq rfl (obl_reg (obl_cond (obl_seq rfl (obl_reg (obl_ret (obl_skip (obl_seq rfl (obl_reg (obl_ret trivial)))))))))))))

set_option maxRecDepth 100000 in
/-- surd/surdref07.Abs: function 17. -/
theorem surdref07_Abs_vc (a0_r_0 : Bool) (a0_r_1 : Slc) (a0_r_2 : Slc) (w : World) (R : Ending → World → Prop)
    
    (h : newC w #[Value.bool a0_r_0, a0_r_1.v, a0_r_2.v] 34 fun ad1 w1 =>
    newC w1 #[Value.bool false, (⟨none, 0, 0⟩ : Slc).v, (⟨none, 0, 0⟩ : Slc).v] 34 fun ad2 w2 =>
    stC ad1 (Value.bool false) w2 fun w3 =>
    ldB ad1 w3 fun b1 =>
    ldS (ad1.add 1) w3 fun s1 =>
    ldS (ad1.add 2) w3 fun s2 =>
    stC ad2 (Value.bool b1) w3 fun w4 =>
    stC (ad2.add 1) s1.v w4 fun w5 =>
    stC (ad2.add 2) s2.v w5 fun w6 =>
    ldB ad2 w6 fun b2 =>
    ldS (ad2.add 1) w6 fun s3 =>
    ldS (ad2.add 2) w6 fun s4 =>
    R (.returned (Value.agg #[Value.bool b2, s3.v, s4.v])) w6) :
    Calls Tryz.prog 17 #[Value.agg #[Value.bool a0_r_0, a0_r_1.v, a0_r_2.v]] w R := by
  refine calls_of_vc (fun _ => none) (by kernel_rfl) Tryz.func17 rfl ?_ ?_
  · refine kcast h ?_; kernel_rfl
  · exact (obl_seq rfl (obl_reg (obl_seq rfl (obl_reg (obl_seq rfl (obl_reg (obl_ret trivial)))))))

set_option maxRecDepth 100000 in
/-- surd/surdref07.Cmp: function 18. -/
theorem surdref07_Cmp_vc (a0_a_0 : Bool) (a0_a_1 : Slc) (a0_a_2 : Slc) (a1_b_0 : Bool) (a1_b_1 : Slc) (a1_b_2 : Slc) (w : World) (R : Ending → World → Prop)
    
    (h : newC w #[Value.bool a0_a_0, a0_a_1.v, a0_a_2.v] 34 fun ad1 w1 =>
    newC w1 #[Value.bool a1_b_0, a1_b_1.v, a1_b_2.v] 34 fun ad2 w2 =>
    ldB ad1 w2.drew fun b1 =>
    ldS (ad1.add 1) w2.drew fun s1 =>
    ldS (ad1.add 2) w2.drew fun s2 =>
    ldB ad2 w2.drew fun b2 =>
    ldS (ad2.add 1) w2.drew fun s3 =>
    ldS (ad2.add 2) w2.drew fun s4 =>
    Calls Tryz.prog 10 #[Value.agg #[Value.bool b1, s1.v, s2.v]] w2.drew fun e1 w3 =>
    ∃ x1 : Int, e1 = .returned (Value.int .i64 x1) ∧
    (Ahead w2.drew w3 ∧
     (Calls Tryz.prog 10 #[Value.agg #[Value.bool b2, s3.v, s4.v]] w3 fun e2 w4 =>
      ∃ x2 : Int, e2 = .returned (Value.int .i64 x2) ∧
      (Ahead w3 w4 ∧
       (br (x1 != x2)
        (ldB ad1 w4.drew fun b3 =>
         ldS (ad1.add 1) w4.drew fun s5 =>
         ldS (ad1.add 2) w4.drew fun s6 =>
         ldB ad2 w4.drew fun b4 =>
         ldS (ad2.add 1) w4.drew fun s7 =>
         ldS (ad2.add 2) w4.drew fun s8 =>
         Calls Tryz.prog 10 #[Value.agg #[Value.bool b3, s5.v, s6.v]] w4.drew fun e3 w5 =>
         ∃ x3 : Int, e3 = .returned (Value.int .i64 x3) ∧
         (Ahead w4.drew w5 ∧
          (Calls Tryz.prog 10 #[Value.agg #[Value.bool b4, s7.v, s8.v]] w5 fun e4 w6 =>
           ∃ x4 : Int, e4 = .returned (Value.int .i64 x4) ∧
           (Ahead w5 w6 ∧
            (br (decide (x3 < x4))
             (R (.returned (Value.int .i64 (-1))) w6)
             (R (.returned (Value.int .i64 1)) w6))))))
        (ldB ad1 w4.drew fun b5 =>
         ldS (ad1.add 1) w4.drew fun s9 =>
         ldS (ad1.add 2) w4.drew fun s10 =>
         ldS (ad1.add 1) w4.drew fun s11 =>
         ldS (ad2.add 2) w4.drew fun s12 =>
         ldS (ad2.add 1) w4.drew fun s13 =>
         ldS (ad1.add 2) w4.drew fun s14 =>
         Calls Tryz.prog 10 #[Value.agg #[Value.bool b5, s9.v, s10.v]] w4.drew fun e5 w7 =>
         ∃ x5 : Int, e5 = .returned (Value.int .i64 x5) ∧
         (Ahead w4.drew w7 ∧
          (Calls Tryz.prog 45 #[s11.v, s12.v] w7 fun e6 w8 =>
           ∃ s15 : Slc, e6 = .returned s15.v ∧
           (Ahead w7 w8 ∧
            (Calls Tryz.prog 45 #[s13.v, s14.v] w8 fun e7 w9 =>
             ∃ s16 : Slc, e7 = .returned s16.v ∧
             (Ahead w8 w9 ∧
              (Calls Tryz.prog 57 #[s15.v, s16.v] w9 fun e8 w10 =>
               ∃ x6 : Int, e8 = .returned (Value.int .i64 x6) ∧
               (Ahead w9 w10 ∧
                (R (.returned (Value.int .i64 (IntKind.i64.wrap (x5 * x6)))) w10)))))))))))))) :
    Calls Tryz.prog 18 #[Value.agg #[Value.bool a0_a_0, a0_a_1.v, a0_a_2.v], Value.agg #[Value.bool a1_b_0, a1_b_1.v, a1_b_2.v]] w R := by
  refine calls_of_vc (fun _ => none) (by kernel_rfl) Tryz.func18 rfl ?_ ?_
  · refine kcast h ?_; kernel_rfl
  · exact (obl_seq rfl (obl_reg (obl_seq rfl (obl_seq rfl (obl_held (by kernel_rfl) (by kernel_rfl) (by kernel_rfl) (obl_cond (obl_seq rfl (obl_seq rfl (obl_held (by kernel_rfl) (by kernel_rfl) (by kernel_rfl) (obl_cond (obl_seq rfl (obl_reg (obl_ret (obl_skip (obl_seq rfl (obl_reg (obl_ret (obl_skip (obl_seq rfl (obl_held (by kernel_rfl) (by kernel_rfl) (by kernel_rfl) (obl_ret trivial)))))))))))))))))))))

set_option maxRecDepth 100000 in
/-- surd/surdref07.Mul: function 19. -/
theorem surdref07_Mul_vc (a0_a_0 : Bool) (a0_a_1 : Slc) (a0_a_2 : Slc) (a1_b_0 : Bool) (a1_b_1 : Slc) (a1_b_2 : Slc) (w : World) (R : Ending → World → Prop)
    
    (h : newC w #[Value.bool a0_a_0, a0_a_1.v, a0_a_2.v] 34 fun ad1 w1 =>
    newC w1 #[Value.bool a1_b_0, a1_b_1.v, a1_b_2.v] 34 fun ad2 w2 =>
    newC w2 #[Value.bool false, (⟨none, 0, 0⟩ : Slc).v, (⟨none, 0, 0⟩ : Slc).v] 34 fun ad3 w3 =>
    ldB ad1 w3.drew fun b1 =>
    ldB ad2 w3.drew fun b2 =>
    ldS (ad1.add 1) w3.drew fun s1 =>
    ldS (ad2.add 1) w3.drew fun s2 =>
    ldS (ad1.add 2) w3.drew fun s3 =>
    ldS (ad2.add 2) w3.drew fun s4 =>
    Calls Tryz.prog 45 #[s1.v, s2.v] w3.drew fun e1 w4 =>
    ∃ s5 : Slc, e1 = .returned s5.v ∧
    (Ahead w3.drew w4 ∧
     (Calls Tryz.prog 45 #[s3.v, s4.v] w4 fun e2 w5 =>
      ∃ s6 : Slc, e2 = .returned s6.v ∧
      (Ahead w4 w5 ∧
       (Calls Tryz.prog 44 #[Value.bool (!(b1 == b2)), s5.v, s6.v] w5 fun e3 w6 =>
        ∃ b3 : Bool, ∃ s7 : Slc, ∃ s8 : Slc, e3 = .returned (Value.agg #[Value.bool b3, s7.v, s8.v]) ∧
        (Ahead w5 w6 ∧
         (stC ad3 (Value.bool b3) w6 fun w7 =>
          stC (ad3.add 1) s7.v w7 fun w8 =>
          stC (ad3.add 2) s8.v w8 fun w9 =>
          ldB ad3 w9 fun b4 =>
          ldS (ad3.add 1) w9 fun s9 =>
          ldS (ad3.add 2) w9 fun s10 =>
          R (.returned (Value.agg #[Value.bool b4, s9.v, s10.v])) w9))))))) :
    Calls Tryz.prog 19 #[Value.agg #[Value.bool a0_a_0, a0_a_1.v, a0_a_2.v], Value.agg #[Value.bool a1_b_0, a1_b_1.v, a1_b_2.v]] w R := by
  refine calls_of_vc (fun _ => none) (by kernel_rfl) Tryz.func19 rfl ?_ ?_
  · refine kcast h ?_; kernel_rfl
  · exact (obl_seq rfl (obl_reg (obl_seq rfl (obl_held (by kernel_rfl) (by kernel_rfl) (by kernel_rfl) (obl_ret trivial)))))

set_option maxRecDepth 100000 in
/-- surd/surdref07.Sub: function 20. -/
theorem surdref07_Sub_vc (a0_a_0 : Bool) (a0_a_1 : Slc) (a0_a_2 : Slc) (a1_b_0 : Bool) (a1_b_1 : Slc) (a1_b_2 : Slc) (w : World) (R : Ending → World → Prop)
    
    (h : newC w #[Value.bool a0_a_0, a0_a_1.v, a0_a_2.v] 34 fun ad1 w1 =>
    newC w1 #[Value.bool a1_b_0, a1_b_1.v, a1_b_2.v] 34 fun ad2 w2 =>
    newC w2 #[Value.bool false, (⟨none, 0, 0⟩ : Slc).v, (⟨none, 0, 0⟩ : Slc).v] 34 fun ad3 w3 =>
    ldB ad1 w3.drew fun b1 =>
    ldS (ad1.add 1) w3.drew fun s1 =>
    ldS (ad1.add 2) w3.drew fun s2 =>
    ldB ad2 w3.drew fun b2 =>
    ldS (ad2.add 1) w3.drew fun s3 =>
    ldS (ad2.add 2) w3.drew fun s4 =>
    Calls Tryz.prog 58 #[Value.agg #[Value.bool b2, s3.v, s4.v]] w3.drew fun e1 w4 =>
    ∃ b3 : Bool, ∃ s5 : Slc, ∃ s6 : Slc, e1 = .returned (Value.agg #[Value.bool b3, s5.v, s6.v]) ∧
    (Ahead w3.drew w4 ∧
     (Calls Tryz.prog 28 #[Value.agg #[Value.bool b1, s1.v, s2.v], Value.agg #[Value.bool b3, s5.v, s6.v]] w4 fun e2 w5 =>
      ∃ b4 : Bool, ∃ s7 : Slc, ∃ s8 : Slc, e2 = .returned (Value.agg #[Value.bool b4, s7.v, s8.v]) ∧
      (Ahead w4 w5 ∧
       (stC ad3 (Value.bool b4) w5 fun w6 =>
        stC (ad3.add 1) s7.v w6 fun w7 =>
        stC (ad3.add 2) s8.v w7 fun w8 =>
        ldB ad3 w8 fun b5 =>
        ldS (ad3.add 1) w8 fun s9 =>
        ldS (ad3.add 2) w8 fun s10 =>
        R (.returned (Value.agg #[Value.bool b5, s9.v, s10.v])) w8))))) :
    Calls Tryz.prog 20 #[Value.agg #[Value.bool a0_a_0, a0_a_1.v, a0_a_2.v], Value.agg #[Value.bool a1_b_0, a1_b_1.v, a1_b_2.v]] w R := by
  refine calls_of_vc (fun _ => none) (by kernel_rfl) Tryz.func20 rfl ?_ ?_
  · refine kcast h ?_; kernel_rfl
  · exact (obl_seq rfl (obl_reg (obl_seq rfl (obl_held (by kernel_rfl) (by kernel_rfl) (by kernel_rfl) (obl_ret trivial)))))

set_option maxRecDepth 100000 in
/-- surd/surdref07.Add: function 28. -/
theorem surdref07_Add_vc (a0_a_0 : Bool) (a0_a_1 : Slc) (a0_a_2 : Slc) (a1_b_0 : Bool) (a1_b_1 : Slc) (a1_b_2 : Slc) (w : World) (R : Ending → World → Prop)
    
    (h : newC w #[Value.bool a0_a_0, a0_a_1.v, a0_a_2.v] 34 fun ad1 w1 =>
    newC w1 #[Value.bool a1_b_0, a1_b_1.v, a1_b_2.v] 34 fun ad2 w2 =>
    newC w2 #[Value.bool false, (⟨none, 0, 0⟩ : Slc).v, (⟨none, 0, 0⟩ : Slc).v] 34 fun ad3 w3 =>
    ldS (ad1.add 1) w3.drew fun s1 =>
    ldS (ad2.add 2) w3.drew fun s2 =>
    ldS (ad2.add 1) w3.drew fun s3 =>
    ldS (ad1.add 2) w3.drew fun s4 =>
    Calls Tryz.prog 45 #[s1.v, s2.v] w3.drew fun e1 w4 =>
    ∃ s5 : Slc, e1 = .returned s5.v ∧
    (Ahead w3.drew w4 ∧
     (Calls Tryz.prog 45 #[s3.v, s4.v] w4 fun e2 w5 =>
      ∃ s6 : Slc, e2 = .returned s6.v ∧
      (Ahead w4 w5 ∧
       (ldS (ad1.add 2) w5 fun s7 =>
        ldS (ad2.add 2) w5 fun s8 =>
        Calls Tryz.prog 45 #[s7.v, s8.v] w5 fun e3 w6 =>
        ∃ s9 : Slc, e3 = .returned s9.v ∧
        (ldB ad1 w6 fun b1 =>
         ldB ad2 w6 fun b2 =>
         br (b1 == b2)
         (ldB ad1 w6.drew fun b3 =>
          Calls Tryz.prog 67 #[s5.v, s6.v] w6.drew fun e4 w7 =>
          ∃ s10 : Slc, e4 = .returned s10.v ∧
          (Ahead w6.drew w7 ∧
           (Calls Tryz.prog 44 #[Value.bool b3, s10.v, s9.v] w7 fun e5 w8 =>
            ∃ b4 : Bool, ∃ s11 : Slc, ∃ s12 : Slc, e5 = .returned (Value.agg #[Value.bool b4, s11.v, s12.v]) ∧
            (Ahead w7 w8 ∧
             (stC ad3 (Value.bool b4) w8 fun w9 =>
              stC (ad3.add 1) s11.v w9 fun w10 =>
              stC (ad3.add 2) s12.v w10 fun w11 =>
              ldB ad3 w11 fun b5 =>
              ldS (ad3.add 1) w11 fun s13 =>
              ldS (ad3.add 2) w11 fun s14 =>
              R (.returned (Value.agg #[Value.bool b5, s13.v, s14.v])) w11)))))
         (Calls Tryz.prog 57 #[s5.v, s6.v] w6 fun e6 w12 =>
          ∃ x1 : Int, e6 = .returned (Value.int .i64 x1) ∧
          (br (decide (x1 ≥ 0))
           (ldB ad1 w12.drew fun b6 =>
            Calls Tryz.prog 68 #[s5.v, s6.v] w12.drew fun e7 w13 =>
            ∃ s15 : Slc, e7 = .returned s15.v ∧
            (Ahead w12.drew w13 ∧
             (Calls Tryz.prog 44 #[Value.bool b6, s15.v, s9.v] w13 fun e8 w14 =>
              ∃ b7 : Bool, ∃ s16 : Slc, ∃ s17 : Slc, e8 = .returned (Value.agg #[Value.bool b7, s16.v, s17.v]) ∧
              (Ahead w13 w14 ∧
               (stC ad3 (Value.bool b7) w14 fun w15 =>
                stC (ad3.add 1) s16.v w15 fun w16 =>
                stC (ad3.add 2) s17.v w16 fun w17 =>
                ldB ad3 w17 fun b8 =>
                ldS (ad3.add 1) w17 fun s18 =>
                ldS (ad3.add 2) w17 fun s19 =>
                R (.returned (Value.agg #[Value.bool b8, s18.v, s19.v])) w17)))))
           (ldB ad2 w12.drew fun b9 =>
            Calls Tryz.prog 68 #[s6.v, s5.v] w12.drew fun e9 w18 =>
            ∃ s20 : Slc, e9 = .returned s20.v ∧
            (Ahead w12.drew w18 ∧
             (Calls Tryz.prog 44 #[Value.bool b9, s20.v, s9.v] w18 fun e10 w19 =>
              ∃ b10 : Bool, ∃ s21 : Slc, ∃ s22 : Slc, e10 = .returned (Value.agg #[Value.bool b10, s21.v, s22.v]) ∧
              (Ahead w18 w19 ∧
               (stC ad3 (Value.bool b10) w19 fun w20 =>
                stC (ad3.add 1) s21.v w20 fun w21 =>
                stC (ad3.add 2) s22.v w21 fun w22 =>
                ldB ad3 w22 fun b11 =>
                ldS (ad3.add 1) w22 fun s23 =>
                ldS (ad3.add 2) w22 fun s24 =>
                R (.returned (Value.agg #[Value.bool b11, s23.v, s24.v])) w22))))))))))))) :
    Calls Tryz.prog 28 #[Value.agg #[Value.bool a0_a_0, a0_a_1.v, a0_a_2.v], Value.agg #[Value.bool a1_b_0, a1_b_1.v, a1_b_2.v]] w R := by
  refine calls_of_vc (fun _ => none) (by kernel_rfl) Tryz.func28 rfl ?_ ?_
  · refine kcast h ?_; kernel_rfl
  · exact (obl_seq rfl (obl_reg (obl_seq rfl (obl_held (by kernel_rfl) (by kernel_rfl) (by kernel_rfl) (obl_seq rfl (obl_reg (obl_seq rfl (obl_seq rfl (obl_reg (obl_cond (obl_seq rfl (obl_held (by kernel_rfl) (by kernel_rfl) (by kernel_rfl) (obl_ret (obl_skip (obl_seq rfl (obl_seq rfl (obl_reg (obl_cond (obl_seq rfl (obl_held (by kernel_rfl) (by kernel_rfl) (by kernel_rfl) (obl_ret (obl_skip (obl_seq rfl (obl_held (by kernel_rfl) (by kernel_rfl) (by kernel_rfl) (obl_ret trivial)))))))))))))))))))))))))

set_option maxRecDepth 100000 in
/-- surd/surdref07.Neg: function 58. -/
theorem surdref07_Neg_vc (a0_r_0 : Bool) (a0_r_1 : Slc) (a0_r_2 : Slc) (w : World) (R : Ending → World → Prop)
    
    (h : newC w #[Value.bool a0_r_0, a0_r_1.v, a0_r_2.v] 34 fun ad1 w1 =>
    newC w1 #[Value.bool false, (⟨none, 0, 0⟩ : Slc).v, (⟨none, 0, 0⟩ : Slc).v] 34 fun ad2 w2 =>
    ldB ad1 w2 fun b1 =>
    ldS (ad1.add 1) w2 fun s1 =>
    ldS (ad1.add 2) w2 fun s2 =>
    Calls Tryz.prog 10 #[Value.agg #[Value.bool b1, s1.v, s2.v]] w2 fun e1 w3 =>
    ∃ x1 : Int, e1 = .returned (Value.int .i64 x1) ∧
    (br (x1 != 0)
     (ldB ad1 w3 fun b2 =>
      stC ad1 (Value.bool (!b2)) w3 fun w4 =>
      ldB ad1 w4 fun b3 =>
      ldS (ad1.add 1) w4 fun s3 =>
      ldS (ad1.add 2) w4 fun s4 =>
      stC ad2 (Value.bool b3) w4 fun w5 =>
      stC (ad2.add 1) s3.v w5 fun w6 =>
      stC (ad2.add 2) s4.v w6 fun w7 =>
      ldB ad2 w7 fun b4 =>
      ldS (ad2.add 1) w7 fun s5 =>
      ldS (ad2.add 2) w7 fun s6 =>
      R (.returned (Value.agg #[Value.bool b4, s5.v, s6.v])) w7)
     (ldB ad1 w3 fun b5 =>
      ldS (ad1.add 1) w3 fun s7 =>
      ldS (ad1.add 2) w3 fun s8 =>
      stC ad2 (Value.bool b5) w3 fun w8 =>
      stC (ad2.add 1) s7.v w8 fun w9 =>
      stC (ad2.add 2) s8.v w9 fun w10 =>
      ldB ad2 w10 fun b6 =>
      ldS (ad2.add 1) w10 fun s9 =>
      ldS (ad2.add 2) w10 fun s10 =>
      R (.returned (Value.agg #[Value.bool b6, s9.v, s10.v])) w10))) :
    Calls Tryz.prog 58 #[Value.agg #[Value.bool a0_r_0, a0_r_1.v, a0_r_2.v]] w R := by
  refine calls_of_vc (fun _ => none) (by kernel_rfl) Tryz.func58 rfl ?_ ?_
  · refine kcast h ?_; kernel_rfl
  · exact (obl_seq rfl (obl_reg (obl_seq rfl (obl_seq rfl (obl_reg (obl_cond (obl_reg (obl_skip (obl_seq rfl (obl_reg (obl_ret trivial)))))))))))

set_option maxRecDepth 100000 in
/-- surd/surdref07.Make: function 44. -/
theorem surdref07_Make_vc (a0_neg : Bool) (a1_n : Slc) (a2_d : Slc) (w : World) (R : Ending → World → Prop)
    
    (h : newC w #[Value.bool false, (⟨none, 0, 0⟩ : Slc).v, (⟨none, 0, 0⟩ : Slc).v] 34 fun ad1 w1 =>
    Calls Tryz.prog 40 #[a1_n.v] w1 fun e1 w2 =>
    ∃ b1 : Bool, e1 = .returned (Value.bool b1) ∧
    (br b1
     (Calls Tryz.prog 56 #[Value.int .i64 1] w2 fun e2 w3 =>
      ∃ s1 : Slc, e2 = .returned s1.v ∧
      (stC ad1 (Value.bool false) w3 fun w4 =>
       stC (ad1.add 1) ((⟨none, 0, 0⟩ : Slc).v) w4 fun w5 =>
       stC (ad1.add 2) s1.v w5 fun w6 =>
       ldB ad1 w6 fun b2 =>
       ldS (ad1.add 1) w6 fun s2 =>
       ldS (ad1.add 2) w6 fun s3 =>
       R (.returned (Value.agg #[Value.bool b2, s2.v, s3.v])) w6))
     (Calls Tryz.prog 89 #[a1_n.v, a2_d.v] w2 fun e3 w7 =>
      ∃ s4 : Slc, e3 = .returned s4.v ∧
      (Calls Tryz.prog 90 #[a1_n.v, s4.v] w7 fun e4 w8 =>
       ∃ s5 : Slc, ∃ s6 : Slc, e4 = .returned (Value.tuple #[s5.v, s6.v]) ∧
       (Calls Tryz.prog 90 #[a2_d.v, s4.v] w8 fun e5 w9 =>
        ∃ s7 : Slc, ∃ s8 : Slc, e5 = .returned (Value.tuple #[s7.v, s8.v]) ∧
        (stC ad1 (Value.bool a0_neg) w9 fun w10 =>
         stC (ad1.add 1) s5.v w10 fun w11 =>
         stC (ad1.add 2) s7.v w11 fun w12 =>
         ldB ad1 w12 fun b3 =>
         ldS (ad1.add 1) w12 fun s9 =>
         ldS (ad1.add 2) w12 fun s10 =>
         R (.returned (Value.agg #[Value.bool b3, s9.v, s10.v])) w12)))))) :
    Calls Tryz.prog 44 #[Value.bool a0_neg, a1_n.v, a2_d.v] w R := by
  refine calls_of_vc (fun _ => none) (by kernel_rfl) Tryz.func44 rfl ?_ ?_
  · refine kcast h ?_; kernel_rfl
  · exact (obl_seq rfl (obl_reg (obl_seq rfl (obl_seq rfl (obl_reg (obl_cond (obl_seq rfl (obl_reg (obl_ret (obl_skip (obl_seq rfl (obl_reg (obl_seq rfl (obl_reg (obl_seq rfl (obl_reg (obl_seq rfl (obl_reg (obl_ret trivial)))))))))))))))))))

def surdref01_Gcd_cut (J0 : Slc → Slc → World → Prop) (m0 : Slc → Slc → World → Nat) : Nat → Option ((Act → World → Prop) × (Act → World → Nat))
  | 0 => some (fun a_ w_ => atSz a_ 19 (atS a_ 0 fun t0_a => atS a_ 1 fun t1_b => J0 t0_a t1_b w_), fun a_ w_ => mS a_ 0 fun t0_a => mS a_ 1 fun t1_b => m0 t0_a t1_b w_)
  | _ => none

set_option maxRecDepth 100000 in
/-- surd/surdref01.Gcd: function 89. -/
theorem surdref01_Gcd_vc (a0_a : Slc) (a1_b : Slc) (w : World) (R : Ending → World → Prop)
    (J0 : Slc → Slc → World → Prop) (m0 : Slc → Slc → World → Nat)
    (h : J0 a0_a a1_b w)
    (h0 : ∀ (t0_a : Slc) (t1_b : Slc) (w_ : World), J0 t0_a t1_b w_ → 
    Calls Tryz.prog 40 #[t1_b.v] w_ fun e1 w1 =>
    ∃ b1 : Bool, e1 = .returned (Value.bool b1) ∧
    (br (!b1)
     (Calls Tryz.prog 90 #[t0_a.v, t1_b.v] w1 fun e2 w2 =>
      ∃ s1 : Slc, ∃ s2 : Slc, e2 = .returned (Value.tuple #[s1.v, s2.v]) ∧
      (J0 t1_b s2 w2 ∧
       m0 t1_b s2 w2 < m0 t0_a t1_b w_))
     (R (.returned t0_a.v) w1))) :
    Calls Tryz.prog 89 #[a0_a.v, a1_b.v] w R := by
  refine calls_of_vc (surdref01_Gcd_cut J0 m0) (by kernel_rfl) Tryz.func89 rfl ?_ ?_
  · refine kcast h ?_; kernel_rfl
  · exact (obl_seq rfl (obl_reg (obl_seq rfl (obl_loop _ rfl (fun a_ w_ hL_ => (by
    obtain ⟨hz_, hd_, hL_⟩ := atSz_out hL_
    obtain ⟨t0_a, h0_, hL_⟩ := atS_out hL_
    obtain ⟨t1_b, h1_, hL_⟩ := atS_out hL_
    obtain ⟨g0, rfl⟩ : ∃ g, a_ = Fr 19 [(0, t0_a.v), (1, t1_b.v)] g := ⟨_, fr_of hz_ hd_ [(0, t0_a.v), (1, t1_b.v)] (sel_cons h0_ (sel_cons h1_ sel_nil))⟩
    clear hz_ hd_ h0_ h1_
    have hJ0_ := hL_
    refine ⟨(fun _ => none), kcast (h0 t0_a t1_b w_ hJ0_) ?_, ?_⟩
    · kernel_rfl
    · exact (obl_seq rfl (obl_seq rfl (obl_reg (obl_cond (obl_skip (obl_exit (obl_blk rfl (obl_seq rfl (obl_reg (obl_reg trivial)))))))))))) (obl_seq rfl (obl_reg (obl_ret trivial)))))))

end Go.Proofs.YtbeiopoejdkheaaGreatDoor
namespace Go.Proofs.YtbeiopoejdkheaaGreatDoor
open Go Go.RowKit Eng L2
set_option linter.unusedVariables false
set_option maxHeartbeats 2000000
set_option maxRecDepth 100000

/-- (surd/surdref07.R).Sign: function 10, its local variables as values. -/
theorem surdref07_R_Sign_v2 (a0_r_0 : Bool) (a0_r_1 : Slc) (a0_r_2 : Slc) (w : World) (R : Ending → World → Prop)
    
    (h : ∀ w1, Ext w w1 → Ahead w w1 →
    (Calls Tryz.prog 40 #[a0_r_1.v] w1 fun e1 w2 =>
     ∃ b1 : Bool, e1 = .returned (Value.bool b1) ∧ Ahead w1 w2 ∧
     (br b1
      (R (.returned (Value.int .i64 0)) w2)
      (br a0_r_0
       (R (.returned (Value.int .i64 (-1))) w2)
       (R (.returned (Value.int .i64 1)) w2)))))
     :
    Calls Tryz.prog 10 #[Value.agg #[Value.bool a0_r_0, a0_r_1.v, a0_r_2.v]] w (fun e_ w_ => Ahead w w_ ∧ R e_ w_) := by
  refine surdref07_R_Sign_vc a0_r_0 a0_r_1 a0_r_2 w _  ?_
  · have A : Ahead w w := Ahead.refl w
    have X : Ext w w := Ext.refl w
    refine newC_t fun bk1 u1 hb1 ha_u1 _ B1 => ?_
    have g1 := le_eq A.size hb1
    obtain ⟨A, X⟩ := axa2 ha_u1 A X
    refine ldS_t 1 B1 rfl ?_
    replace h := h _ X A
    refine Calls.mono h ?_
    clear h
    rintro e1 w2 ⟨b1, he_, ha_w2, h⟩
    refine ⟨b1, he_, ?_⟩
    clear he_
    replace B1 := B1.ahead ha_w2
    obtain ⟨A, X⟩ := axa2 ha_w2 A X
    replace X : Ext w2 w2 := Ext.refl _
    refine br_map h (fun h_ => ?_) (fun h_ => ?_)
    ·clear h
     have h := h_
     clear h_
     exact ⟨A, h⟩
    ·clear h
     have h := h_
     clear h_
     refine ldB_t 0 B1 rfl ?_
     refine br_map h (fun h_ => ?_) (fun h_ => ?_)
     ·clear h
      have h := h_
      clear h_
      exact ⟨A, h⟩
     ·clear h
      have h := h_
      clear h_
      exact ⟨A, h⟩

/-- surd/surdref07.Quo: function 12, its local variables as values. -/
theorem surdref07_Quo_v2 (a0_a_0 : Bool) (a0_a_1 : Slc) (a0_a_2 : Slc) (a1_b_0 : Bool) (a1_b_1 : Slc) (a1_b_2 : Slc) (w : World) (R : Ending → World → Prop)
    
    (h : ∀ w1, Ext w w1 → Ahead w w1 →
    (Calls Tryz.prog 45 #[a0_a_1.v, a1_b_2.v] w1 fun e1 w2 =>
     ∃ s1 : Slc, e1 = .returned s1.v ∧ Ahead w1 w2 ∧
     (Calls Tryz.prog 45 #[a0_a_2.v, a1_b_1.v] w2 fun e2 w3 =>
      ∃ s2 : Slc, e2 = .returned s2.v ∧ Ahead w2 w3 ∧
      (Calls Tryz.prog 44 #[Value.bool (!(a0_a_0 == a1_b_0)), s1.v, s2.v] w3 fun e3 w4 =>
       ∃ b1 : Bool, ∃ s3 : Slc, ∃ s4 : Slc, e3 = .returned (Value.agg #[Value.bool b1, s3.v, s4.v]) ∧ Ahead w3 w4 ∧
       (∀ w5, Ext w4 w5 → Ahead w w5 →
        (R (.returned (Value.agg #[Value.bool b1, s3.v, s4.v])) w5))))))
     :
    Calls Tryz.prog 12 #[Value.agg #[Value.bool a0_a_0, a0_a_1.v, a0_a_2.v], Value.agg #[Value.bool a1_b_0, a1_b_1.v, a1_b_2.v]] w (fun e_ w_ => Ahead w w_ ∧ R e_ w_) := by
  refine surdref07_Quo_vc a0_a_0 a0_a_1 a0_a_2 a1_b_0 a1_b_1 a1_b_2 w _  ?_
  · have A : Ahead w w := Ahead.refl w
    have X : Ext w w := Ext.refl w
    refine newC_t fun bk1 u1 hb1 ha_u1 _ B1 => ?_
    have g1 := le_eq A.size hb1
    obtain ⟨A, X⟩ := axa2 ha_u1 A X
    refine newC_t fun bk2 u2 hb2 ha_u2 _ B2 => ?_
    have g2 := le_eq A.size hb2
    have l1_2 := lt1 hb2 B1
    replace B1 := B1.ahead ha_u2
    obtain ⟨A, X⟩ := axa2 ha_u2 A X
    refine newC_t fun bk3 u3 hb3 ha_u3 _ B3 => ?_
    have g3 := le_eq A.size hb3
    obtain ⟨_, _⟩ := lt2 hb3 B1 B2
    obtain ⟨B1, B2⟩ := ah2 ha_u3 B1 B2
    obtain ⟨A, X⟩ := axa2 ha_u3 A X
    have hd_ := Sp.Ahead.drew u3
    obtain ⟨B1, B2, B3⟩ := ah3 hd_ B1 B2 B3
    obtain ⟨A, X⟩ := axa2 hd_ A X
    clear hd_
    refine ldB_t 0 B1 rfl ?_
    refine ldB_t 0 B2 rfl ?_
    refine ldS_t 1 B1 rfl ?_
    refine ldS_t 2 B2 rfl ?_
    refine ldS_t 2 B1 rfl ?_
    refine ldS_t 1 B2 rfl ?_
    replace h := h _ X A
    refine Calls.mono h ?_
    clear h
    rintro e1 w2 ⟨s1, he_, ha_w2, h⟩
    refine ⟨s1, he_, ?_⟩
    clear he_
    obtain ⟨B1, B2, B3⟩ := ah3 ha_w2 B1 B2 B3
    obtain ⟨A, X⟩ := axa2 ha_w2 A X
    replace X : Ext w2 w2 := Ext.refl _
    refine ⟨ha_w2, ?_⟩
    refine Calls.mono h ?_
    clear h
    rintro e2 w3 ⟨s2, he_, ha_w3, h⟩
    refine ⟨s2, he_, ?_⟩
    clear he_
    obtain ⟨B1, B2, B3⟩ := ah3 ha_w3 B1 B2 B3
    obtain ⟨A, X⟩ := axa2 ha_w3 A X
    replace X : Ext w3 w3 := Ext.refl _
    refine ⟨ha_w3, ?_⟩
    refine Calls.mono h ?_
    clear h
    rintro e3 w4 ⟨b1, s3, s4, he_, ha_w4, h⟩
    refine ⟨b1, s3, s4, he_, ?_⟩
    clear he_
    obtain ⟨B1, B2, B3⟩ := ah3 ha_w4 B1 B2 B3
    obtain ⟨A, X⟩ := axa2 ha_w4 A X
    replace X : Ext w4 w4 := Ext.refl _
    refine ⟨ha_w4, ?_⟩
    refine st3_t B3 rfl rfl rfl rfl fun u4 k_u4 B3 => ?_
    obtain ⟨B1, B2⟩ := up2 k_u4 B1 B2
    obtain ⟨A, X⟩ := axu2 k_u4 g3 A X
    refine ldB_t 0 B3 rfl ?_
    refine ldS_t 1 B3 rfl ?_
    refine ldS_t 2 B3 rfl ?_
    replace h := h _ X A
    exact ⟨A, h⟩

/-- surd/surdref07.Scale: function 15, its local variables as values. -/
theorem surdref07_Scale_v2 (a0_r_0 : Bool) (a0_r_1 : Slc) (a0_r_2 : Slc) (a1_n : Int) (w : World) (R : Ending → World → Prop)
    
    (h : ∀ w1, Ext w w1 → Ahead w w1 →
    (Calls Tryz.prog 40 #[a0_r_1.v] w1 fun e1 w2 =>
     ∃ b1 : Bool, e1 = .returned (Value.bool b1) ∧ Ahead w1 w2 ∧
     (br b1
      (∀ w3, Ext w2 w3 → Ahead w w3 →
       (R (.returned (Value.agg #[Value.bool a0_r_0, a0_r_1.v, a0_r_2.v])) w3))
      (br (decide (a1_n ≥ 0))
       (Calls Tryz.prog 53 #[a0_r_2.v] w2 fun e2 w4 =>
        ∃ x1 : Int, e2 = .returned (Value.int .i64 x1) ∧ Ahead w2 w4 ∧
        (br (decide (x1 > a1_n))
         (∀ w5, Ext w4 w5 → Ahead w w5 →
          (Calls Tryz.prog 54 #[a0_r_1.v, Value.int .i64 (IntKind.i64.wrap (a1_n - a1_n))] w5 fun e3 w6 =>
           ∃ s1 : Slc, e3 = .returned s1.v ∧ Ahead w5 w6 ∧
           (Calls Tryz.prog 55 #[a0_r_2.v, Value.int .i64 a1_n] w6 fun e4 w7 =>
            ∃ s2 : Slc, e4 = .returned s2.v ∧ Ahead w6 w7 ∧
            (∀ w8, Ext w7 w8 → Ahead w w8 →
             (R (.returned (Value.agg #[Value.bool a0_r_0, s1.v, s2.v])) w8)))))
         (∀ w9, Ext w4 w9 → Ahead w w9 →
          (Calls Tryz.prog 54 #[a0_r_1.v, Value.int .i64 (IntKind.i64.wrap (a1_n - x1))] w9 fun e5 w10 =>
           ∃ s3 : Slc, e5 = .returned s3.v ∧ Ahead w9 w10 ∧
           (Calls Tryz.prog 55 #[a0_r_2.v, Value.int .i64 x1] w10 fun e6 w11 =>
            ∃ s4 : Slc, e6 = .returned s4.v ∧ Ahead w10 w11 ∧
            (∀ w12, Ext w11 w12 → Ahead w w12 →
             (R (.returned (Value.agg #[Value.bool a0_r_0, s3.v, s4.v])) w12)))))))
       (Calls Tryz.prog 53 #[a0_r_1.v] w2 fun e7 w13 =>
        ∃ x2 : Int, e7 = .returned (Value.int .i64 x2) ∧ Ahead w2 w13 ∧
        (br (decide (x2 > (IntKind.i64.wrap (0 - a1_n))))
         (∀ w14, Ext w13 w14 → Ahead w w14 →
          (Calls Tryz.prog 55 #[a0_r_1.v, Value.int .i64 (IntKind.i64.wrap (0 - a1_n))] w14 fun e8 w15 =>
           ∃ s5 : Slc, e8 = .returned s5.v ∧ Ahead w14 w15 ∧
           (Calls Tryz.prog 54 #[a0_r_2.v, Value.int .i64 (IntKind.i64.wrap ((IntKind.i64.wrap (0 - a1_n)) - (IntKind.i64.wrap (0 - a1_n))))] w15 fun e9 w16 =>
            ∃ s6 : Slc, e9 = .returned s6.v ∧ Ahead w15 w16 ∧
            (∀ w17, Ext w16 w17 → Ahead w w17 →
             (R (.returned (Value.agg #[Value.bool a0_r_0, s5.v, s6.v])) w17)))))
         (∀ w18, Ext w13 w18 → Ahead w w18 →
          (Calls Tryz.prog 55 #[a0_r_1.v, Value.int .i64 x2] w18 fun e10 w19 =>
           ∃ s7 : Slc, e10 = .returned s7.v ∧ Ahead w18 w19 ∧
           (Calls Tryz.prog 54 #[a0_r_2.v, Value.int .i64 (IntKind.i64.wrap ((IntKind.i64.wrap (0 - a1_n)) - x2))] w19 fun e11 w20 =>
            ∃ s8 : Slc, e11 = .returned s8.v ∧ Ahead w19 w20 ∧
            (∀ w21, Ext w20 w21 → Ahead w w21 →
             (R (.returned (Value.agg #[Value.bool a0_r_0, s7.v, s8.v])) w21)))))))))))
     :
    Calls Tryz.prog 15 #[Value.agg #[Value.bool a0_r_0, a0_r_1.v, a0_r_2.v], Value.int .i64 a1_n] w (fun e_ w_ => Ahead w w_ ∧ R e_ w_) := by
  refine surdref07_Scale_vc a0_r_0 a0_r_1 a0_r_2 a1_n w _  ?_
  · have A : Ahead w w := Ahead.refl w
    have X : Ext w w := Ext.refl w
    refine newC_t fun bk1 u1 hb1 ha_u1 _ B1 => ?_
    have g1 := le_eq A.size hb1
    obtain ⟨A, X⟩ := axa2 ha_u1 A X
    refine newC_t fun bk2 u2 hb2 ha_u2 _ B2 => ?_
    have g2 := le_eq A.size hb2
    have l1_2 := lt1 hb2 B1
    replace B1 := B1.ahead ha_u2
    obtain ⟨A, X⟩ := axa2 ha_u2 A X
    refine ldS_t 1 B1 rfl ?_
    replace h := h _ X A
    refine Calls.mono h ?_
    clear h
    rintro e1 w2 ⟨b1, he_, ha_w2, h⟩
    refine ⟨b1, he_, ?_⟩
    clear he_
    obtain ⟨B1, B2⟩ := ah2 ha_w2 B1 B2
    obtain ⟨A, X⟩ := axa2 ha_w2 A X
    replace X : Ext w2 w2 := Ext.refl _
    refine br_map h (fun h_ => ?_) (fun h_ => ?_)
    ·clear h
     have h := h_
     clear h_
     refine ldB_t 0 B1 rfl ?_
     refine ldS_t 1 B1 rfl ?_
     refine ldS_t 2 B1 rfl ?_
     refine st3_t B2 rfl rfl rfl rfl fun u3 k_u3 B2 => ?_
     replace B1 := up1 k_u3 B1
     obtain ⟨A, X⟩ := axu2 k_u3 g2 A X
     refine ldB_t 0 B2 rfl ?_
     refine ldS_t 1 B2 rfl ?_
     refine ldS_t 2 B2 rfl ?_
     replace h := h _ X A
     exact ⟨A, h⟩
    ·clear h
     have h := h_
     clear h_
     refine br_map h (fun h_ => ?_) (fun h_ => ?_)
     ·clear h
      have h := h_
      clear h_
      refine ldS_t 2 B1 rfl ?_
      refine Calls.mono h ?_
      clear h
      rintro e2 w4 ⟨x1, he_, ha_w4, h⟩
      refine ⟨x1, he_, ?_⟩
      clear he_
      obtain ⟨B1, B2⟩ := ah2 ha_w4 B1 B2
      obtain ⟨A, X⟩ := axa2 ha_w4 A X
      replace X : Ext w4 w4 := Ext.refl _
      refine br_map h (fun h_ => ?_) (fun h_ => ?_)
      ·clear h
       have h := h_
       clear h_
       have hd_ := Sp.Ahead.drew w4
       obtain ⟨B1, B2⟩ := ah2 hd_ B1 B2
       obtain ⟨A, X⟩ := axa2 hd_ A X
       clear hd_
       refine ldB_t 0 B1 rfl ?_
       refine ldS_t 1 B1 rfl ?_
       refine ldS_t 2 B1 rfl ?_
       replace h := h _ X A
       refine Calls.mono h ?_
       clear h
       rintro e3 w6 ⟨s1, he_, ha_w6, h⟩
       refine ⟨s1, he_, ?_⟩
       clear he_
       obtain ⟨B1, B2⟩ := ah2 ha_w6 B1 B2
       obtain ⟨A, X⟩ := axa2 ha_w6 A X
       replace X : Ext w6 w6 := Ext.refl _
       refine ⟨ha_w6, ?_⟩
       refine Calls.mono h ?_
       clear h
       rintro e4 w7 ⟨s2, he_, ha_w7, h⟩
       refine ⟨s2, he_, ?_⟩
       clear he_
       obtain ⟨B1, B2⟩ := ah2 ha_w7 B1 B2
       obtain ⟨A, X⟩ := axa2 ha_w7 A X
       replace X : Ext w7 w7 := Ext.refl _
       refine ⟨ha_w7, ?_⟩
       refine st3_t B2 rfl rfl rfl rfl fun u4 k_u4 B2 => ?_
       replace B1 := up1 k_u4 B1
       obtain ⟨A, X⟩ := axu2 k_u4 g2 A X
       refine ldB_t 0 B2 rfl ?_
       refine ldS_t 1 B2 rfl ?_
       refine ldS_t 2 B2 rfl ?_
       replace h := h _ X A
       exact ⟨A, h⟩
      ·clear h
       have h := h_
       clear h_
       have hd_ := Sp.Ahead.drew w4
       obtain ⟨B1, B2⟩ := ah2 hd_ B1 B2
       obtain ⟨A, X⟩ := axa2 hd_ A X
       clear hd_
       refine ldB_t 0 B1 rfl ?_
       refine ldS_t 1 B1 rfl ?_
       refine ldS_t 2 B1 rfl ?_
       replace h := h _ X A
       refine Calls.mono h ?_
       clear h
       rintro e5 w10 ⟨s3, he_, ha_w10, h⟩
       refine ⟨s3, he_, ?_⟩
       clear he_
       obtain ⟨B1, B2⟩ := ah2 ha_w10 B1 B2
       obtain ⟨A, X⟩ := axa2 ha_w10 A X
       replace X : Ext w10 w10 := Ext.refl _
       refine ⟨ha_w10, ?_⟩
       refine Calls.mono h ?_
       clear h
       rintro e6 w11 ⟨s4, he_, ha_w11, h⟩
       refine ⟨s4, he_, ?_⟩
       clear he_
       obtain ⟨B1, B2⟩ := ah2 ha_w11 B1 B2
       obtain ⟨A, X⟩ := axa2 ha_w11 A X
       replace X : Ext w11 w11 := Ext.refl _
       refine ⟨ha_w11, ?_⟩
       refine st3_t B2 rfl rfl rfl rfl fun u5 k_u5 B2 => ?_
       replace B1 := up1 k_u5 B1
       obtain ⟨A, X⟩ := axu2 k_u5 g2 A X
       refine ldB_t 0 B2 rfl ?_
       refine ldS_t 1 B2 rfl ?_
       refine ldS_t 2 B2 rfl ?_
       replace h := h _ X A
       exact ⟨A, h⟩
     ·clear h
      have h := h_
      clear h_
      refine ldS_t 1 B1 rfl ?_
      refine Calls.mono h ?_
      clear h
      rintro e7 w13 ⟨x2, he_, ha_w13, h⟩
      refine ⟨x2, he_, ?_⟩
      clear he_
      obtain ⟨B1, B2⟩ := ah2 ha_w13 B1 B2
      obtain ⟨A, X⟩ := axa2 ha_w13 A X
      replace X : Ext w13 w13 := Ext.refl _
      refine br_map h (fun h_ => ?_) (fun h_ => ?_)
      ·clear h
       have h := h_
       clear h_
       have hd_ := Sp.Ahead.drew w13
       obtain ⟨B1, B2⟩ := ah2 hd_ B1 B2
       obtain ⟨A, X⟩ := axa2 hd_ A X
       clear hd_
       refine ldB_t 0 B1 rfl ?_
       refine ldS_t 1 B1 rfl ?_
       refine ldS_t 2 B1 rfl ?_
       replace h := h _ X A
       refine Calls.mono h ?_
       clear h
       rintro e8 w15 ⟨s5, he_, ha_w15, h⟩
       refine ⟨s5, he_, ?_⟩
       clear he_
       obtain ⟨B1, B2⟩ := ah2 ha_w15 B1 B2
       obtain ⟨A, X⟩ := axa2 ha_w15 A X
       replace X : Ext w15 w15 := Ext.refl _
       refine ⟨ha_w15, ?_⟩
       refine Calls.mono h ?_
       clear h
       rintro e9 w16 ⟨s6, he_, ha_w16, h⟩
       refine ⟨s6, he_, ?_⟩
       clear he_
       obtain ⟨B1, B2⟩ := ah2 ha_w16 B1 B2
       obtain ⟨A, X⟩ := axa2 ha_w16 A X
       replace X : Ext w16 w16 := Ext.refl _
       refine ⟨ha_w16, ?_⟩
       refine st3_t B2 rfl rfl rfl rfl fun u6 k_u6 B2 => ?_
       replace B1 := up1 k_u6 B1
       obtain ⟨A, X⟩ := axu2 k_u6 g2 A X
       refine ldB_t 0 B2 rfl ?_
       refine ldS_t 1 B2 rfl ?_
       refine ldS_t 2 B2 rfl ?_
       replace h := h _ X A
       exact ⟨A, h⟩
      ·clear h
       have h := h_
       clear h_
       have hd_ := Sp.Ahead.drew w13
       obtain ⟨B1, B2⟩ := ah2 hd_ B1 B2
       obtain ⟨A, X⟩ := axa2 hd_ A X
       clear hd_
       refine ldB_t 0 B1 rfl ?_
       refine ldS_t 1 B1 rfl ?_
       refine ldS_t 2 B1 rfl ?_
       replace h := h _ X A
       refine Calls.mono h ?_
       clear h
       rintro e10 w19 ⟨s7, he_, ha_w19, h⟩
       refine ⟨s7, he_, ?_⟩
       clear he_
       obtain ⟨B1, B2⟩ := ah2 ha_w19 B1 B2
       obtain ⟨A, X⟩ := axa2 ha_w19 A X
       replace X : Ext w19 w19 := Ext.refl _
       refine ⟨ha_w19, ?_⟩
       refine Calls.mono h ?_
       clear h
       rintro e11 w20 ⟨s8, he_, ha_w20, h⟩
       refine ⟨s8, he_, ?_⟩
       clear he_
       obtain ⟨B1, B2⟩ := ah2 ha_w20 B1 B2
       obtain ⟨A, X⟩ := axa2 ha_w20 A X
       replace X : Ext w20 w20 := Ext.refl _
       refine ⟨ha_w20, ?_⟩
       refine st3_t B2 rfl rfl rfl rfl fun u7 k_u7 B2 => ?_
       replace B1 := up1 k_u7 B1
       obtain ⟨A, X⟩ := axu2 k_u7 g2 A X
       refine ldB_t 0 B2 rfl ?_
       refine ldS_t 1 B2 rfl ?_
       refine ldS_t 2 B2 rfl ?_
       replace h := h _ X A
       exact ⟨A, h⟩

/-- surd/surdref07.Int: function 16, its local variables as values. -/
theorem surdref07_Int_v2 (a0_v : Int) (w : World) (R : Ending → World → Prop)
    
    (h : br (decide (a0_v < 0))
    (∀ w1, Ext w w1 → Ahead w w1 →
     (newC w1 #[Value.int .u64 (IntKind.u64.wrap (0 - (IntKind.u64.wrap a0_v)))] 65 fun ad1 w2 =>
      Calls Tryz.prog 33 #[(⟨some ad1, 1, 1⟩ : Slc).v] w2 fun e1 w3 =>
      ∃ s1 : Slc, e1 = .returned s1.v ∧ Ahead w2 w3 ∧
      (Calls Tryz.prog 56 #[Value.int .i64 1] w3 fun e2 w4 =>
       ∃ s2 : Slc, e2 = .returned s2.v ∧ Ahead w3 w4 ∧
       (∀ w5, Ext w4 w5 → Ahead w w5 →
        (R (.returned (Value.agg #[Value.bool (true), s1.v, s2.v])) w5)))))
    (∀ w6, Ext w w6 → Ahead w w6 →
     (Calls Tryz.prog 56 #[Value.int .i64 a0_v] w6 fun e3 w7 =>
      ∃ s3 : Slc, e3 = .returned s3.v ∧ Ahead w6 w7 ∧
      (Calls Tryz.prog 56 #[Value.int .i64 1] w7 fun e4 w8 =>
       ∃ s4 : Slc, e4 = .returned s4.v ∧ Ahead w7 w8 ∧
       (∀ w9, Ext w8 w9 → Ahead w w9 →
        (R (.returned (Value.agg #[Value.bool (false), s3.v, s4.v])) w9))))))
     :
    Calls Tryz.prog 16 #[Value.int .i64 a0_v] w (fun e_ w_ => Ahead w w_ ∧ R e_ w_) := by
  refine surdref07_Int_vc a0_v w _  ?_
  · have A : Ahead w w := Ahead.refl w
    have X : Ext w w := Ext.refl w
    refine newC_t fun bk1 u1 hb1 ha_u1 _ B1 => ?_
    have g1 := le_eq A.size hb1
    obtain ⟨A, X⟩ := axa2 ha_u1 A X
    refine br_map h (fun h_ => ?_) (fun h_ => ?_)
    ·clear h
     have h := h_
     clear h_
     replace h := h _ X A
     refine newC_map h fun ad1 w2 ha_w2 h_ => ?_
     clear h
     have h := h_
     clear h_
     replace B1 := B1.ahead ha_w2
     obtain ⟨A, X⟩ := axa2 ha_w2 A X
     replace X : Ext w2 w2 := Ext.refl _
     refine Calls.mono h ?_
     clear h
     rintro e1 w3 ⟨s1, he_, ha_w3, h⟩
     refine ⟨s1, he_, ?_⟩
     clear he_
     replace B1 := B1.ahead ha_w3
     obtain ⟨A, X⟩ := axa2 ha_w3 A X
     replace X : Ext w3 w3 := Ext.refl _
     refine Calls.mono h ?_
     clear h
     rintro e2 w4 ⟨s2, he_, ha_w4, h⟩
     refine ⟨s2, he_, ?_⟩
     clear he_
     replace B1 := B1.ahead ha_w4
     obtain ⟨A, X⟩ := axa2 ha_w4 A X
     replace X : Ext w4 w4 := Ext.refl _
     refine st3_t B1 rfl rfl rfl rfl fun u2 k_u2 B1 => ?_
     obtain ⟨A, X⟩ := axu2 k_u2 g1 A X
     refine ldB_t 0 B1 rfl ?_
     refine ldS_t 1 B1 rfl ?_
     refine ldS_t 2 B1 rfl ?_
     replace h := h _ X A
     exact ⟨A, h⟩
    ·clear h
     have h := h_
     clear h_
     replace h := h _ X A
     refine Calls.mono h ?_
     clear h
     rintro e3 w7 ⟨s3, he_, ha_w7, h⟩
     refine ⟨s3, he_, ?_⟩
     clear he_
     replace B1 := B1.ahead ha_w7
     obtain ⟨A, X⟩ := axa2 ha_w7 A X
     replace X : Ext w7 w7 := Ext.refl _
     refine Calls.mono h ?_
     clear h
     rintro e4 w8 ⟨s4, he_, ha_w8, h⟩
     refine ⟨s4, he_, ?_⟩
     clear he_
     replace B1 := B1.ahead ha_w8
     obtain ⟨A, X⟩ := axa2 ha_w8 A X
     replace X : Ext w8 w8 := Ext.refl _
     refine st3_t B1 rfl rfl rfl rfl fun u3 k_u3 B1 => ?_
     obtain ⟨A, X⟩ := axu2 k_u3 g1 A X
     refine ldB_t 0 B1 rfl ?_
     refine ldS_t 1 B1 rfl ?_
     refine ldS_t 2 B1 rfl ?_
     replace h := h _ X A
     exact ⟨A, h⟩

/-- surd/surdref07.Abs: function 17, its local variables as values. -/
theorem surdref07_Abs_v2 (a0_r_0 : Bool) (a0_r_1 : Slc) (a0_r_2 : Slc) (w : World) (R : Ending → World → Prop)
    
    (h : ∀ w1, Ext w w1 → Ahead w w1 →
    (R (.returned (Value.agg #[Value.bool (false), a0_r_1.v, a0_r_2.v])) w1))
     :
    Calls Tryz.prog 17 #[Value.agg #[Value.bool a0_r_0, a0_r_1.v, a0_r_2.v]] w (fun e_ w_ => Ahead w w_ ∧ R e_ w_) := by
  refine surdref07_Abs_vc a0_r_0 a0_r_1 a0_r_2 w _  ?_
  · have A : Ahead w w := Ahead.refl w
    have X : Ext w w := Ext.refl w
    refine newC_t fun bk1 u1 hb1 ha_u1 _ B1 => ?_
    have g1 := le_eq A.size hb1
    obtain ⟨A, X⟩ := axa2 ha_u1 A X
    refine newC_t fun bk2 u2 hb2 ha_u2 _ B2 => ?_
    have g2 := le_eq A.size hb2
    have l1_2 := lt1 hb2 B1
    replace B1 := B1.ahead ha_u2
    obtain ⟨A, X⟩ := axa2 ha_u2 A X
    refine stC_t 0 B1 rfl rfl rfl fun u3 k_u3 B1_ => ?_
    replace B1 : Blt u3 bk1 34 #[Value.bool false, a0_r_1.v, a0_r_2.v] := B1_
    clear B1_
    replace B2 := up1 k_u3 B2
    obtain ⟨A, X⟩ := axu2 k_u3 g1 A X
    refine ldB_t 0 B1 rfl ?_
    refine ldS_t 1 B1 rfl ?_
    refine ldS_t 2 B1 rfl ?_
    refine st3_t B2 rfl rfl rfl rfl fun u4 k_u4 B2 => ?_
    replace B1 := up1 k_u4 B1
    obtain ⟨A, X⟩ := axu2 k_u4 g2 A X
    refine ldB_t 0 B2 rfl ?_
    refine ldS_t 1 B2 rfl ?_
    refine ldS_t 2 B2 rfl ?_
    replace h := h _ X A
    exact ⟨A, h⟩

/-- surd/surdref07.Cmp: function 18, its local variables as values. -/
theorem surdref07_Cmp_v2 (a0_a_0 : Bool) (a0_a_1 : Slc) (a0_a_2 : Slc) (a1_b_0 : Bool) (a1_b_1 : Slc) (a1_b_2 : Slc) (w : World) (R : Ending → World → Prop)
    
    (h : ∀ w1, Ext w w1 → Ahead w w1 →
    (Calls Tryz.prog 10 #[Value.agg #[Value.bool a0_a_0, a0_a_1.v, a0_a_2.v]] w1 fun e1 w2 =>
     ∃ x1 : Int, e1 = .returned (Value.int .i64 x1) ∧ Ahead w1 w2 ∧
     (Calls Tryz.prog 10 #[Value.agg #[Value.bool a1_b_0, a1_b_1.v, a1_b_2.v]] w2 fun e2 w3 =>
      ∃ x2 : Int, e2 = .returned (Value.int .i64 x2) ∧ Ahead w2 w3 ∧
      (br (x1 != x2)
       (∀ w4, Ext w3 w4 → Ahead w w4 →
        (Calls Tryz.prog 10 #[Value.agg #[Value.bool a0_a_0, a0_a_1.v, a0_a_2.v]] w4 fun e3 w5 =>
         ∃ x3 : Int, e3 = .returned (Value.int .i64 x3) ∧ Ahead w4 w5 ∧
         (Calls Tryz.prog 10 #[Value.agg #[Value.bool a1_b_0, a1_b_1.v, a1_b_2.v]] w5 fun e4 w6 =>
          ∃ x4 : Int, e4 = .returned (Value.int .i64 x4) ∧ Ahead w5 w6 ∧
          (br (decide (x3 < x4))
           (R (.returned (Value.int .i64 (-1))) w6)
           (R (.returned (Value.int .i64 1)) w6)))))
       (∀ w7, Ext w3 w7 → Ahead w w7 →
        (Calls Tryz.prog 10 #[Value.agg #[Value.bool a0_a_0, a0_a_1.v, a0_a_2.v]] w7 fun e5 w8 =>
         ∃ x5 : Int, e5 = .returned (Value.int .i64 x5) ∧ Ahead w7 w8 ∧
         (Calls Tryz.prog 45 #[a0_a_1.v, a1_b_2.v] w8 fun e6 w9 =>
          ∃ s1 : Slc, e6 = .returned s1.v ∧ Ahead w8 w9 ∧
          (Calls Tryz.prog 45 #[a1_b_1.v, a0_a_2.v] w9 fun e7 w10 =>
           ∃ s2 : Slc, e7 = .returned s2.v ∧ Ahead w9 w10 ∧
           (Calls Tryz.prog 57 #[s1.v, s2.v] w10 fun e8 w11 =>
            ∃ x6 : Int, e8 = .returned (Value.int .i64 x6) ∧ Ahead w10 w11 ∧
            (R (.returned (Value.int .i64 (IntKind.i64.wrap (x5 * x6)))) w11))))))))))
     :
    Calls Tryz.prog 18 #[Value.agg #[Value.bool a0_a_0, a0_a_1.v, a0_a_2.v], Value.agg #[Value.bool a1_b_0, a1_b_1.v, a1_b_2.v]] w (fun e_ w_ => Ahead w w_ ∧ R e_ w_) := by
  refine surdref07_Cmp_vc a0_a_0 a0_a_1 a0_a_2 a1_b_0 a1_b_1 a1_b_2 w _  ?_
  · have A : Ahead w w := Ahead.refl w
    have X : Ext w w := Ext.refl w
    refine newC_t fun bk1 u1 hb1 ha_u1 _ B1 => ?_
    have g1 := le_eq A.size hb1
    obtain ⟨A, X⟩ := axa2 ha_u1 A X
    refine newC_t fun bk2 u2 hb2 ha_u2 _ B2 => ?_
    have g2 := le_eq A.size hb2
    have l1_2 := lt1 hb2 B1
    replace B1 := B1.ahead ha_u2
    obtain ⟨A, X⟩ := axa2 ha_u2 A X
    have hd_ := Sp.Ahead.drew u2
    obtain ⟨B1, B2⟩ := ah2 hd_ B1 B2
    obtain ⟨A, X⟩ := axa2 hd_ A X
    clear hd_
    refine ldB_t 0 B1 rfl ?_
    refine ldS_t 1 B1 rfl ?_
    refine ldS_t 2 B1 rfl ?_
    refine ldB_t 0 B2 rfl ?_
    refine ldS_t 1 B2 rfl ?_
    refine ldS_t 2 B2 rfl ?_
    replace h := h _ X A
    refine Calls.mono h ?_
    clear h
    rintro e1 w2 ⟨x1, he_, ha_w2, h⟩
    refine ⟨x1, he_, ?_⟩
    clear he_
    obtain ⟨B1, B2⟩ := ah2 ha_w2 B1 B2
    obtain ⟨A, X⟩ := axa2 ha_w2 A X
    replace X : Ext w2 w2 := Ext.refl _
    refine ⟨ha_w2, ?_⟩
    refine Calls.mono h ?_
    clear h
    rintro e2 w3 ⟨x2, he_, ha_w3, h⟩
    refine ⟨x2, he_, ?_⟩
    clear he_
    obtain ⟨B1, B2⟩ := ah2 ha_w3 B1 B2
    obtain ⟨A, X⟩ := axa2 ha_w3 A X
    replace X : Ext w3 w3 := Ext.refl _
    refine ⟨ha_w3, ?_⟩
    refine br_map h (fun h_ => ?_) (fun h_ => ?_)
    ·clear h
     have h := h_
     clear h_
     have hd_ := Sp.Ahead.drew w3
     obtain ⟨B1, B2⟩ := ah2 hd_ B1 B2
     obtain ⟨A, X⟩ := axa2 hd_ A X
     clear hd_
     refine ldB_t 0 B1 rfl ?_
     refine ldS_t 1 B1 rfl ?_
     refine ldS_t 2 B1 rfl ?_
     refine ldB_t 0 B2 rfl ?_
     refine ldS_t 1 B2 rfl ?_
     refine ldS_t 2 B2 rfl ?_
     replace h := h _ X A
     refine Calls.mono h ?_
     clear h
     rintro e3 w5 ⟨x3, he_, ha_w5, h⟩
     refine ⟨x3, he_, ?_⟩
     clear he_
     obtain ⟨B1, B2⟩ := ah2 ha_w5 B1 B2
     obtain ⟨A, X⟩ := axa2 ha_w5 A X
     replace X : Ext w5 w5 := Ext.refl _
     refine ⟨ha_w5, ?_⟩
     refine Calls.mono h ?_
     clear h
     rintro e4 w6 ⟨x4, he_, ha_w6, h⟩
     refine ⟨x4, he_, ?_⟩
     clear he_
     obtain ⟨B1, B2⟩ := ah2 ha_w6 B1 B2
     obtain ⟨A, X⟩ := axa2 ha_w6 A X
     replace X : Ext w6 w6 := Ext.refl _
     refine ⟨ha_w6, ?_⟩
     refine br_map h (fun h_ => ?_) (fun h_ => ?_)
     ·clear h
      have h := h_
      clear h_
      exact ⟨A, h⟩
     ·clear h
      have h := h_
      clear h_
      exact ⟨A, h⟩
    ·clear h
     have h := h_
     clear h_
     have hd_ := Sp.Ahead.drew w3
     obtain ⟨B1, B2⟩ := ah2 hd_ B1 B2
     obtain ⟨A, X⟩ := axa2 hd_ A X
     clear hd_
     refine ldB_t 0 B1 rfl ?_
     refine ldS_t 1 B1 rfl ?_
     refine ldS_t 2 B1 rfl ?_
     refine ldS_t 1 B1 rfl ?_
     refine ldS_t 2 B2 rfl ?_
     refine ldS_t 1 B2 rfl ?_
     refine ldS_t 2 B1 rfl ?_
     replace h := h _ X A
     refine Calls.mono h ?_
     clear h
     rintro e5 w8 ⟨x5, he_, ha_w8, h⟩
     refine ⟨x5, he_, ?_⟩
     clear he_
     obtain ⟨B1, B2⟩ := ah2 ha_w8 B1 B2
     obtain ⟨A, X⟩ := axa2 ha_w8 A X
     replace X : Ext w8 w8 := Ext.refl _
     refine ⟨ha_w8, ?_⟩
     refine Calls.mono h ?_
     clear h
     rintro e6 w9 ⟨s1, he_, ha_w9, h⟩
     refine ⟨s1, he_, ?_⟩
     clear he_
     obtain ⟨B1, B2⟩ := ah2 ha_w9 B1 B2
     obtain ⟨A, X⟩ := axa2 ha_w9 A X
     replace X : Ext w9 w9 := Ext.refl _
     refine ⟨ha_w9, ?_⟩
     refine Calls.mono h ?_
     clear h
     rintro e7 w10 ⟨s2, he_, ha_w10, h⟩
     refine ⟨s2, he_, ?_⟩
     clear he_
     obtain ⟨B1, B2⟩ := ah2 ha_w10 B1 B2
     obtain ⟨A, X⟩ := axa2 ha_w10 A X
     replace X : Ext w10 w10 := Ext.refl _
     refine ⟨ha_w10, ?_⟩
     refine Calls.mono h ?_
     clear h
     rintro e8 w11 ⟨x6, he_, ha_w11, h⟩
     refine ⟨x6, he_, ?_⟩
     clear he_
     obtain ⟨B1, B2⟩ := ah2 ha_w11 B1 B2
     obtain ⟨A, X⟩ := axa2 ha_w11 A X
     replace X : Ext w11 w11 := Ext.refl _
     refine ⟨ha_w11, ?_⟩
     exact ⟨A, h⟩

/-- surd/surdref07.Mul: function 19, its local variables as values. -/
theorem surdref07_Mul_v2 (a0_a_0 : Bool) (a0_a_1 : Slc) (a0_a_2 : Slc) (a1_b_0 : Bool) (a1_b_1 : Slc) (a1_b_2 : Slc) (w : World) (R : Ending → World → Prop)
    
    (h : ∀ w1, Ext w w1 → Ahead w w1 →
    (Calls Tryz.prog 45 #[a0_a_1.v, a1_b_1.v] w1 fun e1 w2 =>
     ∃ s1 : Slc, e1 = .returned s1.v ∧ Ahead w1 w2 ∧
     (Calls Tryz.prog 45 #[a0_a_2.v, a1_b_2.v] w2 fun e2 w3 =>
      ∃ s2 : Slc, e2 = .returned s2.v ∧ Ahead w2 w3 ∧
      (Calls Tryz.prog 44 #[Value.bool (!(a0_a_0 == a1_b_0)), s1.v, s2.v] w3 fun e3 w4 =>
       ∃ b1 : Bool, ∃ s3 : Slc, ∃ s4 : Slc, e3 = .returned (Value.agg #[Value.bool b1, s3.v, s4.v]) ∧ Ahead w3 w4 ∧
       (∀ w5, Ext w4 w5 → Ahead w w5 →
        (R (.returned (Value.agg #[Value.bool b1, s3.v, s4.v])) w5))))))
     :
    Calls Tryz.prog 19 #[Value.agg #[Value.bool a0_a_0, a0_a_1.v, a0_a_2.v], Value.agg #[Value.bool a1_b_0, a1_b_1.v, a1_b_2.v]] w (fun e_ w_ => Ahead w w_ ∧ R e_ w_) := by
  refine surdref07_Mul_vc a0_a_0 a0_a_1 a0_a_2 a1_b_0 a1_b_1 a1_b_2 w _  ?_
  · have A : Ahead w w := Ahead.refl w
    have X : Ext w w := Ext.refl w
    refine newC_t fun bk1 u1 hb1 ha_u1 _ B1 => ?_
    have g1 := le_eq A.size hb1
    obtain ⟨A, X⟩ := axa2 ha_u1 A X
    refine newC_t fun bk2 u2 hb2 ha_u2 _ B2 => ?_
    have g2 := le_eq A.size hb2
    have l1_2 := lt1 hb2 B1
    replace B1 := B1.ahead ha_u2
    obtain ⟨A, X⟩ := axa2 ha_u2 A X
    refine newC_t fun bk3 u3 hb3 ha_u3 _ B3 => ?_
    have g3 := le_eq A.size hb3
    obtain ⟨_, _⟩ := lt2 hb3 B1 B2
    obtain ⟨B1, B2⟩ := ah2 ha_u3 B1 B2
    obtain ⟨A, X⟩ := axa2 ha_u3 A X
    have hd_ := Sp.Ahead.drew u3
    obtain ⟨B1, B2, B3⟩ := ah3 hd_ B1 B2 B3
    obtain ⟨A, X⟩ := axa2 hd_ A X
    clear hd_
    refine ldB_t 0 B1 rfl ?_
    refine ldB_t 0 B2 rfl ?_
    refine ldS_t 1 B1 rfl ?_
    refine ldS_t 1 B2 rfl ?_
    refine ldS_t 2 B1 rfl ?_
    refine ldS_t 2 B2 rfl ?_
    replace h := h _ X A
    refine Calls.mono h ?_
    clear h
    rintro e1 w2 ⟨s1, he_, ha_w2, h⟩
    refine ⟨s1, he_, ?_⟩
    clear he_
    obtain ⟨B1, B2, B3⟩ := ah3 ha_w2 B1 B2 B3
    obtain ⟨A, X⟩ := axa2 ha_w2 A X
    replace X : Ext w2 w2 := Ext.refl _
    refine ⟨ha_w2, ?_⟩
    refine Calls.mono h ?_
    clear h
    rintro e2 w3 ⟨s2, he_, ha_w3, h⟩
    refine ⟨s2, he_, ?_⟩
    clear he_
    obtain ⟨B1, B2, B3⟩ := ah3 ha_w3 B1 B2 B3
    obtain ⟨A, X⟩ := axa2 ha_w3 A X
    replace X : Ext w3 w3 := Ext.refl _
    refine ⟨ha_w3, ?_⟩
    refine Calls.mono h ?_
    clear h
    rintro e3 w4 ⟨b1, s3, s4, he_, ha_w4, h⟩
    refine ⟨b1, s3, s4, he_, ?_⟩
    clear he_
    obtain ⟨B1, B2, B3⟩ := ah3 ha_w4 B1 B2 B3
    obtain ⟨A, X⟩ := axa2 ha_w4 A X
    replace X : Ext w4 w4 := Ext.refl _
    refine ⟨ha_w4, ?_⟩
    refine st3_t B3 rfl rfl rfl rfl fun u4 k_u4 B3 => ?_
    obtain ⟨B1, B2⟩ := up2 k_u4 B1 B2
    obtain ⟨A, X⟩ := axu2 k_u4 g3 A X
    refine ldB_t 0 B3 rfl ?_
    refine ldS_t 1 B3 rfl ?_
    refine ldS_t 2 B3 rfl ?_
    replace h := h _ X A
    exact ⟨A, h⟩

/-- surd/surdref07.Sub: function 20, its local variables as values. -/
theorem surdref07_Sub_v2 (a0_a_0 : Bool) (a0_a_1 : Slc) (a0_a_2 : Slc) (a1_b_0 : Bool) (a1_b_1 : Slc) (a1_b_2 : Slc) (w : World) (R : Ending → World → Prop)
    
    (h : ∀ w1, Ext w w1 → Ahead w w1 →
    (Calls Tryz.prog 58 #[Value.agg #[Value.bool a1_b_0, a1_b_1.v, a1_b_2.v]] w1 fun e1 w2 =>
     ∃ b1 : Bool, ∃ s1 : Slc, ∃ s2 : Slc, e1 = .returned (Value.agg #[Value.bool b1, s1.v, s2.v]) ∧ Ahead w1 w2 ∧
     (Calls Tryz.prog 28 #[Value.agg #[Value.bool a0_a_0, a0_a_1.v, a0_a_2.v], Value.agg #[Value.bool b1, s1.v, s2.v]] w2 fun e2 w3 =>
      ∃ b2 : Bool, ∃ s3 : Slc, ∃ s4 : Slc, e2 = .returned (Value.agg #[Value.bool b2, s3.v, s4.v]) ∧ Ahead w2 w3 ∧
      (∀ w4, Ext w3 w4 → Ahead w w4 →
       (R (.returned (Value.agg #[Value.bool b2, s3.v, s4.v])) w4)))))
     :
    Calls Tryz.prog 20 #[Value.agg #[Value.bool a0_a_0, a0_a_1.v, a0_a_2.v], Value.agg #[Value.bool a1_b_0, a1_b_1.v, a1_b_2.v]] w (fun e_ w_ => Ahead w w_ ∧ R e_ w_) := by
  refine surdref07_Sub_vc a0_a_0 a0_a_1 a0_a_2 a1_b_0 a1_b_1 a1_b_2 w _  ?_
  · have A : Ahead w w := Ahead.refl w
    have X : Ext w w := Ext.refl w
    refine newC_t fun bk1 u1 hb1 ha_u1 _ B1 => ?_
    have g1 := le_eq A.size hb1
    obtain ⟨A, X⟩ := axa2 ha_u1 A X
    refine newC_t fun bk2 u2 hb2 ha_u2 _ B2 => ?_
    have g2 := le_eq A.size hb2
    have l1_2 := lt1 hb2 B1
    replace B1 := B1.ahead ha_u2
    obtain ⟨A, X⟩ := axa2 ha_u2 A X
    refine newC_t fun bk3 u3 hb3 ha_u3 _ B3 => ?_
    have g3 := le_eq A.size hb3
    obtain ⟨_, _⟩ := lt2 hb3 B1 B2
    obtain ⟨B1, B2⟩ := ah2 ha_u3 B1 B2
    obtain ⟨A, X⟩ := axa2 ha_u3 A X
    have hd_ := Sp.Ahead.drew u3
    obtain ⟨B1, B2, B3⟩ := ah3 hd_ B1 B2 B3
    obtain ⟨A, X⟩ := axa2 hd_ A X
    clear hd_
    refine ldB_t 0 B1 rfl ?_
    refine ldS_t 1 B1 rfl ?_
    refine ldS_t 2 B1 rfl ?_
    refine ldB_t 0 B2 rfl ?_
    refine ldS_t 1 B2 rfl ?_
    refine ldS_t 2 B2 rfl ?_
    replace h := h _ X A
    refine Calls.mono h ?_
    clear h
    rintro e1 w2 ⟨b1, s1, s2, he_, ha_w2, h⟩
    refine ⟨b1, s1, s2, he_, ?_⟩
    clear he_
    obtain ⟨B1, B2, B3⟩ := ah3 ha_w2 B1 B2 B3
    obtain ⟨A, X⟩ := axa2 ha_w2 A X
    replace X : Ext w2 w2 := Ext.refl _
    refine ⟨ha_w2, ?_⟩
    refine Calls.mono h ?_
    clear h
    rintro e2 w3 ⟨b2, s3, s4, he_, ha_w3, h⟩
    refine ⟨b2, s3, s4, he_, ?_⟩
    clear he_
    obtain ⟨B1, B2, B3⟩ := ah3 ha_w3 B1 B2 B3
    obtain ⟨A, X⟩ := axa2 ha_w3 A X
    replace X : Ext w3 w3 := Ext.refl _
    refine ⟨ha_w3, ?_⟩
    refine st3_t B3 rfl rfl rfl rfl fun u4 k_u4 B3 => ?_
    obtain ⟨B1, B2⟩ := up2 k_u4 B1 B2
    obtain ⟨A, X⟩ := axu2 k_u4 g3 A X
    refine ldB_t 0 B3 rfl ?_
    refine ldS_t 1 B3 rfl ?_
    refine ldS_t 2 B3 rfl ?_
    replace h := h _ X A
    exact ⟨A, h⟩

/-- surd/surdref07.Add: function 28, its local variables as values. -/
theorem surdref07_Add_v2 (a0_a_0 : Bool) (a0_a_1 : Slc) (a0_a_2 : Slc) (a1_b_0 : Bool) (a1_b_1 : Slc) (a1_b_2 : Slc) (w : World) (R : Ending → World → Prop)
    
    (h : ∀ w1, Ext w w1 → Ahead w w1 →
    (Calls Tryz.prog 45 #[a0_a_1.v, a1_b_2.v] w1 fun e1 w2 =>
     ∃ s1 : Slc, e1 = .returned s1.v ∧ Ahead w1 w2 ∧
     (Calls Tryz.prog 45 #[a1_b_1.v, a0_a_2.v] w2 fun e2 w3 =>
      ∃ s2 : Slc, e2 = .returned s2.v ∧ Ahead w2 w3 ∧
      (Calls Tryz.prog 45 #[a0_a_2.v, a1_b_2.v] w3 fun e3 w4 =>
       ∃ s3 : Slc, e3 = .returned s3.v ∧ Ahead w3 w4 ∧
       (br (a0_a_0 == a1_b_0)
        (∀ w5, Ext w4 w5 → Ahead w w5 →
         (Calls Tryz.prog 67 #[s1.v, s2.v] w5 fun e4 w6 =>
          ∃ s4 : Slc, e4 = .returned s4.v ∧ Ahead w5 w6 ∧
          (Calls Tryz.prog 44 #[Value.bool a0_a_0, s4.v, s3.v] w6 fun e5 w7 =>
           ∃ b1 : Bool, ∃ s5 : Slc, ∃ s6 : Slc, e5 = .returned (Value.agg #[Value.bool b1, s5.v, s6.v]) ∧ Ahead w6 w7 ∧
           (∀ w8, Ext w7 w8 → Ahead w w8 →
            (R (.returned (Value.agg #[Value.bool b1, s5.v, s6.v])) w8)))))
        (Calls Tryz.prog 57 #[s1.v, s2.v] w4 fun e6 w9 =>
         ∃ x1 : Int, e6 = .returned (Value.int .i64 x1) ∧ Ahead w4 w9 ∧
         (br (decide (x1 ≥ 0))
          (∀ w10, Ext w9 w10 → Ahead w w10 →
           (Calls Tryz.prog 68 #[s1.v, s2.v] w10 fun e7 w11 =>
            ∃ s7 : Slc, e7 = .returned s7.v ∧ Ahead w10 w11 ∧
            (Calls Tryz.prog 44 #[Value.bool a0_a_0, s7.v, s3.v] w11 fun e8 w12 =>
             ∃ b2 : Bool, ∃ s8 : Slc, ∃ s9 : Slc, e8 = .returned (Value.agg #[Value.bool b2, s8.v, s9.v]) ∧ Ahead w11 w12 ∧
             (∀ w13, Ext w12 w13 → Ahead w w13 →
              (R (.returned (Value.agg #[Value.bool b2, s8.v, s9.v])) w13)))))
          (∀ w14, Ext w9 w14 → Ahead w w14 →
           (Calls Tryz.prog 68 #[s2.v, s1.v] w14 fun e9 w15 =>
            ∃ s10 : Slc, e9 = .returned s10.v ∧ Ahead w14 w15 ∧
            (Calls Tryz.prog 44 #[Value.bool a1_b_0, s10.v, s3.v] w15 fun e10 w16 =>
             ∃ b3 : Bool, ∃ s11 : Slc, ∃ s12 : Slc, e10 = .returned (Value.agg #[Value.bool b3, s11.v, s12.v]) ∧ Ahead w15 w16 ∧
             (∀ w17, Ext w16 w17 → Ahead w w17 →
              (R (.returned (Value.agg #[Value.bool b3, s11.v, s12.v])) w17))))))))))))
     :
    Calls Tryz.prog 28 #[Value.agg #[Value.bool a0_a_0, a0_a_1.v, a0_a_2.v], Value.agg #[Value.bool a1_b_0, a1_b_1.v, a1_b_2.v]] w (fun e_ w_ => Ahead w w_ ∧ R e_ w_) := by
  refine surdref07_Add_vc a0_a_0 a0_a_1 a0_a_2 a1_b_0 a1_b_1 a1_b_2 w _  ?_
  · have A : Ahead w w := Ahead.refl w
    have X : Ext w w := Ext.refl w
    refine newC_t fun bk1 u1 hb1 ha_u1 _ B1 => ?_
    have g1 := le_eq A.size hb1
    obtain ⟨A, X⟩ := axa2 ha_u1 A X
    refine newC_t fun bk2 u2 hb2 ha_u2 _ B2 => ?_
    have g2 := le_eq A.size hb2
    have l1_2 := lt1 hb2 B1
    replace B1 := B1.ahead ha_u2
    obtain ⟨A, X⟩ := axa2 ha_u2 A X
    refine newC_t fun bk3 u3 hb3 ha_u3 _ B3 => ?_
    have g3 := le_eq A.size hb3
    obtain ⟨_, _⟩ := lt2 hb3 B1 B2
    obtain ⟨B1, B2⟩ := ah2 ha_u3 B1 B2
    obtain ⟨A, X⟩ := axa2 ha_u3 A X
    have hd_ := Sp.Ahead.drew u3
    obtain ⟨B1, B2, B3⟩ := ah3 hd_ B1 B2 B3
    obtain ⟨A, X⟩ := axa2 hd_ A X
    clear hd_
    refine ldS_t 1 B1 rfl ?_
    refine ldS_t 2 B2 rfl ?_
    refine ldS_t 1 B2 rfl ?_
    refine ldS_t 2 B1 rfl ?_
    replace h := h _ X A
    refine Calls.mono h ?_
    clear h
    rintro e1 w2 ⟨s1, he_, ha_w2, h⟩
    refine ⟨s1, he_, ?_⟩
    clear he_
    obtain ⟨B1, B2, B3⟩ := ah3 ha_w2 B1 B2 B3
    obtain ⟨A, X⟩ := axa2 ha_w2 A X
    replace X : Ext w2 w2 := Ext.refl _
    refine ⟨ha_w2, ?_⟩
    refine Calls.mono h ?_
    clear h
    rintro e2 w3 ⟨s2, he_, ha_w3, h⟩
    refine ⟨s2, he_, ?_⟩
    clear he_
    obtain ⟨B1, B2, B3⟩ := ah3 ha_w3 B1 B2 B3
    obtain ⟨A, X⟩ := axa2 ha_w3 A X
    replace X : Ext w3 w3 := Ext.refl _
    refine ⟨ha_w3, ?_⟩
    refine ldS_t 2 B1 rfl ?_
    refine ldS_t 2 B2 rfl ?_
    refine Calls.mono h ?_
    clear h
    rintro e3 w4 ⟨s3, he_, ha_w4, h⟩
    refine ⟨s3, he_, ?_⟩
    clear he_
    obtain ⟨B1, B2, B3⟩ := ah3 ha_w4 B1 B2 B3
    obtain ⟨A, X⟩ := axa2 ha_w4 A X
    replace X : Ext w4 w4 := Ext.refl _
    refine ldB_t 0 B1 rfl ?_
    refine ldB_t 0 B2 rfl ?_
    refine br_map h (fun h_ => ?_) (fun h_ => ?_)
    ·clear h
     have h := h_
     clear h_
     have hd_ := Sp.Ahead.drew w4
     obtain ⟨B1, B2, B3⟩ := ah3 hd_ B1 B2 B3
     obtain ⟨A, X⟩ := axa2 hd_ A X
     clear hd_
     refine ldB_t 0 B1 rfl ?_
     replace h := h _ X A
     refine Calls.mono h ?_
     clear h
     rintro e4 w6 ⟨s4, he_, ha_w6, h⟩
     refine ⟨s4, he_, ?_⟩
     clear he_
     obtain ⟨B1, B2, B3⟩ := ah3 ha_w6 B1 B2 B3
     obtain ⟨A, X⟩ := axa2 ha_w6 A X
     replace X : Ext w6 w6 := Ext.refl _
     refine ⟨ha_w6, ?_⟩
     refine Calls.mono h ?_
     clear h
     rintro e5 w7 ⟨b1, s5, s6, he_, ha_w7, h⟩
     refine ⟨b1, s5, s6, he_, ?_⟩
     clear he_
     obtain ⟨B1, B2, B3⟩ := ah3 ha_w7 B1 B2 B3
     obtain ⟨A, X⟩ := axa2 ha_w7 A X
     replace X : Ext w7 w7 := Ext.refl _
     refine ⟨ha_w7, ?_⟩
     refine st3_t B3 rfl rfl rfl rfl fun u4 k_u4 B3 => ?_
     obtain ⟨B1, B2⟩ := up2 k_u4 B1 B2
     obtain ⟨A, X⟩ := axu2 k_u4 g3 A X
     refine ldB_t 0 B3 rfl ?_
     refine ldS_t 1 B3 rfl ?_
     refine ldS_t 2 B3 rfl ?_
     replace h := h _ X A
     exact ⟨A, h⟩
    ·clear h
     have h := h_
     clear h_
     refine Calls.mono h ?_
     clear h
     rintro e6 w9 ⟨x1, he_, ha_w9, h⟩
     refine ⟨x1, he_, ?_⟩
     clear he_
     obtain ⟨B1, B2, B3⟩ := ah3 ha_w9 B1 B2 B3
     obtain ⟨A, X⟩ := axa2 ha_w9 A X
     replace X : Ext w9 w9 := Ext.refl _
     refine br_map h (fun h_ => ?_) (fun h_ => ?_)
     ·clear h
      have h := h_
      clear h_
      have hd_ := Sp.Ahead.drew w9
      obtain ⟨B1, B2, B3⟩ := ah3 hd_ B1 B2 B3
      obtain ⟨A, X⟩ := axa2 hd_ A X
      clear hd_
      refine ldB_t 0 B1 rfl ?_
      replace h := h _ X A
      refine Calls.mono h ?_
      clear h
      rintro e7 w11 ⟨s7, he_, ha_w11, h⟩
      refine ⟨s7, he_, ?_⟩
      clear he_
      obtain ⟨B1, B2, B3⟩ := ah3 ha_w11 B1 B2 B3
      obtain ⟨A, X⟩ := axa2 ha_w11 A X
      replace X : Ext w11 w11 := Ext.refl _
      refine ⟨ha_w11, ?_⟩
      refine Calls.mono h ?_
      clear h
      rintro e8 w12 ⟨b2, s8, s9, he_, ha_w12, h⟩
      refine ⟨b2, s8, s9, he_, ?_⟩
      clear he_
      obtain ⟨B1, B2, B3⟩ := ah3 ha_w12 B1 B2 B3
      obtain ⟨A, X⟩ := axa2 ha_w12 A X
      replace X : Ext w12 w12 := Ext.refl _
      refine ⟨ha_w12, ?_⟩
      refine st3_t B3 rfl rfl rfl rfl fun u5 k_u5 B3 => ?_
      obtain ⟨B1, B2⟩ := up2 k_u5 B1 B2
      obtain ⟨A, X⟩ := axu2 k_u5 g3 A X
      refine ldB_t 0 B3 rfl ?_
      refine ldS_t 1 B3 rfl ?_
      refine ldS_t 2 B3 rfl ?_
      replace h := h _ X A
      exact ⟨A, h⟩
     ·clear h
      have h := h_
      clear h_
      have hd_ := Sp.Ahead.drew w9
      obtain ⟨B1, B2, B3⟩ := ah3 hd_ B1 B2 B3
      obtain ⟨A, X⟩ := axa2 hd_ A X
      clear hd_
      refine ldB_t 0 B2 rfl ?_
      replace h := h _ X A
      refine Calls.mono h ?_
      clear h
      rintro e9 w15 ⟨s10, he_, ha_w15, h⟩
      refine ⟨s10, he_, ?_⟩
      clear he_
      obtain ⟨B1, B2, B3⟩ := ah3 ha_w15 B1 B2 B3
      obtain ⟨A, X⟩ := axa2 ha_w15 A X
      replace X : Ext w15 w15 := Ext.refl _
      refine ⟨ha_w15, ?_⟩
      refine Calls.mono h ?_
      clear h
      rintro e10 w16 ⟨b3, s11, s12, he_, ha_w16, h⟩
      refine ⟨b3, s11, s12, he_, ?_⟩
      clear he_
      obtain ⟨B1, B2, B3⟩ := ah3 ha_w16 B1 B2 B3
      obtain ⟨A, X⟩ := axa2 ha_w16 A X
      replace X : Ext w16 w16 := Ext.refl _
      refine ⟨ha_w16, ?_⟩
      refine st3_t B3 rfl rfl rfl rfl fun u6 k_u6 B3 => ?_
      obtain ⟨B1, B2⟩ := up2 k_u6 B1 B2
      obtain ⟨A, X⟩ := axu2 k_u6 g3 A X
      refine ldB_t 0 B3 rfl ?_
      refine ldS_t 1 B3 rfl ?_
      refine ldS_t 2 B3 rfl ?_
      replace h := h _ X A
      exact ⟨A, h⟩

/-- surd/surdref07.Neg: function 58, its local variables as values. -/
theorem surdref07_Neg_v2 (a0_r_0 : Bool) (a0_r_1 : Slc) (a0_r_2 : Slc) (w : World) (R : Ending → World → Prop)
    
    (h : ∀ w1, Ext w w1 → Ahead w w1 →
    (Calls Tryz.prog 10 #[Value.agg #[Value.bool a0_r_0, a0_r_1.v, a0_r_2.v]] w1 fun e1 w2 =>
     ∃ x1 : Int, e1 = .returned (Value.int .i64 x1) ∧ Ahead w1 w2 ∧
     (br (x1 != 0)
      (∀ w3, Ext w2 w3 → Ahead w w3 →
       (R (.returned (Value.agg #[Value.bool (!a0_r_0), a0_r_1.v, a0_r_2.v])) w3))
      (∀ w4, Ext w2 w4 → Ahead w w4 →
       (R (.returned (Value.agg #[Value.bool a0_r_0, a0_r_1.v, a0_r_2.v])) w4)))))
     :
    Calls Tryz.prog 58 #[Value.agg #[Value.bool a0_r_0, a0_r_1.v, a0_r_2.v]] w (fun e_ w_ => Ahead w w_ ∧ R e_ w_) := by
  refine surdref07_Neg_vc a0_r_0 a0_r_1 a0_r_2 w _  ?_
  · have A : Ahead w w := Ahead.refl w
    have X : Ext w w := Ext.refl w
    refine newC_t fun bk1 u1 hb1 ha_u1 _ B1 => ?_
    have g1 := le_eq A.size hb1
    obtain ⟨A, X⟩ := axa2 ha_u1 A X
    refine newC_t fun bk2 u2 hb2 ha_u2 _ B2 => ?_
    have g2 := le_eq A.size hb2
    have l1_2 := lt1 hb2 B1
    replace B1 := B1.ahead ha_u2
    obtain ⟨A, X⟩ := axa2 ha_u2 A X
    refine ldB_t 0 B1 rfl ?_
    refine ldS_t 1 B1 rfl ?_
    refine ldS_t 2 B1 rfl ?_
    replace h := h _ X A
    refine Calls.mono h ?_
    clear h
    rintro e1 w2 ⟨x1, he_, ha_w2, h⟩
    refine ⟨x1, he_, ?_⟩
    clear he_
    obtain ⟨B1, B2⟩ := ah2 ha_w2 B1 B2
    obtain ⟨A, X⟩ := axa2 ha_w2 A X
    replace X : Ext w2 w2 := Ext.refl _
    refine br_map h (fun h_ => ?_) (fun h_ => ?_)
    ·clear h
     have h := h_
     clear h_
     refine ldB_t 0 B1 rfl ?_
     refine stC_t 0 B1 rfl rfl rfl fun u3 k_u3 B1_ => ?_
     replace B1 : Blt u3 bk1 34 #[Value.bool (!a0_r_0), a0_r_1.v, a0_r_2.v] := B1_
     clear B1_
     replace B2 := up1 k_u3 B2
     obtain ⟨A, X⟩ := axu2 k_u3 g1 A X
     refine ldB_t 0 B1 rfl ?_
     refine ldS_t 1 B1 rfl ?_
     refine ldS_t 2 B1 rfl ?_
     refine st3_t B2 rfl rfl rfl rfl fun u4 k_u4 B2 => ?_
     replace B1 := up1 k_u4 B1
     obtain ⟨A, X⟩ := axu2 k_u4 g2 A X
     refine ldB_t 0 B2 rfl ?_
     refine ldS_t 1 B2 rfl ?_
     refine ldS_t 2 B2 rfl ?_
     replace h := h _ X A
     exact ⟨A, h⟩
    ·clear h
     have h := h_
     clear h_
     refine ldB_t 0 B1 rfl ?_
     refine ldS_t 1 B1 rfl ?_
     refine ldS_t 2 B1 rfl ?_
     refine st3_t B2 rfl rfl rfl rfl fun u5 k_u5 B2 => ?_
     replace B1 := up1 k_u5 B1
     obtain ⟨A, X⟩ := axu2 k_u5 g2 A X
     refine ldB_t 0 B2 rfl ?_
     refine ldS_t 1 B2 rfl ?_
     refine ldS_t 2 B2 rfl ?_
     replace h := h _ X A
     exact ⟨A, h⟩

/-- surd/surdref07.Make: function 44, its local variables as values. -/
theorem surdref07_Make_v2 (a0_neg : Bool) (a1_n : Slc) (a2_d : Slc) (w : World) (R : Ending → World → Prop)
    
    (h : ∀ w1, Ext w w1 → Ahead w w1 →
    (Calls Tryz.prog 40 #[a1_n.v] w1 fun e1 w2 =>
     ∃ b1 : Bool, e1 = .returned (Value.bool b1) ∧ Ahead w1 w2 ∧
     (br b1
      (Calls Tryz.prog 56 #[Value.int .i64 1] w2 fun e2 w3 =>
       ∃ s1 : Slc, e2 = .returned s1.v ∧ Ahead w2 w3 ∧
       (∀ w4, Ext w3 w4 → Ahead w w4 →
        (R (.returned (Value.agg #[Value.bool (false), ((⟨none, 0, 0⟩ : Slc)).v, s1.v])) w4)))
      (Calls Tryz.prog 89 #[a1_n.v, a2_d.v] w2 fun e3 w5 =>
       ∃ s2 : Slc, e3 = .returned s2.v ∧ Ahead w2 w5 ∧
       (Calls Tryz.prog 90 #[a1_n.v, s2.v] w5 fun e4 w6 =>
        ∃ s3 : Slc, ∃ s4 : Slc, e4 = .returned (Value.tuple #[s3.v, s4.v]) ∧ Ahead w5 w6 ∧
        (Calls Tryz.prog 90 #[a2_d.v, s2.v] w6 fun e5 w7 =>
         ∃ s5 : Slc, ∃ s6 : Slc, e5 = .returned (Value.tuple #[s5.v, s6.v]) ∧ Ahead w6 w7 ∧
         (∀ w8, Ext w7 w8 → Ahead w w8 →
          (R (.returned (Value.agg #[Value.bool a0_neg, s3.v, s5.v])) w8))))))))
     :
    Calls Tryz.prog 44 #[Value.bool a0_neg, a1_n.v, a2_d.v] w (fun e_ w_ => Ahead w w_ ∧ R e_ w_) := by
  refine surdref07_Make_vc a0_neg a1_n a2_d w _  ?_
  · have A : Ahead w w := Ahead.refl w
    have X : Ext w w := Ext.refl w
    refine newC_t fun bk1 u1 hb1 ha_u1 _ B1 => ?_
    have g1 := le_eq A.size hb1
    obtain ⟨A, X⟩ := axa2 ha_u1 A X
    replace h := h _ X A
    refine Calls.mono h ?_
    clear h
    rintro e1 w2 ⟨b1, he_, ha_w2, h⟩
    refine ⟨b1, he_, ?_⟩
    clear he_
    replace B1 := B1.ahead ha_w2
    obtain ⟨A, X⟩ := axa2 ha_w2 A X
    replace X : Ext w2 w2 := Ext.refl _
    refine br_map h (fun h_ => ?_) (fun h_ => ?_)
    ·clear h
     have h := h_
     clear h_
     refine Calls.mono h ?_
     clear h
     rintro e2 w3 ⟨s1, he_, ha_w3, h⟩
     refine ⟨s1, he_, ?_⟩
     clear he_
     replace B1 := B1.ahead ha_w3
     obtain ⟨A, X⟩ := axa2 ha_w3 A X
     replace X : Ext w3 w3 := Ext.refl _
     refine st3_t B1 rfl rfl rfl rfl fun u2 k_u2 B1 => ?_
     obtain ⟨A, X⟩ := axu2 k_u2 g1 A X
     refine ldB_t 0 B1 rfl ?_
     refine ldS_t 1 B1 rfl ?_
     refine ldS_t 2 B1 rfl ?_
     replace h := h _ X A
     exact ⟨A, h⟩
    ·clear h
     have h := h_
     clear h_
     refine Calls.mono h ?_
     clear h
     rintro e3 w5 ⟨s2, he_, ha_w5, h⟩
     refine ⟨s2, he_, ?_⟩
     clear he_
     replace B1 := B1.ahead ha_w5
     obtain ⟨A, X⟩ := axa2 ha_w5 A X
     replace X : Ext w5 w5 := Ext.refl _
     refine Calls.mono h ?_
     clear h
     rintro e4 w6 ⟨s3, s4, he_, ha_w6, h⟩
     refine ⟨s3, s4, he_, ?_⟩
     clear he_
     replace B1 := B1.ahead ha_w6
     obtain ⟨A, X⟩ := axa2 ha_w6 A X
     replace X : Ext w6 w6 := Ext.refl _
     refine Calls.mono h ?_
     clear h
     rintro e5 w7 ⟨s5, s6, he_, ha_w7, h⟩
     refine ⟨s5, s6, he_, ?_⟩
     clear he_
     replace B1 := B1.ahead ha_w7
     obtain ⟨A, X⟩ := axa2 ha_w7 A X
     replace X : Ext w7 w7 := Ext.refl _
     refine st3_t B1 rfl rfl rfl rfl fun u3 k_u3 B1 => ?_
     obtain ⟨A, X⟩ := axu2 k_u3 g1 A X
     refine ldB_t 0 B1 rfl ?_
     refine ldS_t 1 B1 rfl ?_
     refine ldS_t 2 B1 rfl ?_
     replace h := h _ X A
     exact ⟨A, h⟩

end Go.Proofs.YtbeiopoejdkheaaGreatDoor
namespace Go.Proofs.YtbeiopoejdkheaaGreatDoor
open Go Go.RowKit Eng Sp Dg L2
set_option linter.unusedVariables false
set_option linter.unusedSimpArgs false
set_option maxRecDepth 100000
namespace R7
open _root_.Go.Proofs.YtbeiopoejdkheaaGreatDoor.Ref (RN RN.ahead RN.ext RN.nil RN.n rMul_spec rDiv_spec zero_spec Of_spec Int_spec Add_spec Sub_spec Cmp_spec Shl_spec Shr_spec)
open _root_.Go.Proofs.YtbeiopoejdkheaaGreatDoor.Rt (rd_inj bl_add_le bl_one)
open Dy

/-- The number that a slice reads as, in the document's digits. -/
noncomputable def rv (w : World) (s : Slc) : Nat := by
  classical
  exact if h : ∃ m, RN w s m then Classical.choose h else 0
theorem rv_eq {w : World} {s : Slc} {m : Nat} (h : RN w s m) : rv w s = m := by
  have hx : ∃ m, RN w s m := ⟨m, h⟩
  unfold rv
  rw [dif_pos hx]
  exact digs_inj two32 (nn_inj (rd_inj (Classical.choose_spec hx) h))
theorem l32 {N m : Nat} (h : bl N ≤ 32 * m) : (digs B32 N).length ≤ m := by
  refine digs_length_le two32 ?_
  rw [b32_pow]
  exact bl_le_iff.1 h
theorem bl_mul (x y : Nat) : bl (x * y) ≤ bl x + bl y := by
  refine bl_le ?_
  rw [Nat.pow_add]
  exact Nat.mul_lt_mul'' (lt_bl x) (lt_bl y)

theorem Gcd_spec {w : World} {a b : Slc} {x y : Nat} (ha : RN w a x) (hb : RN w b y) (lx : bl x ≤ 67108864) (ly : bl y ≤ 67108864) :
    Calls pr surdref01_Gcd_id #[a.v, b.v] w fun e w' => Ahead w w' ∧ ∃ s, e = .returned (Slc.v s) ∧ RN w' s (Nat.gcd x y) := by
  refine surdref01_Gcd_vc a b w _ (fun t0 t1 w' => Ahead w w' ∧ ∃ x' y', RN w' t0 x' ∧ RN w' t1 y' ∧ bl x' ≤ 67108864 ∧ bl y' ≤ 67108864 ∧ Nat.gcd x' y' = Nat.gcd x y) (fun _ t1 w' => rv w' t1)
    ⟨Ahead.refl _, x, y, ha, hb, lx, ly, rfl⟩ ?_
  rintro t0 t1 w1 ⟨h1, x', y', r0, r1, b0, b1, hg⟩
  refine Calls.mono (zero_spec r1) ?_
  rintro e w2 ⟨rfl, rfl⟩
  refine ⟨_, rfl, br_intro (fun hz => ?_) (fun hz => ?_)⟩
  · have hy : y' ≠ 0 := fun h => by rw [h] at hz; simp at hz
    have l0 := l32 (N := x') (m := 2 ^ 22) (by omega)
    have l1 := l32 (N := y') (m := 2 ^ 22) (by omega)
    refine Calls.mono (rDiv_spec r0 r1 (by omega) (by omega) (by omega)) ?_
    rintro e w3 ⟨h3, q, r, rfl, rq, rr⟩
    have hlt : x' % y' < y' := Nat.mod_lt _ (by omega)
    refine ⟨_, _, rfl, ⟨h1.trans h3, y', x' % y', r1.ahead h3, rr, b1, Nat.le_trans (bl_mono (Nat.le_of_lt hlt)) b1, ?_⟩, by rw [rv_eq rr, rv_eq r1]; exact hlt⟩
    rw [← hg, Nat.gcd_comm y', ← Nat.gcd_rec, Nat.gcd_comm]
  · have hy : y' = 0 := by simpa using hz
    refine ⟨h1, _, rfl, ?_⟩
    rw [← hg, hy, Nat.gcd_zero_right]; exact r0

/-- A rational of the document: its value is p / q; its numbers have at most k bits. -/
def RV (w : World) (b : Bool) (s t : Slc) (p : Int) (q k : Nat) : Prop := 0 < q ∧ ∃ n d : Nat, RN w s n ∧ RN w t d ∧ 0 < d ∧ bl n ≤ k ∧ bl d ≤ k ∧ sg b n * (q : Int) = p * (d : Int)
theorem RV.ahead {w w' : World} {b : Bool} {s t : Slc} {p : Int} {q k : Nat} (h : RV w b s t p q k) (a : Ahead w w') : RV w' b s t p q k := by
  obtain ⟨hq, n, d, h1, h2, h3⟩ := h; exact ⟨hq, n, d, h1.ahead a, h2.ahead a, h3⟩
theorem RV.ext {w w' : World} {b : Bool} {s t : Slc} {p : Int} {q k : Nat} (h : RV w b s t p q k) (a : Ext w w') : RV w' b s t p q k := by
  obtain ⟨hq, n, d, h1, h2, h3⟩ := h; exact ⟨hq, n, d, h1.ext a, h2.ext a, h3⟩
theorem RV.mono {w : World} {b : Bool} {s t : Slc} {p : Int} {q k k' : Nat} (h : RV w b s t p q k) (hk : k ≤ k') : RV w b s t p q k' := by
  obtain ⟨hq, n, d, h1, h2, h3, h4, h5, h6⟩ := h; exact ⟨hq, n, d, h1, h2, h3, by omega, by omega, h6⟩
/-- The same fraction otherwise. -/
theorem RV.conv {w : World} {b : Bool} {s t : Slc} {p p' : Int} {q q' k : Nat} (h : RV w b s t p q k) (hq' : 0 < q') (he : p * (q' : Int) = p' * (q : Int)) : RV w b s t p' q' k := by
  obtain ⟨hq, n, d, h1, h2, h3, h4, h5, h6⟩ := h
  refine ⟨hq', n, d, h1, h2, h3, h4, h5, ?_⟩
  have hqz : (q : Int) ≠ 0 := by omega
  apply Int.eq_of_mul_eq_mul_right hqz
  calc sg b n * (q' : Int) * (q : Int) = sg b n * (q : Int) * (q' : Int) := Int.mul_right_comm ..
    _ = p * (d : Int) * (q' : Int) := by rw [h6]
    _ = p * (q' : Int) * (d : Int) := Int.mul_right_comm ..
    _ = p' * (q : Int) * (d : Int) := by rw [he]
    _ = p' * (d : Int) * (q : Int) := Int.mul_right_comm ..
/-- An answer that is such a rational. -/
def RA (p : Int) (q k : Nat) (e : Ending) (w' : World) : Prop := ∃ (b : Bool) (s t : Slc), e = .returned (.agg #[.bool b, s.v, t.v]) ∧ RV w' b s t p q k

theorem sg_mul (a b : Bool) (n m : Nat) : sg (!(a == b)) (n * m) = sg a n * sg b m := by
  cases a <;> cases b <;> simp [sg, Int.neg_mul, Int.mul_neg]
theorem sg_natMul (a : Bool) (n m : Nat) : sg a (n * m) = sg a n * (m : Int) := by
  cases a <;> simp [sg, Int.neg_mul]
theorem sg_zero (a : Bool) : sg a 0 = 0 := by cases a <;> rfl

theorem Make_spec {w : World} {neg : Bool} {s t : Slc} {n d k : Nat} (hs : RN w s n) (ht : RN w t d) (hd : 0 < d) (hn : bl n ≤ k) (hdk : bl d ≤ k) (hk : k ≤ 67108864) :
    Calls pr surdref07_Make_id #[.bool neg, s.v, t.v] w fun e w' => Ahead w w' ∧ RA (sg neg n) d k e w' := by
  have hbd := bl_pos (show d ≠ 0 by omega)
  have ln := l32 (N := n) (m := 2 ^ 22) (by omega)
  have ld := l32 (N := d) (m := 2 ^ 22) (by omega)
  refine surdref07_Make_v2 neg s t w (RA (sg neg n) d k) fun w1 x1 a1 => ?_
  refine Calls.mono (zero_spec (hs.ahead a1)) ?_
  rintro e w2 ⟨rfl, rfl⟩
  refine ⟨_, rfl, Ahead.refl _, br_intro (fun hz => ?_) (fun hz => ?_)⟩
  · have hn0 := of_decide_eq_true hz
    refine Calls.mono (Int_spec (v := 1) (by omega)) ?_
    rintro e w3 ⟨h3, u, rfl, ru⟩
    refine ⟨_, rfl, h3, fun w4 x4 a4 => ⟨_, _, _, rfl, hd, 0, 1, RN.nil, ru.ext x4, by omega, by rw [bl_zero]; omega, by rw [bl_one]; omega, ?_⟩⟩
    rw [hn0, sg_zero, sg_zero, Int.zero_mul, Int.zero_mul]
  · have hn0 := of_decide_eq_false hz
    refine Calls.mono (Gcd_spec (hs.ahead a1) (ht.ahead a1) (by omega) (by omega)) ?_
    rintro e w5 ⟨h5, g, rfl, rg⟩
    have hg : 0 < Nat.gcd n d := Nat.gcd_pos_of_pos_right _ hd
    obtain ⟨a, ea⟩ := Nat.gcd_dvd_left n d
    obtain ⟨c, ec⟩ := Nat.gcd_dvd_right n d
    have hgle : Nat.gcd n d ≤ d := Nat.gcd_le_right _ hd
    generalize hG : Nat.gcd n d = G at *
    have lg := l32 (N := G) (m := 2 ^ 22) (by have := bl_mono hgle; omega)
    refine ⟨_, rfl, h5, Calls.mono (rDiv_spec ((hs.ahead a1).ahead h5) rg hg (by omega) (by omega)) ?_⟩
    rintro e w6 ⟨h6, q, r, rfl, rq, rr⟩
    refine ⟨_, _, rfl, h6, Calls.mono (rDiv_spec (((ht.ahead a1).ahead h5).ahead h6) (rg.ahead h6) hg (by omega) (by omega)) ?_⟩
    rintro e w7 ⟨h7, q2, r2, rfl, rq2, rr2⟩
    refine ⟨_, _, rfl, h7, fun w8 x8 a8 => ⟨_, _, _, rfl, hd, _, _, (rq.ahead h7).ext x8, rq2.ext x8, ?_, Nat.le_trans (bl_mono (Nat.div_le_self _ _)) hn, Nat.le_trans (bl_mono (Nat.div_le_self _ _)) hdk, ?_⟩⟩
    · rw [ec, Nat.mul_div_cancel_left _ hg]
      rcases Nat.eq_zero_or_pos c with h | h
      · rw [h] at ec; omega
      · exact h
    · rw [ec, ea, Nat.mul_div_cancel_left _ hg, Nat.mul_div_cancel_left _ hg, ← sg_natMul, ← sg_natMul]
      congr 1
      ac_rfl

theorem Sign_spec {w : World} {b : Bool} {s t : Slc} {n : Nat} (hs : RN w s n) :
    Calls pr surdref07_R_Sign_id #[.agg #[.bool b, s.v, t.v]] w fun e w' => Ahead w w' ∧ e = .returned (.int .i64 (if n = 0 then 0 else if b then -1 else 1)) := by
  refine surdref07_R_Sign_v2 b s t w (fun e w' => e = .returned (.int .i64 (if n = 0 then 0 else if b then -1 else 1))) fun w1 x1 a1 => ?_
  refine Calls.mono (zero_spec (hs.ahead a1)) ?_
  rintro e w2 ⟨rfl, rfl⟩
  refine ⟨_, rfl, Ahead.refl _, br_intro (fun hz => ?_) (fun hz => ?_)⟩
  · rw [if_pos (of_decide_eq_true hz)]
  · rw [if_neg (of_decide_eq_false hz)]
    cases b
    · exact br_false rfl rfl
    · exact br_true rfl rfl
/-- The sign, by the value. -/
def sgZ (p : Int) : Int := if p = 0 then 0 else if p < 0 then -1 else 1
theorem sign_of {b : Bool} {n d q : Nat} {p : Int} (hq : 0 < q) (hd : 0 < d) (h : sg b n * (q : Int) = p * (d : Int)) : (if n = 0 then 0 else if b then -1 else 1 : Int) = sgZ p := by
  have hqz : (0 : Int) < q := by omega
  have hdz : (0 : Int) < d := by omega
  by_cases hn : n = 0
  · rw [if_pos hn]
    rw [hn, sg_zero, Int.zero_mul] at h
    have hp : p = 0 := by
      rcases Int.mul_eq_zero.1 h.symm with h | h
      · exact h
      · omega
    rw [sgZ, if_pos hp]
  · rw [if_neg hn]
    cases b
    · have h1 : 0 < sg false n := by simp [sg]; omega
      have h2 : 0 < p * (d : Int) := by rw [← h]; exact Int.mul_pos h1 hqz
      have h3 : 0 < p := by
        by_cases h4 : 0 < p
        · exact h4
        · have := Int.mul_nonpos_of_nonpos_of_nonneg (show p ≤ 0 by omega) (Int.le_of_lt hdz); omega
      have e : sgZ p = 1 := by rw [sgZ, if_neg (by omega), if_neg (by omega)]
      rw [e]; rfl
    · have h1 : sg true n < 0 := by simp [sg]; omega
      have h2 : p * (d : Int) < 0 := by rw [← h]; exact Int.mul_neg_of_neg_of_pos h1 hqz
      have h3 : p < 0 := by
        by_cases h4 : p < 0
        · exact h4
        · have := Int.mul_nonneg (show 0 ≤ p by omega) (Int.le_of_lt hdz); omega
      have e : sgZ p = -1 := by rw [sgZ, if_neg (by omega), if_pos h3]
      rw [e]; rfl
theorem Sign_val {w : World} {b : Bool} {s t : Slc} {p : Int} {q k : Nat} (h : RV w b s t p q k) :
    Calls pr surdref07_R_Sign_id #[.agg #[.bool b, s.v, t.v]] w fun e w' => Ahead w w' ∧ e = .returned (.int .i64 (sgZ p)) := by
  obtain ⟨hq, n, d, h1, h2, h3, h4, h5, h6⟩ := h
  rw [← sign_of hq h3 h6]
  exact Sign_spec h1
end R7
end Go.Proofs.YtbeiopoejdkheaaGreatDoor
namespace Go.Proofs.YtbeiopoejdkheaaGreatDoor
open Go Go.RowKit Eng
set_option linter.unusedVariables false

set_option maxRecDepth 100000 in
/-- surd/rounded.Quo: function 11. -/
theorem rounded_Quo_vc (a0_a_0 : Bool) (a0_a_1 : Slc) (a0_a_2 : Int) (a1_b_0 : Bool) (a1_b_1 : Slc) (a1_b_2 : Int) (a2_pos : Int) (a3_mode : Int) (w : World) (R : Ending → World → Prop)
    
    (h : newC w #[Value.bool a0_a_0, a0_a_1.v, Value.int .i64 a0_a_2] 27 fun ad1 w1 =>
    newC w1 #[Value.bool a1_b_0, a1_b_1.v, Value.int .i64 a1_b_2] 27 fun ad2 w2 =>
    newC w2 #[Value.bool false, (⟨none, 0, 0⟩ : Slc).v, Value.int .i64 0] 27 fun ad3 w3 =>
    ldB ad1 w3 fun b1 =>
    ldS (ad1.add 1) w3 fun s1 =>
    ldI .i64 (ad1.add 2) w3 fun x1 =>
    Calls Tryz.prog 41 #[Value.agg #[Value.bool b1, s1.v, Value.int .i64 x1]] w3 fun e1 w4 =>
    ∃ b2 : Bool, ∃ s2 : Slc, ∃ x2 : Int, ∃ x3 : Int, e1 = .returned (Value.tuple #[Value.agg #[Value.bool b2, s2.v, Value.int .i64 x2], Value.int .i64 x3]) ∧
    (newC w4 #[Value.bool false, (⟨none, 0, 0⟩ : Slc).v, Value.int .i64 0] 72 fun ad4 w5 =>
     stC ad4 (Value.bool b2) w5 fun w6 =>
     stC (ad4.add 1) s2.v w6 fun w7 =>
     stC (ad4.add 2) (Value.int .i64 x2) w7 fun w8 =>
     br (x3 != 0)
     (stC ad3 (Value.bool false) w8 fun w9 =>
      stC (ad3.add 1) ((⟨none, 0, 0⟩ : Slc).v) w9 fun w10 =>
      stC (ad3.add 2) (Value.int .i64 0) w10 fun w11 =>
      ldB ad3 w11 fun b3 =>
      ldS (ad3.add 1) w11 fun s3 =>
      ldI .i64 (ad3.add 2) w11 fun x4 =>
      R (.returned (Value.tuple #[Value.agg #[Value.bool b3, s3.v, Value.int .i64 x4], Value.int .i64 x3])) w11)
     (ldB ad2 w8 fun b4 =>
      ldS (ad2.add 1) w8 fun s4 =>
      ldI .i64 (ad2.add 2) w8 fun x5 =>
      Calls Tryz.prog 41 #[Value.agg #[Value.bool b4, s4.v, Value.int .i64 x5]] w8 fun e2 w12 =>
      ∃ b5 : Bool, ∃ s5 : Slc, ∃ x6 : Int, ∃ x7 : Int, e2 = .returned (Value.tuple #[Value.agg #[Value.bool b5, s5.v, Value.int .i64 x6], Value.int .i64 x7]) ∧
      (newC w12 #[Value.bool false, (⟨none, 0, 0⟩ : Slc).v, Value.int .i64 0] 72 fun ad5 w13 =>
       stC ad5 (Value.bool b5) w13 fun w14 =>
       stC (ad5.add 1) s5.v w14 fun w15 =>
       stC (ad5.add 2) (Value.int .i64 x6) w15 fun w16 =>
       br (x7 != 0)
       (stC ad3 (Value.bool false) w16 fun w17 =>
        stC (ad3.add 1) ((⟨none, 0, 0⟩ : Slc).v) w17 fun w18 =>
        stC (ad3.add 2) (Value.int .i64 0) w18 fun w19 =>
        ldB ad3 w19 fun b6 =>
        ldS (ad3.add 1) w19 fun s6 =>
        ldI .i64 (ad3.add 2) w19 fun x8 =>
        R (.returned (Value.tuple #[Value.agg #[Value.bool b6, s6.v, Value.int .i64 x8], Value.int .i64 x7])) w19)
       (Calls Tryz.prog 42 #[Value.int .i64 a2_pos, Value.int .i64 a3_mode] w16 fun e3 w20 =>
        ∃ x9 : Int, e3 = .returned (Value.int .i64 x9) ∧
        (br (x9 != 0)
         (stC ad3 (Value.bool false) w20 fun w21 =>
          stC (ad3.add 1) ((⟨none, 0, 0⟩ : Slc).v) w21 fun w22 =>
          stC (ad3.add 2) (Value.int .i64 0) w22 fun w23 =>
          ldB ad3 w23 fun b7 =>
          ldS (ad3.add 1) w23 fun s7 =>
          ldI .i64 (ad3.add 2) w23 fun x10 =>
          R (.returned (Value.tuple #[Value.agg #[Value.bool b7, s7.v, Value.int .i64 x10], Value.int .i64 x9])) w23)
         (ldS (ad5.add 1) w20 fun s8 =>
          br ((s8.n : Int) == 0)
          (stC ad3 (Value.bool false) w20 fun w24 =>
           stC (ad3.add 1) ((⟨none, 0, 0⟩ : Slc).v) w24 fun w25 =>
           stC (ad3.add 2) (Value.int .i64 0) w25 fun w26 =>
           ldB ad3 w26 fun b8 =>
           ldS (ad3.add 1) w26 fun s9 =>
           ldI .i64 (ad3.add 2) w26 fun x11 =>
           R (.returned (Value.tuple #[Value.agg #[Value.bool b8, s9.v, Value.int .i64 x11], Value.int .i64 90])) w26)
          (ldB ad4 w20 fun b9 =>
           ldB ad5 w20 fun b10 =>
           ldS (ad4.add 1) w20 fun s10 =>
           ldS (ad5.add 1) w20 fun s11 =>
           ldI .i64 (ad4.add 2) w20 fun x12 =>
           ldI .i64 (ad5.add 2) w20 fun x13 =>
           Calls Tryz.prog 43 #[Value.bool (!(b9 == b10)), s10.v, s11.v, Value.int .i64 (IntKind.i64.wrap (x12 - x13)), Value.int .i64 a2_pos, Value.int .i64 a3_mode] w20 fun e4 w27 =>
           ∃ b11 : Bool, ∃ s12 : Slc, ∃ x14 : Int, ∃ x15 : Int, e4 = .returned (Value.tuple #[Value.agg #[Value.bool b11, s12.v, Value.int .i64 x14], Value.int .i64 x15]) ∧
           (stC ad3 (Value.bool b11) w27 fun w28 =>
            stC (ad3.add 1) s12.v w28 fun w29 =>
            stC (ad3.add 2) (Value.int .i64 x14) w29 fun w30 =>
            ldB ad3 w30 fun b12 =>
            ldS (ad3.add 1) w30 fun s13 =>
            ldI .i64 (ad3.add 2) w30 fun x16 =>
            R (.returned (Value.tuple #[Value.agg #[Value.bool b12, s13.v, Value.int .i64 x16], Value.int .i64 x15])) w30))))))))) :
    Calls Tryz.prog 11 #[Value.agg #[Value.bool a0_a_0, a0_a_1.v, Value.int .i64 a0_a_2], Value.agg #[Value.bool a1_b_0, a1_b_1.v, Value.int .i64 a1_b_2], Value.int .i64 a2_pos, Value.int .i64 a3_mode] w R := by
  refine calls_of_vc (fun _ => none) (by kernel_rfl) Tryz.func11 rfl ?_ ?_
  · refine kcast h ?_; kernel_rfl
  · exact (obl_seq rfl (obl_reg (obl_seq rfl (obl_reg (obl_seq rfl (obl_seq rfl (obl_reg (obl_cond (obl_seq rfl (obl_reg (obl_ret (obl_skip (obl_seq rfl (obl_reg (obl_seq rfl (obl_seq rfl (obl_reg (obl_cond (obl_seq rfl (obl_reg (obl_ret (obl_skip (obl_seq rfl (obl_seq rfl (obl_reg (obl_seq rfl (obl_reg (obl_cond (obl_seq rfl (obl_reg (obl_ret (obl_skip (obl_seq rfl (obl_seq rfl (obl_reg (obl_cond (obl_seq rfl (obl_reg (obl_ret (obl_skip (obl_seq rfl (obl_reg (obl_ret trivial)))))))))))))))))))))))))))))))))))))))))))

def rounded_Sqrt_cut (K24 : Int → Int → Addr → Bool → Slc → World → Prop) (K29 : Int → Int → Addr → Slc → Slc → Bool → World → Prop) : Nat → Option ((Act → World → Prop) × (Act → World → Nat))
  | 3000024 => some (fun a_ w_ => atSz a_ 122 (atI .i64 a_ 1 fun t1 => atI .i64 a_ 2 fun t2 => atA a_ 6 fun t6 => atB a_ 12 fun t12 => atS a_ 13 fun t13 => K24 t1 t2 t6 t12 t13 w_), fun _ _ => 0)
  | 3000029 => some (fun a_ w_ => atSz a_ 122 (atI .i64 a_ 1 fun t1 => atI .i64 a_ 2 fun t2 => atA a_ 6 fun t6 => atS a_ 14 fun t14 => atS a_ 16 fun t16 => atB a_ 17 fun t17 => K29 t1 t2 t6 t14 t16 t17 w_), fun _ _ => 0)
  | _ => none

set_option maxRecDepth 100000 in
/-- surd/rounded.Sqrt: function 14. -/
theorem rounded_Sqrt_vc (a0_0 : Bool) (a0_1 : Slc) (a0_2 : Int) (a1 : Int) (a2 : Int) (w : World) (R : Ending → World → Prop)
    (K24 : Int → Int → Addr → Bool → Slc → World → Prop) (K29 : Int → Int → Addr → Slc → Slc → Bool → World → Prop)
    (h : newC w #[Value.bool a0_0, a0_1.v, Value.int .i64 a0_2] 27 fun ad1 w1 =>
    newC w1 #[Value.bool false, (⟨none, 0, 0⟩ : Slc).v, Value.int .i64 0] 27 fun ad2 w2 =>
    ldB ad1 w2 fun b1 =>
    ldS (ad1.add 1) w2 fun s1 =>
    ldI .i64 (ad1.add 2) w2 fun x1 =>
    Calls Tryz.prog 41 #[Value.agg #[Value.bool b1, s1.v, Value.int .i64 x1]] w2 fun e1 w3 =>
    ∃ b2 : Bool, ∃ s2 : Slc, ∃ x2 : Int, ∃ x3 : Int, e1 = .returned (Value.tuple #[Value.agg #[Value.bool b2, s2.v, Value.int .i64 x2], Value.int .i64 x3]) ∧
    (newC w3 #[Value.bool false, (⟨none, 0, 0⟩ : Slc).v, Value.int .i64 0] 72 fun ad3 w4 =>
     stC ad3 (Value.bool b2) w4 fun w5 =>
     stC (ad3.add 1) s2.v w5 fun w6 =>
     stC (ad3.add 2) (Value.int .i64 x2) w6 fun w7 =>
     br (x3 != 0)
     (stC ad2 (Value.bool false) w7 fun w8 =>
      stC (ad2.add 1) ((⟨none, 0, 0⟩ : Slc).v) w8 fun w9 =>
      stC (ad2.add 2) (Value.int .i64 0) w9 fun w10 =>
      ldB ad2 w10 fun b3 =>
      ldS (ad2.add 1) w10 fun s3 =>
      ldI .i64 (ad2.add 2) w10 fun x4 =>
      R (.returned (Value.tuple #[Value.agg #[Value.bool b3, s3.v, Value.int .i64 x4], Value.int .i64 x3])) w10)
     (Calls Tryz.prog 42 #[Value.int .i64 a1, Value.int .i64 a2] w7 fun e2 w11 =>
      ∃ x5 : Int, e2 = .returned (Value.int .i64 x5) ∧
      (br (x5 != 0)
       (stC ad2 (Value.bool false) w11 fun w12 =>
        stC (ad2.add 1) ((⟨none, 0, 0⟩ : Slc).v) w12 fun w13 =>
        stC (ad2.add 2) (Value.int .i64 0) w13 fun w14 =>
        ldB ad2 w14 fun b4 =>
        ldS (ad2.add 1) w14 fun s4 =>
        ldI .i64 (ad2.add 2) w14 fun x6 =>
        R (.returned (Value.tuple #[Value.agg #[Value.bool b4, s4.v, Value.int .i64 x6], Value.int .i64 x5])) w14)
       (ldS (ad3.add 1) w11 fun s5 =>
        br ((s5.n : Int) == 0)
        (stC ad2 (Value.bool false) w11 fun w15 =>
         stC (ad2.add 1) ((⟨none, 0, 0⟩ : Slc).v) w15 fun w16 =>
         stC (ad2.add 2) (Value.int .i64 0) w16 fun w17 =>
         ldB ad2 w17 fun b5 =>
         ldS (ad2.add 1) w17 fun s6 =>
         ldI .i64 (ad2.add 2) w17 fun x7 =>
         R (.returned (Value.tuple #[Value.agg #[Value.bool b5, s6.v, Value.int .i64 x7], Value.int .i64 0])) w17)
        (ldB ad3 w11 fun b6 =>
         br b6
         (stC ad2 (Value.bool false) w11 fun w18 =>
          stC (ad2.add 1) ((⟨none, 0, 0⟩ : Slc).v) w18 fun w19 =>
          stC (ad2.add 2) (Value.int .i64 0) w19 fun w20 =>
          ldB ad2 w20 fun b7 =>
          ldS (ad2.add 1) w20 fun s7 =>
          ldI .i64 (ad2.add 2) w20 fun x8 =>
          R (.returned (Value.tuple #[Value.agg #[Value.bool b7, s7.v, Value.int .i64 x8], Value.int .i64 91])) w20)
         (ldI .i64 (ad3.add 2) w11 fun x9 =>
          ldS (ad3.add 1) w11 fun s8 =>
          Calls Tryz.prog 46 #[s8.v] w11 fun e3 w21 =>
          ∃ x10 : Int, e3 = .returned (Value.int .i64 x10) ∧
          (br (decide ((IntKind.i64.wrap (x10 + (IntKind.i64.wrap (x9 - (IntKind.i64.wrap (2 * a1)))))) > 134217730))
           (stC ad2 (Value.bool false) w21 fun w22 =>
            stC (ad2.add 1) ((⟨none, 0, 0⟩ : Slc).v) w22 fun w23 =>
            stC (ad2.add 2) (Value.int .i64 0) w23 fun w24 =>
            ldB ad2 w24 fun b8 =>
            ldS (ad2.add 1) w24 fun s9 =>
            ldI .i64 (ad2.add 2) w24 fun x11 =>
            R (.returned (Value.tuple #[Value.agg #[Value.bool b8, s9.v, Value.int .i64 x11], Value.int .i64 3])) w24)
           (ldS (ad3.add 1) w21 fun s10 =>
            Calls Tryz.prog 46 #[s10.v] w21 fun e4 w25 =>
            ∃ x12 : Int, e4 = .returned (Value.int .i64 x12) ∧
            (br (decide ((IntKind.i64.wrap (x12 + (IntKind.i64.wrap (x9 - (IntKind.i64.wrap (2 * a1)))))) < (-4)))
             (Calls Tryz.prog 47 #[Value.bool false, (⟨none, 0, 0⟩ : Slc).v, Value.int .i64 1, Value.int .i64 a1, Value.int .i64 a2] w25 fun e5 w26 =>
              ∃ b9 : Bool, ∃ s11 : Slc, ∃ x13 : Int, ∃ x14 : Int, e5 = .returned (Value.tuple #[Value.agg #[Value.bool b9, s11.v, Value.int .i64 x13], Value.int .i64 x14]) ∧
              (stC ad2 (Value.bool b9) w26 fun w27 =>
               stC (ad2.add 1) s11.v w27 fun w28 =>
               stC (ad2.add 2) (Value.int .i64 x13) w28 fun w29 =>
               ldB ad2 w29 fun b10 =>
               ldS (ad2.add 1) w29 fun s12 =>
               ldI .i64 (ad2.add 2) w29 fun x15 =>
               R (.returned (Value.tuple #[Value.agg #[Value.bool b10, s12.v, Value.int .i64 x15], Value.int .i64 x14])) w29))
             (ldS (ad3.add 1) w25 fun s13 =>
              br (decide ((IntKind.i64.wrap ((IntKind.i64.wrap (x9 - (IntKind.i64.wrap (2 * a1)))) + 2)) ≥ 0))
              (Calls Tryz.prog 48 #[s13.v, Value.int .i64 (IntKind.i64.wrap ((IntKind.i64.wrap (x9 - (IntKind.i64.wrap (2 * a1)))) + 2))] w25 fun e6 w30 =>
               ∃ s14 : Slc, e6 = .returned s14.v ∧
               (K24 a1 a2 ad2 false s14 w30))
              (Calls Tryz.prog 49 #[s13.v] w25 fun e19 w67 =>
               ∃ x42 : Int, e19 = .returned (Value.int .i64 x42) ∧
               (Calls Tryz.prog 50 #[s13.v, Value.int .i64 (IntKind.i64.wrap (0 - (IntKind.i64.wrap ((IntKind.i64.wrap (x9 - (IntKind.i64.wrap (2 * a1)))) + 2))))] w67 fun e20 w68 =>
                ∃ s33 : Slc, e20 = .returned s33.v ∧
                (K24 a1 a2 ad2 (decide (x42 < (IntKind.i64.wrap (0 - (IntKind.i64.wrap ((IntKind.i64.wrap (x9 - (IntKind.i64.wrap (2 * a1)))) + 2)))))) s33 w68))))))))))))))
    (h3000024 : ∀ (t1 : Int) (t2 : Int) (t6 : Addr) (t12 : Bool) (t13 : Slc) (w_ : World), K24 t1 t2 t6 t12 t13 w_ → 
    Calls Tryz.prog 51 #[t13.v] w_ fun e7 w31 =>
    ∃ s15 : Slc, ∃ s16 : Slc, ∃ x16 : Int, e7 = .returned (Value.tuple #[s15.v, s16.v, Value.int .i64 x16]) ∧
    (br (x16 != 0)
     (stC t6 (Value.bool false) w31 fun w32 =>
      stC (t6.add 1) ((⟨none, 0, 0⟩ : Slc).v) w32 fun w33 =>
      stC (t6.add 2) (Value.int .i64 0) w33 fun w34 =>
      ldB t6 w34 fun b11 =>
      ldS (t6.add 1) w34 fun s17 =>
      ldI .i64 (t6.add 2) w34 fun x17 =>
      R (.returned (Value.tuple #[Value.agg #[Value.bool b11, s17.v, Value.int .i64 x17], Value.int .i64 x16])) w34)
     (Calls Tryz.prog 50 #[s15.v, Value.int .i64 1] w31 fun e8 w35 =>
      ∃ s18 : Slc, e8 = .returned s18.v ∧
      (br t12
       (K29 t1 t2 t6 s15 s18 true w35)
       (K29 t1 t2 t6 s15 s18 (decide ((s16.n : Int) > 0)) w35)))))
    (h3000029 : ∀ (t1 : Int) (t2 : Int) (t6 : Addr) (t14 : Slc) (t16 : Slc) (t17 : Bool) (w_ : World), K29 t1 t2 t6 t14 t16 t17 w_ → 
    Calls Tryz.prog 52 #[t14.v, Value.int .i64 0] w_ fun e9 w36 =>
    ∃ x18 : Int, e9 = .returned (Value.int .i64 x18) ∧
    (br (x18 == 1)
     (br t17
      (Calls Tryz.prog 47 #[Value.bool false, t16.v, Value.int .i64 3, Value.int .i64 t1, Value.int .i64 t2] w36 fun e10 w37 =>
       ∃ b12 : Bool, ∃ s19 : Slc, ∃ x19 : Int, ∃ x20 : Int, e10 = .returned (Value.tuple #[Value.agg #[Value.bool b12, s19.v, Value.int .i64 x19], Value.int .i64 x20]) ∧
       (stC t6 (Value.bool b12) w37 fun w38 =>
        stC (t6.add 1) s19.v w38 fun w39 =>
        stC (t6.add 2) (Value.int .i64 x19) w39 fun w40 =>
        ldB t6 w40 fun b13 =>
        ldS (t6.add 1) w40 fun s20 =>
        ldI .i64 (t6.add 2) w40 fun x21 =>
        R (.returned (Value.tuple #[Value.agg #[Value.bool b13, s20.v, Value.int .i64 x21], Value.int .i64 x20])) w40))
      (Calls Tryz.prog 52 #[t14.v, Value.int .i64 0] w36 fun e11 w41 =>
       ∃ x22 : Int, e11 = .returned (Value.int .i64 x22) ∧
       (br (x22 == 1)
        (Calls Tryz.prog 47 #[Value.bool false, t16.v, Value.int .i64 2, Value.int .i64 t1, Value.int .i64 t2] w41 fun e12 w42 =>
         ∃ b14 : Bool, ∃ s21 : Slc, ∃ x23 : Int, ∃ x24 : Int, e12 = .returned (Value.tuple #[Value.agg #[Value.bool b14, s21.v, Value.int .i64 x23], Value.int .i64 x24]) ∧
         (stC t6 (Value.bool b14) w42 fun w43 =>
          stC (t6.add 1) s21.v w43 fun w44 =>
          stC (t6.add 2) (Value.int .i64 x23) w44 fun w45 =>
          ldB t6 w45 fun b15 =>
          ldS (t6.add 1) w45 fun s22 =>
          ldI .i64 (t6.add 2) w45 fun x25 =>
          R (.returned (Value.tuple #[Value.agg #[Value.bool b15, s22.v, Value.int .i64 x25], Value.int .i64 x24])) w45))
        (br t17
         (Calls Tryz.prog 47 #[Value.bool false, t16.v, Value.int .i64 1, Value.int .i64 t1, Value.int .i64 t2] w41 fun e13 w46 =>
          ∃ b16 : Bool, ∃ s23 : Slc, ∃ x26 : Int, ∃ x27 : Int, e13 = .returned (Value.tuple #[Value.agg #[Value.bool b16, s23.v, Value.int .i64 x26], Value.int .i64 x27]) ∧
          (stC t6 (Value.bool b16) w46 fun w47 =>
           stC (t6.add 1) s23.v w47 fun w48 =>
           stC (t6.add 2) (Value.int .i64 x26) w48 fun w49 =>
           ldB t6 w49 fun b17 =>
           ldS (t6.add 1) w49 fun s24 =>
           ldI .i64 (t6.add 2) w49 fun x28 =>
           R (.returned (Value.tuple #[Value.agg #[Value.bool b17, s24.v, Value.int .i64 x28], Value.int .i64 x27])) w49))
         (Calls Tryz.prog 47 #[Value.bool false, t16.v, Value.int .i64 0, Value.int .i64 t1, Value.int .i64 t2] w41 fun e14 w50 =>
          ∃ b18 : Bool, ∃ s25 : Slc, ∃ x29 : Int, ∃ x30 : Int, e14 = .returned (Value.tuple #[Value.agg #[Value.bool b18, s25.v, Value.int .i64 x29], Value.int .i64 x30]) ∧
          (stC t6 (Value.bool b18) w50 fun w51 =>
           stC (t6.add 1) s25.v w51 fun w52 =>
           stC (t6.add 2) (Value.int .i64 x29) w52 fun w53 =>
           ldB t6 w53 fun b19 =>
           ldS (t6.add 1) w53 fun s26 =>
           ldI .i64 (t6.add 2) w53 fun x31 =>
           R (.returned (Value.tuple #[Value.agg #[Value.bool b19, s26.v, Value.int .i64 x31], Value.int .i64 x30])) w53))))))
     (Calls Tryz.prog 52 #[t14.v, Value.int .i64 0] w36 fun e15 w54 =>
      ∃ x32 : Int, e15 = .returned (Value.int .i64 x32) ∧
      (br (x32 == 1)
       (Calls Tryz.prog 47 #[Value.bool false, t16.v, Value.int .i64 2, Value.int .i64 t1, Value.int .i64 t2] w54 fun e16 w55 =>
        ∃ b20 : Bool, ∃ s27 : Slc, ∃ x33 : Int, ∃ x34 : Int, e16 = .returned (Value.tuple #[Value.agg #[Value.bool b20, s27.v, Value.int .i64 x33], Value.int .i64 x34]) ∧
        (stC t6 (Value.bool b20) w55 fun w56 =>
         stC (t6.add 1) s27.v w56 fun w57 =>
         stC (t6.add 2) (Value.int .i64 x33) w57 fun w58 =>
         ldB t6 w58 fun b21 =>
         ldS (t6.add 1) w58 fun s28 =>
         ldI .i64 (t6.add 2) w58 fun x35 =>
         R (.returned (Value.tuple #[Value.agg #[Value.bool b21, s28.v, Value.int .i64 x35], Value.int .i64 x34])) w58))
       (br t17
        (Calls Tryz.prog 47 #[Value.bool false, t16.v, Value.int .i64 1, Value.int .i64 t1, Value.int .i64 t2] w54 fun e17 w59 =>
         ∃ b22 : Bool, ∃ s29 : Slc, ∃ x36 : Int, ∃ x37 : Int, e17 = .returned (Value.tuple #[Value.agg #[Value.bool b22, s29.v, Value.int .i64 x36], Value.int .i64 x37]) ∧
         (stC t6 (Value.bool b22) w59 fun w60 =>
          stC (t6.add 1) s29.v w60 fun w61 =>
          stC (t6.add 2) (Value.int .i64 x36) w61 fun w62 =>
          ldB t6 w62 fun b23 =>
          ldS (t6.add 1) w62 fun s30 =>
          ldI .i64 (t6.add 2) w62 fun x38 =>
          R (.returned (Value.tuple #[Value.agg #[Value.bool b23, s30.v, Value.int .i64 x38], Value.int .i64 x37])) w62))
        (Calls Tryz.prog 47 #[Value.bool false, t16.v, Value.int .i64 0, Value.int .i64 t1, Value.int .i64 t2] w54 fun e18 w63 =>
         ∃ b24 : Bool, ∃ s31 : Slc, ∃ x39 : Int, ∃ x40 : Int, e18 = .returned (Value.tuple #[Value.agg #[Value.bool b24, s31.v, Value.int .i64 x39], Value.int .i64 x40]) ∧
         (stC t6 (Value.bool b24) w63 fun w64 =>
          stC (t6.add 1) s31.v w64 fun w65 =>
          stC (t6.add 2) (Value.int .i64 x39) w65 fun w66 =>
          ldB t6 w66 fun b25 =>
          ldS (t6.add 1) w66 fun s32 =>
          ldI .i64 (t6.add 2) w66 fun x41 =>
          R (.returned (Value.tuple #[Value.agg #[Value.bool b25, s32.v, Value.int .i64 x41], Value.int .i64 x40])) w66))))))) :
    Calls Tryz.prog 14 #[Value.agg #[Value.bool a0_0, a0_1.v, Value.int .i64 a0_2], Value.int .i64 a1, Value.int .i64 a2] w R := by
  refine calls_of_vc (rounded_Sqrt_cut K24 K29) (by kernel_rfl) Tryz.func14 rfl ?_ ?_
  · refine kcast h ?_; kernel_rfl
  · exact (obl_seq rfl (obl_reg (obl_seq rfl (obl_reg (obl_seq rfl (obl_seq rfl (obl_reg (obl_cond (obl_seq rfl (obl_reg (obl_ret (obl_skip (obl_seq rfl (obl_seq rfl (obl_reg (obl_seq rfl (obl_reg (obl_cond (obl_seq rfl (obl_reg (obl_ret (obl_skip (obl_seq rfl (obl_seq rfl (obl_reg (obl_cond (obl_seq rfl (obl_reg (obl_ret (obl_skip (obl_seq rfl (obl_seq rfl (obl_reg (obl_cond (obl_seq rfl (obl_reg (obl_ret (obl_skip (obl_seq rfl (obl_reg (obl_seq rfl (obl_seq rfl (obl_reg (obl_cond (obl_seq rfl (obl_reg (obl_ret (obl_skip (obl_seq rfl (obl_seq rfl (obl_reg (obl_cond (obl_seq rfl (obl_reg (obl_ret (obl_skip (obl_seq rfl (obl_reg (obl_seq rfl (obl_reg (obl_seq rfl (obl_reg (obl_join _ rfl (obl_seq rfl (obl_reg (obl_cond (obl_reg (obl_seq rfl (obl_reg (obl_reg trivial))))))) (fun a_ w_ hL_ => (by
    obtain ⟨hz_, hd_, hL_⟩ := atSz_out hL_
    obtain ⟨t1, h1_, hL_⟩ := atI_out hL_
    obtain ⟨t2, h2_, hL_⟩ := atI_out hL_
    obtain ⟨t6, h6_, hL_⟩ := atA_out hL_
    obtain ⟨t12, h12_, hL_⟩ := atB_out hL_
    obtain ⟨t13, h13_, hL_⟩ := atS_out hL_
    obtain ⟨g3000024, rfl⟩ : ∃ g, a_ = Fr 122 [(1, Value.int .i64 t1), (2, Value.int .i64 t2), (6, Value.pointer (some t6)), (12, Value.bool t12), (13, t13.v)] g := ⟨_, fr_of hz_ hd_ [(1, Value.int .i64 t1), (2, Value.int .i64 t2), (6, Value.pointer (some t6)), (12, Value.bool t12), (13, t13.v)] (sel_cons h1_ (sel_cons h2_ (sel_cons h6_ (sel_cons h12_ (sel_cons h13_ sel_nil)))))⟩
    clear hz_ hd_ h1_ h2_ h6_ h12_ h13_
    have hJ3000024_ := hL_
    refine ⟨(rounded_Sqrt_cut K24 K29), kcast (h3000024 t1 t2 t6 t12 t13 w_ hJ3000024_) ?_, ?_⟩
    · kernel_rfl
    · exact (obl_seq rfl (obl_reg (obl_seq rfl (obl_seq rfl (obl_reg (obl_cond (obl_seq rfl (obl_reg (obl_ret (obl_skip (obl_seq rfl (obl_reg (obl_join _ rfl (obl_reg trivial) (fun a_ w_ hL_ => (by
      obtain ⟨hz_, hd_, hL_⟩ := atSz_out hL_
      obtain ⟨t1, h1_, hL_⟩ := atI_out hL_
      obtain ⟨t2, h2_, hL_⟩ := atI_out hL_
      obtain ⟨t6, h6_, hL_⟩ := atA_out hL_
      obtain ⟨t14, h14_, hL_⟩ := atS_out hL_
      obtain ⟨t16, h16_, hL_⟩ := atS_out hL_
      obtain ⟨t17, h17_, hL_⟩ := atB_out hL_
      obtain ⟨g3000029, rfl⟩ : ∃ g, a_ = Fr 122 [(1, Value.int .i64 t1), (2, Value.int .i64 t2), (6, Value.pointer (some t6)), (14, t14.v), (16, t16.v), (17, Value.bool t17)] g := ⟨_, fr_of hz_ hd_ [(1, Value.int .i64 t1), (2, Value.int .i64 t2), (6, Value.pointer (some t6)), (14, t14.v), (16, t16.v), (17, Value.bool t17)] (sel_cons h1_ (sel_cons h2_ (sel_cons h6_ (sel_cons h14_ (sel_cons h16_ (sel_cons h17_ sel_nil))))))⟩
      clear hz_ hd_ h1_ h2_ h6_ h14_ h16_ h17_
      have hJ3000029_ := hL_
      refine ⟨(rounded_Sqrt_cut K24 K29), kcast (h3000029 t1 t2 t6 t14 t16 t17 w_ hJ3000029_) ?_, ?_⟩
      · kernel_rfl
      · exact (obl_seq rfl (obl_reg (obl_seq rfl (obl_blk rfl (obl_seq rfl (obl_reg (obl_cond (obl_reg (obl_seq rfl (obl_reg (obl_cond (obl_reg (obl_seq rfl (obl_reg (obl_cond (obl_reg (obl_skip (obl_seq rfl (obl_reg (obl_ret trivial))))))))))))))))))))))))))))))))))))))))))))))))))))))))))))))))))))))))))))))))))))))))))))))))))))

set_option maxRecDepth 100000 in
/-- surd/rounded.read: function 41. -/
theorem rounded_read_vc (a0_d_0 : Bool) (a0_d_1 : Slc) (a0_d_2 : Int) (w : World) (R : Ending → World → Prop)
    
    (h : newC w #[Value.bool a0_d_0, a0_d_1.v, Value.int .i64 a0_d_2] 27 fun ad1 w1 =>
    newC w1 #[Value.bool false, (⟨none, 0, 0⟩ : Slc).v, Value.int .i64 0] 72 fun ad2 w2 =>
    ldI .i64 (ad1.add 2) w2 fun x1 =>
    br (decide (x1 < (-1099511627776)))
    (stC ad2 (Value.bool false) w2 fun w3 =>
     stC (ad2.add 1) ((⟨none, 0, 0⟩ : Slc).v) w3 fun w4 =>
     stC (ad2.add 2) (Value.int .i64 0) w4 fun w5 =>
     ldB ad2 w5 fun b1 =>
     ldS (ad2.add 1) w5 fun s1 =>
     ldI .i64 (ad2.add 2) w5 fun x2 =>
     R (.returned (Value.tuple #[Value.agg #[Value.bool b1, s1.v, Value.int .i64 x2], Value.int .i64 80])) w5)
    (ldI .i64 (ad1.add 2) w2 fun x3 =>
     br (decide (x3 > 1099511627776))
     (stC ad2 (Value.bool false) w2 fun w6 =>
      stC (ad2.add 1) ((⟨none, 0, 0⟩ : Slc).v) w6 fun w7 =>
      stC (ad2.add 2) (Value.int .i64 0) w7 fun w8 =>
      ldB ad2 w8 fun b2 =>
      ldS (ad2.add 1) w8 fun s2 =>
      ldI .i64 (ad2.add 2) w8 fun x4 =>
      R (.returned (Value.tuple #[Value.agg #[Value.bool b2, s2.v, Value.int .i64 x4], Value.int .i64 80])) w8)
     (ldS (ad1.add 1) w2 fun s3 =>
      Calls Tryz.prog 85 #[s3.v] w2 fun e1 w9 =>
      ∃ s4 : Slc, e1 = .returned s4.v ∧
      (br ((s4.n : Int) == 0)
       (stC ad2 (Value.bool false) w9 fun w10 =>
        stC (ad2.add 1) ((⟨none, 0, 0⟩ : Slc).v) w10 fun w11 =>
        stC (ad2.add 2) (Value.int .i64 0) w11 fun w12 =>
        ldB ad2 w12 fun b3 =>
        ldS (ad2.add 1) w12 fun s5 =>
        ldI .i64 (ad2.add 2) w12 fun x5 =>
        R (.returned (Value.tuple #[Value.agg #[Value.bool b3, s5.v, Value.int .i64 x5], Value.int .i64 0])) w12)
       (Calls Tryz.prog 49 #[s4.v] w9 fun e2 w13 =>
        ∃ x6 : Int, e2 = .returned (Value.int .i64 x6) ∧
        (ldB ad1 w13.drew fun b4 =>
         ldI .i64 (ad1.add 2) w13.drew fun x7 =>
         Calls Tryz.prog 50 #[s4.v, Value.int .i64 x6] w13.drew fun e3 w14 =>
         ∃ s6 : Slc, e3 = .returned s6.v ∧
         (Ahead w13.drew w14 ∧
          (stC ad2 (Value.bool b4) w14 fun w15 =>
           stC (ad2.add 1) s6.v w15 fun w16 =>
           stC (ad2.add 2) (Value.int .i64 (IntKind.i64.wrap (x7 + x6))) w16 fun w17 =>
           ldB ad2 w17 fun b5 =>
           ldS (ad2.add 1) w17 fun s7 =>
           ldI .i64 (ad2.add 2) w17 fun x8 =>
           R (.returned (Value.tuple #[Value.agg #[Value.bool b5, s7.v, Value.int .i64 x8], Value.int .i64 0])) w17)))))))) :
    Calls Tryz.prog 41 #[Value.agg #[Value.bool a0_d_0, a0_d_1.v, Value.int .i64 a0_d_2]] w R := by
  refine calls_of_vc (fun _ => none) (by kernel_rfl) Tryz.func41 rfl ?_ ?_
  · refine kcast h ?_; kernel_rfl
  · exact (obl_seq rfl (obl_reg (obl_seq rfl (obl_seq rfl (obl_reg (obl_cond (obl_seq rfl (obl_reg (obl_ret (obl_skip (obl_seq rfl (obl_reg (obl_seq rfl (obl_seq rfl (obl_reg (obl_cond (obl_seq rfl (obl_reg (obl_ret (obl_skip (obl_seq rfl (obl_reg (obl_seq rfl (obl_held (by kernel_rfl) (by kernel_rfl) (by kernel_rfl) (obl_ret trivial)))))))))))))))))))))))))

set_option maxRecDepth 100000 in
/-- surd/rounded.asked: function 42. -/
theorem rounded_asked_vc (a0_pos : Int) (a1_m : Int) (w : World) (R : Ending → World → Prop)
    
    (h : br (decide (a0_pos < (-1099511627776)))
    (R (.returned (Value.int .i64 1)) w)
    (br (decide (a0_pos > 1099511627776))
     (R (.returned (Value.int .i64 1)) w)
     (br (decide (a1_m < 0))
      (R (.returned (Value.int .i64 81)) w)
      (br (decide (a1_m > 2))
       (R (.returned (Value.int .i64 81)) w)
       (R (.returned (Value.int .i64 0)) w))))) :
    Calls Tryz.prog 42 #[Value.int .i64 a0_pos, Value.int .i64 a1_m] w R := by
  refine calls_of_vc (fun _ => none) (by kernel_rfl) Tryz.func42 rfl ?_ ?_
  · refine kcast h ?_; kernel_rfl
  · exact (obl_seq rfl (obl_reg (obl_seq rfl (obl_blk rfl (obl_seq rfl (obl_reg (obl_cond (obl_seq rfl (obl_reg (obl_ret (obl_seq rfl (obl_reg (obl_cond (obl_seq rfl (obl_reg (obl_ret (obl_skip (obl_seq rfl (obl_reg (obl_ret trivial))))))))))))))))))))

def rounded_quotient_cut (K15 : Bool → Slc → Slc → Int → Int → Addr → World → Prop) : Nat → Option ((Act → World → Prop) × (Act → World → Nat))
  | 3000015 => some (fun a_ w_ => atSz a_ 106 (atB a_ 0 fun t0 => atS a_ 1 fun t1 => atS a_ 2 fun t2 => atI .i64 a_ 4 fun t4 => atI .i64 a_ 5 fun t5 => atA a_ 12 fun t12 => K15 t0 t1 t2 t4 t5 t12 w_), fun _ _ => 0)
  | _ => none

set_option maxRecDepth 100000 in
/-- surd/rounded.quotient: function 43. -/
theorem rounded_quotient_vc (a0 : Bool) (a1 : Slc) (a2 : Slc) (a3 : Int) (a4 : Int) (a5 : Int) (w : World) (R : Ending → World → Prop)
    (K15 : Bool → Slc → Slc → Int → Int → Addr → World → Prop)
    (h : newC w #[Value.bool false, (⟨none, 0, 0⟩ : Slc).v, Value.int .i64 0] 27 fun ad1 w1 =>
    br ((a1.n : Int) == 0)
    (stC ad1 (Value.bool false) w1 fun w2 =>
     stC (ad1.add 1) ((⟨none, 0, 0⟩ : Slc).v) w2 fun w3 =>
     stC (ad1.add 2) (Value.int .i64 0) w3 fun w4 =>
     ldB ad1 w4 fun b1 =>
     ldS (ad1.add 1) w4 fun s1 =>
     ldI .i64 (ad1.add 2) w4 fun x1 =>
     R (.returned (Value.tuple #[Value.agg #[Value.bool b1, s1.v, Value.int .i64 x1], Value.int .i64 0])) w4)
    (Calls Tryz.prog 46 #[a1.v] w1 fun e1 w5 =>
     ∃ x2 : Int, e1 = .returned (Value.int .i64 x2) ∧
     (Calls Tryz.prog 46 #[a2.v] w5 fun e2 w6 =>
      ∃ x3 : Int, e2 = .returned (Value.int .i64 x3) ∧
      (br (decide ((IntKind.i64.wrap ((IntKind.i64.wrap (x2 - x3)) + (IntKind.i64.wrap (a3 - a4)))) > 67108865))
       (stC ad1 (Value.bool false) w6 fun w7 =>
        stC (ad1.add 1) ((⟨none, 0, 0⟩ : Slc).v) w7 fun w8 =>
        stC (ad1.add 2) (Value.int .i64 0) w8 fun w9 =>
        ldB ad1 w9 fun b2 =>
        ldS (ad1.add 1) w9 fun s2 =>
        ldI .i64 (ad1.add 2) w9 fun x4 =>
        R (.returned (Value.tuple #[Value.agg #[Value.bool b2, s2.v, Value.int .i64 x4], Value.int .i64 3])) w9)
       (br (decide ((IntKind.i64.wrap ((IntKind.i64.wrap (x2 - x3)) + (IntKind.i64.wrap (a3 - a4)))) < (-2)))
        (Calls Tryz.prog 47 #[Value.bool a0, (⟨none, 0, 0⟩ : Slc).v, Value.int .i64 1, Value.int .i64 a4, Value.int .i64 a5] w6 fun e3 w10 =>
         ∃ b3 : Bool, ∃ s3 : Slc, ∃ x5 : Int, ∃ x6 : Int, e3 = .returned (Value.tuple #[Value.agg #[Value.bool b3, s3.v, Value.int .i64 x5], Value.int .i64 x6]) ∧
         (stC ad1 (Value.bool b3) w10 fun w11 =>
          stC (ad1.add 1) s3.v w11 fun w12 =>
          stC (ad1.add 2) (Value.int .i64 x5) w12 fun w13 =>
          ldB ad1 w13 fun b4 =>
          ldS (ad1.add 1) w13 fun s4 =>
          ldI .i64 (ad1.add 2) w13 fun x7 =>
          R (.returned (Value.tuple #[Value.agg #[Value.bool b4, s4.v, Value.int .i64 x7], Value.int .i64 x6])) w13))
        (br (decide ((IntKind.i64.wrap (a3 - a4)) ≥ 0))
         (Calls Tryz.prog 49 #[a2.v] w6 fun e4 w14 =>
          ∃ x8 : Int, e4 = .returned (Value.int .i64 x8) ∧
          (Calls Tryz.prog 48 #[a1.v, Value.int .i64 (IntKind.i64.wrap ((IntKind.i64.wrap (a3 - a4)) - (minI (IntKind.i64.wrap (a3 - a4)) x8)))] w14 fun e5 w15 =>
           ∃ s5 : Slc, e5 = .returned s5.v ∧
           (Calls Tryz.prog 50 #[a2.v, Value.int .i64 (minI (IntKind.i64.wrap (a3 - a4)) x8)] w15 fun e6 w16 =>
            ∃ s6 : Slc, e6 = .returned s6.v ∧
            (K15 a0 s5 s6 a4 a5 ad1 w16))))
         (Calls Tryz.prog 49 #[a1.v] w6 fun e14 w33 =>
          ∃ x18 : Int, e14 = .returned (Value.int .i64 x18) ∧
          (Calls Tryz.prog 50 #[a1.v, Value.int .i64 (minI (IntKind.i64.wrap (0 - (IntKind.i64.wrap (a3 - a4)))) x18)] w33 fun e15 w34 =>
           ∃ s16 : Slc, e15 = .returned s16.v ∧
           (Calls Tryz.prog 48 #[a2.v, Value.int .i64 (IntKind.i64.wrap ((IntKind.i64.wrap (0 - (IntKind.i64.wrap (a3 - a4)))) - (minI (IntKind.i64.wrap (0 - (IntKind.i64.wrap (a3 - a4)))) x18)))] w34 fun e16 w35 =>
            ∃ s17 : Slc, e16 = .returned s17.v ∧
            (K15 a0 s16 s17 a4 a5 ad1 w35))))))))))
    (h3000015 : ∀ (t0 : Bool) (t1 : Slc) (t2 : Slc) (t4 : Int) (t5 : Int) (t12 : Addr) (w_ : World), K15 t0 t1 t2 t4 t5 t12 w_ → 
    Calls Tryz.prog 86 #[t1.v, t2.v] w_ fun e7 w17 =>
    ∃ s7 : Slc, ∃ x9 : Int, e7 = .returned (Value.tuple #[s7.v, Value.int .i64 x9]) ∧
    (br (x9 != 0)
     (stC t12 (Value.bool false) w17 fun w18 =>
      stC (t12.add 1) ((⟨none, 0, 0⟩ : Slc).v) w18 fun w19 =>
      stC (t12.add 2) (Value.int .i64 0) w19 fun w20 =>
      ldB t12 w20 fun b5 =>
      ldS (t12.add 1) w20 fun s8 =>
      ldI .i64 (t12.add 2) w20 fun x10 =>
      R (.returned (Value.tuple #[Value.agg #[Value.bool b5, s8.v, Value.int .i64 x10], Value.int .i64 x9])) w20)
     (Calls Tryz.prog 88 #[s7.v, t2.v] w17 fun e8 w21 =>
      ∃ s9 : Slc, e8 = .returned s9.v ∧
      (Calls Tryz.prog 87 #[t1.v, s9.v] w21 fun e9 w22 =>
       ∃ s10 : Slc, e9 = .returned s10.v ∧
       (br (decide ((s10.n : Int) > 0))
        (Calls Tryz.prog 48 #[s10.v, Value.int .i64 1] w22 fun e10 w23 =>
         ∃ s11 : Slc, e10 = .returned s11.v ∧
         (Calls Tryz.prog 81 #[s11.v, t2.v] w23 fun e11 w24 =>
          ∃ x11 : Int, e11 = .returned (Value.int .i64 x11) ∧
          (Calls Tryz.prog 47 #[Value.bool t0, s7.v, Value.int .i64 (IntKind.i64.wrap (2 + x11)), Value.int .i64 t4, Value.int .i64 t5] w24 fun e12 w25 =>
           ∃ b6 : Bool, ∃ s12 : Slc, ∃ x12 : Int, ∃ x13 : Int, e12 = .returned (Value.tuple #[Value.agg #[Value.bool b6, s12.v, Value.int .i64 x12], Value.int .i64 x13]) ∧
           (stC t12 (Value.bool b6) w25 fun w26 =>
            stC (t12.add 1) s12.v w26 fun w27 =>
            stC (t12.add 2) (Value.int .i64 x12) w27 fun w28 =>
            ldB t12 w28 fun b7 =>
            ldS (t12.add 1) w28 fun s13 =>
            ldI .i64 (t12.add 2) w28 fun x14 =>
            R (.returned (Value.tuple #[Value.agg #[Value.bool b7, s13.v, Value.int .i64 x14], Value.int .i64 x13])) w28))))
        (Calls Tryz.prog 47 #[Value.bool t0, s7.v, Value.int .i64 0, Value.int .i64 t4, Value.int .i64 t5] w22 fun e13 w29 =>
         ∃ b8 : Bool, ∃ s14 : Slc, ∃ x15 : Int, ∃ x16 : Int, e13 = .returned (Value.tuple #[Value.agg #[Value.bool b8, s14.v, Value.int .i64 x15], Value.int .i64 x16]) ∧
         (stC t12 (Value.bool b8) w29 fun w30 =>
          stC (t12.add 1) s14.v w30 fun w31 =>
          stC (t12.add 2) (Value.int .i64 x15) w31 fun w32 =>
          ldB t12 w32 fun b9 =>
          ldS (t12.add 1) w32 fun s15 =>
          ldI .i64 (t12.add 2) w32 fun x17 =>
          R (.returned (Value.tuple #[Value.agg #[Value.bool b9, s15.v, Value.int .i64 x17], Value.int .i64 x16])) w32))))))) :
    Calls Tryz.prog 43 #[Value.bool a0, a1.v, a2.v, Value.int .i64 a3, Value.int .i64 a4, Value.int .i64 a5] w R := by
  refine calls_of_vc (rounded_quotient_cut K15) (by kernel_rfl) Tryz.func43 rfl ?_ ?_
  · refine kcast h ?_; kernel_rfl
  · exact (obl_seq rfl (obl_reg (obl_seq rfl (obl_seq rfl (obl_reg (obl_cond (obl_seq rfl (obl_reg (obl_ret (obl_skip (obl_seq rfl (obl_reg (obl_seq rfl (obl_reg (obl_seq rfl (obl_seq rfl (obl_reg (obl_cond (obl_seq rfl (obl_reg (obl_ret (obl_skip (obl_seq rfl (obl_seq rfl (obl_reg (obl_cond (obl_seq rfl (obl_reg (obl_ret (obl_skip (obl_join _ rfl (obl_seq rfl (obl_reg (obl_cond (obl_seq rfl (obl_reg (obl_reg (obl_seq rfl (obl_reg (obl_reg trivial))))))))) (fun a_ w_ hL_ => (by
    obtain ⟨hz_, hd_, hL_⟩ := atSz_out hL_
    obtain ⟨t0, h0_, hL_⟩ := atB_out hL_
    obtain ⟨t1, h1_, hL_⟩ := atS_out hL_
    obtain ⟨t2, h2_, hL_⟩ := atS_out hL_
    obtain ⟨t4, h4_, hL_⟩ := atI_out hL_
    obtain ⟨t5, h5_, hL_⟩ := atI_out hL_
    obtain ⟨t12, h12_, hL_⟩ := atA_out hL_
    obtain ⟨g3000015, rfl⟩ : ∃ g, a_ = Fr 106 [(0, Value.bool t0), (1, t1.v), (2, t2.v), (4, Value.int .i64 t4), (5, Value.int .i64 t5), (12, Value.pointer (some t12))] g := ⟨_, fr_of hz_ hd_ [(0, Value.bool t0), (1, t1.v), (2, t2.v), (4, Value.int .i64 t4), (5, Value.int .i64 t5), (12, Value.pointer (some t12))] (sel_cons h0_ (sel_cons h1_ (sel_cons h2_ (sel_cons h4_ (sel_cons h5_ (sel_cons h12_ sel_nil))))))⟩
    clear hz_ hd_ h0_ h1_ h2_ h4_ h5_ h12_
    have hJ3000015_ := hL_
    refine ⟨(rounded_quotient_cut K15), kcast (h3000015 t0 t1 t2 t4 t5 t12 w_ hJ3000015_) ?_, ?_⟩
    · kernel_rfl
    · exact (obl_seq rfl (obl_reg (obl_seq rfl (obl_seq rfl (obl_reg (obl_cond (obl_seq rfl (obl_reg (obl_ret (obl_skip (obl_seq rfl (obl_reg (obl_seq rfl (obl_reg (obl_seq rfl (obl_seq rfl (obl_reg (obl_cond (obl_reg (obl_skip (obl_seq rfl (obl_reg (obl_ret trivial))))))))))))))))))))))))))))))))))))))))))))))))))))))))

def rounded_finish_cut (K7 : Bool → Slc → Int → Addr → World → Prop) : Nat → Option ((Act → World → Prop) × (Act → World → Nat))
  | 3000007 => some (fun a_ w_ => atSz a_ 54 (atB a_ 0 fun t0_neg => atS a_ 1 fun t1_q => atI .i64 a_ 3 fun t3_pos => atA a_ 10 fun t10 => K7 t0_neg t1_q t3_pos t10 w_), fun _ _ => 0)
  | _ => none

set_option maxRecDepth 100000 in
/-- surd/rounded.finish: function 47. -/
theorem rounded_finish_vc (a0_neg : Bool) (a1_q : Slc) (a2_behind : Int) (a3_pos : Int) (a4_m : Int) (w : World) (R : Ending → World → Prop)
    (K7 : Bool → Slc → Int → Addr → World → Prop)
    (h : newC w #[Value.bool false, (⟨none, 0, 0⟩ : Slc).v, Value.int .i64 0] 27 fun ad1 w1 =>
    Calls Tryz.prog 93 #[Value.int .i64 a4_m] w1 fun e1 w2 =>
    ∃ v1 : Value, e1 = .returned v1 ∧
    (callX Tryz.prog v1 #[Value.bool a0_neg, a1_q.v, Value.int .i64 a2_behind] w2 fun e2 w3 =>
     ∃ b1 : Bool, e2 = .returned (Value.bool b1) ∧
     (br b1
      (Calls Tryz.prog 84 #[Value.int .u64 1] w3 fun e3 w4 =>
       ∃ s1 : Slc, e3 = .returned s1.v ∧
       (Calls Tryz.prog 94 #[a1_q.v, s1.v] w4 fun e4 w5 =>
        ∃ s2 : Slc, ∃ x1 : Int, e4 = .returned (Value.tuple #[s2.v, Value.int .i64 x1]) ∧
        (br (x1 != 0)
         (stC ad1 (Value.bool false) w5 fun w6 =>
          stC (ad1.add 1) ((⟨none, 0, 0⟩ : Slc).v) w6 fun w7 =>
          stC (ad1.add 2) (Value.int .i64 0) w7 fun w8 =>
          ldB ad1 w8 fun b2 =>
          ldS (ad1.add 1) w8 fun s3 =>
          ldI .i64 (ad1.add 2) w8 fun x2 =>
          R (.returned (Value.tuple #[Value.agg #[Value.bool b2, s3.v, Value.int .i64 x2], Value.int .i64 x1])) w8)
         (K7 a0_neg s2 a3_pos ad1 w5))))
      (K7 a0_neg a1_q a3_pos ad1 w3))))
    (h3000007 : ∀ (t0_neg : Bool) (t1_q : Slc) (t3_pos : Int) (t10 : Addr) (w_ : World), K7 t0_neg t1_q t3_pos t10 w_ → 
    Calls Tryz.prog 46 #[t1_q.v] w_ fun e5 w9 =>
    ∃ x3 : Int, e5 = .returned (Value.int .i64 x3) ∧
    (br (decide (x3 > 67108864))
     (stC t10 (Value.bool false) w9 fun w10 =>
      stC (t10.add 1) ((⟨none, 0, 0⟩ : Slc).v) w10 fun w11 =>
      stC (t10.add 2) (Value.int .i64 0) w11 fun w12 =>
      ldB t10 w12 fun b3 =>
      ldS (t10.add 1) w12 fun s4 =>
      ldI .i64 (t10.add 2) w12 fun x4 =>
      R (.returned (Value.tuple #[Value.agg #[Value.bool b3, s4.v, Value.int .i64 x4], Value.int .i64 3])) w12)
     (br ((t1_q.n : Int) == 0)
      (stC t10 (Value.bool false) w9 fun w13 =>
       stC (t10.add 1) ((⟨none, 0, 0⟩ : Slc).v) w13 fun w14 =>
       stC (t10.add 2) (Value.int .i64 0) w14 fun w15 =>
       ldB t10 w15 fun b4 =>
       ldS (t10.add 1) w15 fun s5 =>
       ldI .i64 (t10.add 2) w15 fun x5 =>
       R (.returned (Value.tuple #[Value.agg #[Value.bool b4, s5.v, Value.int .i64 x5], Value.int .i64 0])) w15)
      (Calls Tryz.prog 49 #[t1_q.v] w9 fun e6 w16 =>
       ∃ x6 : Int, e6 = .returned (Value.int .i64 x6) ∧
       (br (decide ((IntKind.i64.wrap (t3_pos + x6)) > 1099511627776))
        (stC t10 (Value.bool false) w16 fun w17 =>
         stC (t10.add 1) ((⟨none, 0, 0⟩ : Slc).v) w17 fun w18 =>
         stC (t10.add 2) (Value.int .i64 0) w18 fun w19 =>
         ldB t10 w19 fun b5 =>
         ldS (t10.add 1) w19 fun s6 =>
         ldI .i64 (t10.add 2) w19 fun x7 =>
         R (.returned (Value.tuple #[Value.agg #[Value.bool b5, s6.v, Value.int .i64 x7], Value.int .i64 80])) w19)
        (Calls Tryz.prog 50 #[t1_q.v, Value.int .i64 x6] w16 fun e7 w20 =>
         ∃ s7 : Slc, e7 = .returned s7.v ∧
         (stC t10 (Value.bool t0_neg) w20 fun w21 =>
          stC (t10.add 1) s7.v w21 fun w22 =>
          stC (t10.add 2) (Value.int .i64 (IntKind.i64.wrap (t3_pos + x6))) w22 fun w23 =>
          ldB t10 w23 fun b6 =>
          ldS (t10.add 1) w23 fun s8 =>
          ldI .i64 (t10.add 2) w23 fun x8 =>
          R (.returned (Value.tuple #[Value.agg #[Value.bool b6, s8.v, Value.int .i64 x8], Value.int .i64 0])) w23))))))) :
    Calls Tryz.prog 47 #[Value.bool a0_neg, a1_q.v, Value.int .i64 a2_behind, Value.int .i64 a3_pos, Value.int .i64 a4_m] w R := by
  refine calls_of_vc (rounded_finish_cut K7) (by kernel_rfl) Tryz.func47 rfl ?_ ?_
  · refine kcast h ?_; kernel_rfl
  · exact (obl_seq rfl (obl_reg (obl_join _ rfl (obl_seq rfl (obl_reg (obl_cond (obl_seq rfl (obl_reg (obl_seq rfl (obl_reg (obl_seq rfl (obl_reg (obl_cond (obl_seq rfl (obl_reg (obl_ret (obl_skip (obl_skip trivial))))))))))))))) (fun a_ w_ hL_ => (by
    obtain ⟨hz_, hd_, hL_⟩ := atSz_out hL_
    obtain ⟨t0_neg, h0_, hL_⟩ := atB_out hL_
    obtain ⟨t1_q, h1_, hL_⟩ := atS_out hL_
    obtain ⟨t3_pos, h3_, hL_⟩ := atI_out hL_
    obtain ⟨t10, h10_, hL_⟩ := atA_out hL_
    obtain ⟨g3000007, rfl⟩ : ∃ g, a_ = Fr 54 [(0, Value.bool t0_neg), (1, t1_q.v), (3, Value.int .i64 t3_pos), (10, Value.pointer (some t10))] g := ⟨_, fr_of hz_ hd_ [(0, Value.bool t0_neg), (1, t1_q.v), (3, Value.int .i64 t3_pos), (10, Value.pointer (some t10))] (sel_cons h0_ (sel_cons h1_ (sel_cons h3_ (sel_cons h10_ sel_nil))))⟩
    clear hz_ hd_ h0_ h1_ h3_ h10_
    have hJ3000007_ := hL_
    refine ⟨(rounded_finish_cut K7), kcast (h3000007 t0_neg t1_q t3_pos t10 w_ hJ3000007_) ?_, ?_⟩
    · kernel_rfl
    · exact (obl_seq rfl (obl_seq rfl (obl_reg (obl_cond (obl_seq rfl (obl_reg (obl_ret (obl_skip (obl_seq rfl (obl_seq rfl (obl_reg (obl_cond (obl_seq rfl (obl_reg (obl_ret (obl_skip (obl_seq rfl (obl_reg (obl_seq rfl (obl_seq rfl (obl_reg (obl_cond (obl_seq rfl (obl_reg (obl_ret (obl_skip (obl_seq rfl (obl_reg (obl_ret trivial))))))))))))))))))))))))))))))))))

def rounded_left_cut (J0 : Int → Slc → Slc → Int → Int → World → Prop) (m0 : Int → Slc → Slc → Int → Int → World → Nat) : Nat → Option ((Act → World → Prop) × (Act → World → Nat))
  | 0 => some (fun a_ w_ => atSz a_ 59 (atI .i64 a_ 1 fun t1_n => atS a_ 5 fun t5_c => atS a_ 18 fun t18 => atI .i64 a_ 19 fun t19 => atI .i64 a_ 20 fun t20 => J0 t1_n t5_c t18 t19 t20 w_), fun a_ w_ => mI a_ 1 fun t1_n => mS a_ 5 fun t5_c => mS a_ 18 fun t18 => mI a_ 19 fun t19 => mI a_ 20 fun t20 => m0 t1_n t5_c t18 t19 t20 w_)
  | _ => none

set_option maxRecDepth 100000 in
/-- surd/rounded.left: function 48. -/
theorem rounded_left_vc (a0_a : Slc) (a1_n : Int) (w : World) (R : Ending → World → Prop)
    (J0 : Int → Slc → Slc → Int → Int → World → Prop) (m0 : Int → Slc → Slc → Int → Int → World → Nat)
    (h : br ((a0_a.n : Int) == 0)
    (R (.returned ((⟨none, 0, 0⟩ : Slc).v)) w)
    (semS Tryz.prog (Instr.makeSlice 23 (Value.int .i64 (IntKind.i64.wrap ((IntKind.i64.wrap ((IntKind.i64.wrap (Int.tdiv a1_n 64)) + (a0_a.n : Int))) + 1))) (Value.int .i64 (IntKind.i64.wrap ((IntKind.i64.wrap ((IntKind.i64.wrap (Int.tdiv a1_n 64)) + (a0_a.n : Int))) + 1)))) w fun s1 w1 =>
     J0 a1_n s1 a0_a (a0_a.n : Int) 0 w1))
    (h0 : ∀ (t1_n : Int) (t5_c : Slc) (t18 : Slc) (t19 : Int) (t20 : Int) (w_ : World), J0 t1_n t5_c t18 t19 t20 w_ → 
    br (decide (t20 < t19))
    (semA Tryz.prog (Instr.indexAt 23 t18.v (Value.int .i64 t20)) w_ fun ad1 w2 =>
     ldI .u64 ad1 w2 fun x1 =>
     semA Tryz.prog (Instr.indexAt 23 t5_c.v (Value.int .i64 (IntKind.i64.wrap ((IntKind.i64.wrap (Int.tdiv t1_n 64)) + t20)))) w2 fun ad2 w3 =>
     ldI .u64 ad2 w3 fun x2 =>
     semI Tryz.prog .u64 (binOp .shl 65 (Value.int .u64 x1) (Value.int .u64 (IntKind.u64.wrap (Int.tmod t1_n 64)))) w3 fun x3 w4 =>
     semA Tryz.prog (Instr.indexAt 23 t5_c.v (Value.int .i64 (IntKind.i64.wrap ((IntKind.i64.wrap (Int.tdiv t1_n 64)) + t20)))) w4 fun ad3 w5 =>
     stC ad3 (Value.int .u64 (orI .u64 x2 x3)) w5 fun w6 =>
     semA Tryz.prog (Instr.indexAt 23 t5_c.v (Value.int .i64 (IntKind.i64.wrap ((IntKind.i64.wrap ((IntKind.i64.wrap (Int.tdiv t1_n 64)) + t20)) + 1)))) w6 fun ad4 w7 =>
     ldI .u64 ad4 w7 fun x4 =>
     semI Tryz.prog .u64 (binOp .shr 65 (Value.int .u64 (Int.fdiv x1 (2 ^ (1 : Nat)))) (Value.int .u64 (IntKind.u64.wrap (IntKind.i64.wrap (63 - (Int.tmod t1_n 64)))))) w7 fun x5 w8 =>
     semA Tryz.prog (Instr.indexAt 23 t5_c.v (Value.int .i64 (IntKind.i64.wrap ((IntKind.i64.wrap ((IntKind.i64.wrap (Int.tdiv t1_n 64)) + t20)) + 1)))) w8 fun ad5 w9 =>
     stC ad5 (Value.int .u64 (orI .u64 x4 x5)) w9 fun w10 =>
     J0 t1_n t5_c t18 t19 (IntKind.i64.wrap (t20 + 1)) w10 ∧
     m0 t1_n t5_c t18 t19 (IntKind.i64.wrap (t20 + 1)) w10 < m0 t1_n t5_c t18 t19 t20 w_)
    (Calls Tryz.prog 85 #[t5_c.v] w_ fun e1 w11 =>
     ∃ s2 : Slc, e1 = .returned s2.v ∧
     (R (.returned s2.v) w11))) :
    Calls Tryz.prog 48 #[a0_a.v, Value.int .i64 a1_n] w R := by
  refine calls_of_vc (rounded_left_cut J0 m0) (by kernel_rfl) Tryz.func48 rfl ?_ ?_
  · refine kcast h ?_; kernel_rfl
  · exact (obl_seq rfl (obl_reg (obl_seq rfl (obl_seq rfl (obl_reg (obl_cond (obl_seq rfl (obl_reg (obl_ret (obl_skip (obl_seq rfl (obl_reg (obl_seq rfl (obl_seq rfl (obl_reg (obl_loop _ rfl (fun a_ w_ hL_ => (by
    obtain ⟨hz_, hd_, hL_⟩ := atSz_out hL_
    obtain ⟨t1_n, h1_, hL_⟩ := atI_out hL_
    obtain ⟨t5_c, h5_, hL_⟩ := atS_out hL_
    obtain ⟨t18, h18_, hL_⟩ := atS_out hL_
    obtain ⟨t19, h19_, hL_⟩ := atI_out hL_
    obtain ⟨t20, h20_, hL_⟩ := atI_out hL_
    obtain ⟨g0, rfl⟩ : ∃ g, a_ = Fr 59 [(1, Value.int .i64 t1_n), (5, t5_c.v), (18, t18.v), (19, Value.int .i64 t19), (20, Value.int .i64 t20)] g := ⟨_, fr_of hz_ hd_ [(1, Value.int .i64 t1_n), (5, t5_c.v), (18, t18.v), (19, Value.int .i64 t19), (20, Value.int .i64 t20)] (sel_cons h1_ (sel_cons h5_ (sel_cons h18_ (sel_cons h19_ (sel_cons h20_ sel_nil)))))⟩
    clear hz_ hd_ h1_ h5_ h18_ h19_ h20_
    have hJ0_ := hL_
    refine ⟨(fun _ => none), kcast (h0 t1_n t5_c t18 t19 t20 w_ hJ0_) ?_, ?_⟩
    · kernel_rfl
    · exact (obl_seq rfl (obl_reg (obl_seq rfl (obl_cond (obl_skip (obl_exit (obl_seq rfl (obl_blk rfl (obl_seq rfl (obl_reg (obl_seq rfl (obl_reg (obl_reg (obl_reg trivial)))))))))))))))) (obl_seq rfl (obl_reg (obl_ret trivial)))))))))))))))))))

def rounded_right_cut (J0 : Int → Slc → Int → Int → World → Prop) (m0 : Int → Slc → Int → Int → World → Nat) : Nat → Option ((Act → World → Prop) × (Act → World → Nat))
  | 0 => some (fun a_ w_ => atSz a_ 56 (atI .i64 a_ 1 fun t1_n => atS a_ 5 fun t5_c => atI .i64 a_ 18 fun t18 => atI .i64 a_ 19 fun t19 => J0 t1_n t5_c t18 t19 w_), fun a_ w_ => mI a_ 1 fun t1_n => mS a_ 5 fun t5_c => mI a_ 18 fun t18 => mI a_ 19 fun t19 => m0 t1_n t5_c t18 t19 w_)
  | _ => none

set_option maxRecDepth 100000 in
/-- surd/rounded.right: function 50. -/
theorem rounded_right_vc (a0_a : Slc) (a1_n : Int) (w : World) (R : Ending → World → Prop)
    (J0 : Int → Slc → Int → Int → World → Prop) (m0 : Int → Slc → Int → Int → World → Nat)
    (h : br (decide ((IntKind.i64.wrap (Int.tdiv a1_n 64)) ≥ (a0_a.n : Int)))
    (R (.returned ((⟨none, 0, 0⟩ : Slc).v)) w)
    (semS Tryz.prog (Instr.sliceAt 23 a0_a.v (some (Value.int .i64 (IntKind.i64.wrap (Int.tdiv a1_n 64)))) none none) w fun s1 w1 =>
     semS Tryz.prog (Builtin.append_ #[23, 23] 23 #[(⟨none, 0, 0⟩ : Slc).v, s1.v]) w1 fun s2 w2 =>
     J0 a1_n s2 (s2.n : Int) 0 w2))
    (h0 : ∀ (t1_n : Int) (t5_c : Slc) (t18 : Int) (t19 : Int) (w_ : World), J0 t1_n t5_c t18 t19 w_ → 
    br (decide (t19 < t18))
    (semA Tryz.prog (Instr.indexAt 23 t5_c.v (Value.int .i64 t19)) w_ fun ad1 w3 =>
     ldI .u64 ad1 w3 fun x1 =>
     semI Tryz.prog .u64 (binOp .shr 65 (Value.int .u64 x1) (Value.int .u64 (IntKind.u64.wrap (Int.tmod t1_n 64)))) w3 fun x2 w4 =>
     semA Tryz.prog (Instr.indexAt 23 t5_c.v (Value.int .i64 t19)) w4 fun ad2 w5 =>
     stC ad2 (Value.int .u64 x2) w5 fun w6 =>
     br (decide ((IntKind.i64.wrap (t19 + 1)) < (t5_c.n : Int)))
     (fixA Tryz.prog (Instr.indexAt 23 t5_c.v (Value.int .i64 t19)) w6 fun ad3 =>
      ldI .u64 ad3 w6 fun x3 =>
      fixA Tryz.prog (Instr.indexAt 23 t5_c.v (Value.int .i64 (IntKind.i64.wrap (t19 + 1)))) w6 fun ad4 =>
      ldI .u64 ad4 w6 fun x4 =>
      fixI Tryz.prog .u64 (binOp .shl 65 (Value.int .u64 (IntKind.u64.wrap (x4 * 2 ^ (1 : Nat)))) (Value.int .u64 (IntKind.u64.wrap (IntKind.i64.wrap (63 - (Int.tmod t1_n 64)))))) w6 fun x5 =>
      fixA Tryz.prog (Instr.indexAt 23 t5_c.v (Value.int .i64 t19)) w6 fun ad5 =>
      stC ad5 (Value.int .u64 (orI .u64 x3 x5)) w6.drew fun w7 =>
      J0 t1_n t5_c t18 (IntKind.i64.wrap (t19 + 1)) w7 ∧
      m0 t1_n t5_c t18 (IntKind.i64.wrap (t19 + 1)) w7 < m0 t1_n t5_c t18 t19 w_)
     (J0 t1_n t5_c t18 (IntKind.i64.wrap (t19 + 1)) w6 ∧
      m0 t1_n t5_c t18 (IntKind.i64.wrap (t19 + 1)) w6 < m0 t1_n t5_c t18 t19 w_))
    (Calls Tryz.prog 85 #[t5_c.v] w_ fun e1 w8 =>
     ∃ s3 : Slc, e1 = .returned s3.v ∧
     (R (.returned s3.v) w8))) :
    Calls Tryz.prog 50 #[a0_a.v, Value.int .i64 a1_n] w R := by
  refine calls_of_vc (rounded_right_cut J0 m0) (by kernel_rfl) Tryz.func50 rfl ?_ ?_
  · refine kcast h ?_; kernel_rfl
  · exact (obl_seq rfl (obl_reg (obl_seq rfl (obl_seq rfl (obl_reg (obl_cond (obl_seq rfl (obl_reg (obl_ret (obl_skip (obl_seq rfl (obl_reg (obl_seq rfl (obl_seq rfl (obl_reg (obl_loop _ rfl (fun a_ w_ hL_ => (by
    obtain ⟨hz_, hd_, hL_⟩ := atSz_out hL_
    obtain ⟨t1_n, h1_, hL_⟩ := atI_out hL_
    obtain ⟨t5_c, h5_, hL_⟩ := atS_out hL_
    obtain ⟨t18, h18_, hL_⟩ := atI_out hL_
    obtain ⟨t19, h19_, hL_⟩ := atI_out hL_
    obtain ⟨g0, rfl⟩ : ∃ g, a_ = Fr 56 [(1, Value.int .i64 t1_n), (5, t5_c.v), (18, Value.int .i64 t18), (19, Value.int .i64 t19)] g := ⟨_, fr_of hz_ hd_ [(1, Value.int .i64 t1_n), (5, t5_c.v), (18, Value.int .i64 t18), (19, Value.int .i64 t19)] (sel_cons h1_ (sel_cons h5_ (sel_cons h18_ (sel_cons h19_ sel_nil))))⟩
    clear hz_ hd_ h1_ h5_ h18_ h19_
    have hJ0_ := hL_
    refine ⟨(fun _ => none), kcast (h0 t1_n t5_c t18 t19 w_ hJ0_) ?_, ?_⟩
    · kernel_rfl
    · exact (obl_seq rfl (obl_reg (obl_seq rfl (obl_cond (obl_skip (obl_exit (obl_seq rfl (obl_blk rfl (obl_seq rfl (obl_reg (obl_seq rfl (obl_reg (obl_seq rfl (obl_reg (obl_cond (obl_tail 17 (by kernel_rfl) (by kernel_rfl) (by kernel_rfl) (by kernel_rfl) (by kernel_rfl) (obl_skip (obl_reg trivial)))))))))))))))))))) (obl_seq rfl (obl_reg (obl_ret trivial)))))))))))))))))))

def rounded_minus_cut (J0 : Slc → Slc → Int → Int → Int → World → Prop) (m0 : Slc → Slc → Int → Int → Int → World → Nat) : Nat → Option ((Act → World → Prop) × (Act → World → Nat))
  | 0 => some (fun a_ w_ => atSz a_ 52 (atS a_ 1 fun t1_b => atS a_ 5 fun t5_c => atI .u64 a_ 6 fun t6_borrow => atI .i64 a_ 13 fun t13 => atI .i64 a_ 14 fun t14 => J0 t1_b t5_c t6_borrow t13 t14 w_), fun a_ w_ => mS a_ 1 fun t1_b => mS a_ 5 fun t5_c => mI a_ 6 fun t6_borrow => mI a_ 13 fun t13 => mI a_ 14 fun t14 => m0 t1_b t5_c t6_borrow t13 t14 w_)
  | _ => none

set_option maxRecDepth 100000 in
/-- surd/rounded.minus: function 87. -/
theorem rounded_minus_vc (a0_a : Slc) (a1_b : Slc) (w : World) (R : Ending → World → Prop)
    (J0 : Slc → Slc → Int → Int → Int → World → Prop) (m0 : Slc → Slc → Int → Int → Int → World → Nat)
    (h : semS Tryz.prog (Builtin.append_ #[23, 23] 23 #[(⟨none, 0, 0⟩ : Slc).v, a0_a.v]) w fun s1 w1 =>
    J0 a1_b s1 0 (s1.n : Int) 0 w1)
    (h0 : ∀ (t1_b : Slc) (t5_c : Slc) (t6_borrow : Int) (t13 : Int) (t14 : Int) (w_ : World), J0 t1_b t5_c t6_borrow t13 t14 w_ → 
    br (decide (t14 < t13))
    (br (decide (t14 < (t1_b.n : Int)))
     (semA Tryz.prog (Instr.indexAt 23 t1_b.v (Value.int .i64 t14)) w_ fun ad1 w2 =>
      ldI .u64 ad1 w2 fun x1 =>
      semA Tryz.prog (Instr.indexAt 23 t5_c.v (Value.int .i64 t14)) w2 fun ad2 w3 =>
      ldI .u64 ad2 w3 fun x2 =>
      semA Tryz.prog (Instr.indexAt 23 t5_c.v (Value.int .i64 t14)) w3 fun ad3 w4 =>
      stC ad3 (Value.int .u64 (IntKind.u64.wrap ((IntKind.u64.wrap (x2 - x1)) - t6_borrow))) w4 fun w5 =>
      br (decide (x2 < x1))
      (J0 t1_b t5_c 1 t13 (IntKind.i64.wrap (t14 + 1)) w5 ∧
       m0 t1_b t5_c 1 t13 (IntKind.i64.wrap (t14 + 1)) w5 < m0 t1_b t5_c t6_borrow t13 t14 w_)
      (br (x2 == x1)
       (br (t6_borrow == 1)
        (J0 t1_b t5_c 1 t13 (IntKind.i64.wrap (t14 + 1)) w5 ∧
         m0 t1_b t5_c 1 t13 (IntKind.i64.wrap (t14 + 1)) w5 < m0 t1_b t5_c t6_borrow t13 t14 w_)
        (J0 t1_b t5_c 0 t13 (IntKind.i64.wrap (t14 + 1)) w5 ∧
         m0 t1_b t5_c 0 t13 (IntKind.i64.wrap (t14 + 1)) w5 < m0 t1_b t5_c t6_borrow t13 t14 w_))
       (J0 t1_b t5_c 0 t13 (IntKind.i64.wrap (t14 + 1)) w5 ∧
        m0 t1_b t5_c 0 t13 (IntKind.i64.wrap (t14 + 1)) w5 < m0 t1_b t5_c t6_borrow t13 t14 w_)))
     (semA Tryz.prog (Instr.indexAt 23 t5_c.v (Value.int .i64 t14)) w_ fun ad4 w6 =>
      ldI .u64 ad4 w6 fun x3 =>
      semA Tryz.prog (Instr.indexAt 23 t5_c.v (Value.int .i64 t14)) w6 fun ad5 w7 =>
      stC ad5 (Value.int .u64 (IntKind.u64.wrap ((IntKind.u64.wrap (x3 - 0)) - t6_borrow))) w7 fun w8 =>
      br (decide (x3 < 0))
      (J0 t1_b t5_c 1 t13 (IntKind.i64.wrap (t14 + 1)) w8 ∧
       m0 t1_b t5_c 1 t13 (IntKind.i64.wrap (t14 + 1)) w8 < m0 t1_b t5_c t6_borrow t13 t14 w_)
      (br (x3 == 0)
       (br (t6_borrow == 1)
        (J0 t1_b t5_c 1 t13 (IntKind.i64.wrap (t14 + 1)) w8 ∧
         m0 t1_b t5_c 1 t13 (IntKind.i64.wrap (t14 + 1)) w8 < m0 t1_b t5_c t6_borrow t13 t14 w_)
        (J0 t1_b t5_c 0 t13 (IntKind.i64.wrap (t14 + 1)) w8 ∧
         m0 t1_b t5_c 0 t13 (IntKind.i64.wrap (t14 + 1)) w8 < m0 t1_b t5_c t6_borrow t13 t14 w_))
       (J0 t1_b t5_c 0 t13 (IntKind.i64.wrap (t14 + 1)) w8 ∧
        m0 t1_b t5_c 0 t13 (IntKind.i64.wrap (t14 + 1)) w8 < m0 t1_b t5_c t6_borrow t13 t14 w_))))
    (Calls Tryz.prog 85 #[t5_c.v] w_ fun e1 w9 =>
     ∃ s2 : Slc, e1 = .returned s2.v ∧
     (R (.returned s2.v) w9))) :
    Calls Tryz.prog 87 #[a0_a.v, a1_b.v] w R := by
  refine calls_of_vc (rounded_minus_cut J0 m0) (by kernel_rfl) Tryz.func87 rfl ?_ ?_
  · refine kcast h ?_; kernel_rfl
  · exact (obl_seq rfl (obl_reg (obl_seq rfl (obl_reg (obl_seq rfl (obl_reg (obl_seq rfl (obl_seq rfl (obl_reg (obl_loop _ rfl (fun a_ w_ hL_ => (by
    obtain ⟨hz_, hd_, hL_⟩ := atSz_out hL_
    obtain ⟨t1_b, h1_, hL_⟩ := atS_out hL_
    obtain ⟨t5_c, h5_, hL_⟩ := atS_out hL_
    obtain ⟨t6_borrow, h6_, hL_⟩ := atI_out hL_
    obtain ⟨t13, h13_, hL_⟩ := atI_out hL_
    obtain ⟨t14, h14_, hL_⟩ := atI_out hL_
    obtain ⟨g0, rfl⟩ : ∃ g, a_ = Fr 52 [(1, t1_b.v), (5, t5_c.v), (6, Value.int .u64 t6_borrow), (13, Value.int .i64 t13), (14, Value.int .i64 t14)] g := ⟨_, fr_of hz_ hd_ [(1, t1_b.v), (5, t5_c.v), (6, Value.int .u64 t6_borrow), (13, Value.int .i64 t13), (14, Value.int .i64 t14)] (sel_cons h1_ (sel_cons h5_ (sel_cons h6_ (sel_cons h13_ (sel_cons h14_ sel_nil)))))⟩
    clear hz_ hd_ h1_ h5_ h6_ h13_ h14_
    have hJ0_ := hL_
    refine ⟨(fun _ => none), kcast (h0 t1_b t5_c t6_borrow t13 t14 w_ hJ0_) ?_, ?_⟩
    · kernel_rfl
    · exact (obl_seq rfl (obl_reg (obl_seq rfl (obl_cond (obl_skip (obl_exit (obl_seq rfl (obl_blk rfl (obl_seq rfl (obl_reg (obl_seq rfl (obl_reg (obl_seq rfl (obl_seq rfl (obl_reg (obl_cond (obl_reg (obl_skip (obl_seq rfl (obl_reg (obl_seq rfl (obl_reg (obl_seq rfl (obl_reg (obl_cond (obl_reg (obl_reg (obl_reg trivial)))))))))))))))))))))))))))))) (obl_seq rfl (obl_reg (obl_ret trivial)))))))))))))

def rounded_times_cut (J0 : Slc → Slc → Slc → Int → World → Prop) (m0 : Slc → Slc → Slc → Int → World → Nat) : Nat → Option ((Act → World → Prop) × (Act → World → Nat))
  | 0 => some (fun a_ w_ => atSz a_ 43 (atS a_ 0 fun t0_a => atS a_ 1 fun t1_b => atS a_ 7 fun t7_c => atI .i64 a_ 8 fun t8_i => J0 t0_a t1_b t7_c t8_i w_), fun a_ w_ => mS a_ 0 fun t0_a => mS a_ 1 fun t1_b => mS a_ 7 fun t7_c => mI a_ 8 fun t8_i => m0 t0_a t1_b t7_c t8_i w_)
  | _ => none

set_option maxRecDepth 100000 in
/-- surd/rounded.times: function 88. -/
theorem rounded_times_vc (a0_a : Slc) (a1_b : Slc) (w : World) (R : Ending → World → Prop)
    (J0 : Slc → Slc → Slc → Int → World → Prop) (m0 : Slc → Slc → Slc → Int → World → Nat)
    (h : Calls Tryz.prog 79 #[a0_a.v, a1_b.v] w fun e1 w1 =>
    ∃ s1 : Slc, ∃ x1 : Int, e1 = .returned (Value.tuple #[s1.v, Value.int .i64 x1]) ∧
    (br (x1 == 0)
     (R (.returned s1.v) w1)
     (J0 a0_a a1_b (⟨none, 0, 0⟩ : Slc) (IntKind.i64.wrap ((a1_b.n : Int) - 1)) w1)))
    (h0 : ∀ (t0_a : Slc) (t1_b : Slc) (t7_c : Slc) (t8_i : Int) (w_ : World), J0 t0_a t1_b t7_c t8_i w_ → 
    br (decide (t8_i ≥ 0))
    (Calls Tryz.prog 48 #[t7_c.v, Value.int .i64 64] w_ fun e2 w2 =>
     ∃ s2 : Slc, e2 = .returned s2.v ∧
     (semA Tryz.prog (Instr.indexAt 23 t1_b.v (Value.int .i64 t8_i)) w2 fun ad1 w3 =>
      ldI .u64 ad1 w3 fun x2 =>
      Calls Tryz.prog 84 #[Value.int .u64 x2] w3 fun e3 w4 =>
      ∃ s3 : Slc, e3 = .returned s3.v ∧
      (Calls Tryz.prog 79 #[t0_a.v, s3.v] w4 fun e4 w5 =>
       ∃ s4 : Slc, ∃ x3 : Int, e4 = .returned (Value.tuple #[s4.v, Value.int .i64 x3]) ∧
       (Calls Tryz.prog 117 #[s2.v, s4.v] w5 fun e5 w6 =>
        ∃ s5 : Slc, e5 = .returned s5.v ∧
        (J0 t0_a t1_b s5 (IntKind.i64.wrap (t8_i - 1)) w6 ∧
         m0 t0_a t1_b s5 (IntKind.i64.wrap (t8_i - 1)) w6 < m0 t0_a t1_b t7_c t8_i w_)))))
    (R (.returned t7_c.v) w_)) :
    Calls Tryz.prog 88 #[a0_a.v, a1_b.v] w R := by
  refine calls_of_vc (rounded_times_cut J0 m0) (by kernel_rfl) Tryz.func88 rfl ?_ ?_
  · refine kcast h ?_; kernel_rfl
  · exact (obl_seq rfl (obl_reg (obl_seq rfl (obl_reg (obl_seq rfl (obl_seq rfl (obl_reg (obl_cond (obl_seq rfl (obl_reg (obl_ret (obl_skip (obl_seq rfl (obl_reg (obl_seq rfl (obl_seq rfl (obl_reg (obl_loop _ rfl (fun a_ w_ hL_ => (by
    obtain ⟨hz_, hd_, hL_⟩ := atSz_out hL_
    obtain ⟨t0_a, h0_, hL_⟩ := atS_out hL_
    obtain ⟨t1_b, h1_, hL_⟩ := atS_out hL_
    obtain ⟨t7_c, h7_, hL_⟩ := atS_out hL_
    obtain ⟨t8_i, h8_, hL_⟩ := atI_out hL_
    obtain ⟨g0, rfl⟩ : ∃ g, a_ = Fr 43 [(0, t0_a.v), (1, t1_b.v), (7, t7_c.v), (8, Value.int .i64 t8_i)] g := ⟨_, fr_of hz_ hd_ [(0, t0_a.v), (1, t1_b.v), (7, t7_c.v), (8, Value.int .i64 t8_i)] (sel_cons h0_ (sel_cons h1_ (sel_cons h7_ (sel_cons h8_ sel_nil))))⟩
    clear hz_ hd_ h0_ h1_ h7_ h8_
    have hJ0_ := hL_
    refine ⟨(fun _ => none), kcast (h0 t0_a t1_b t7_c t8_i w_ hJ0_) ?_, ?_⟩
    · kernel_rfl
    · exact (obl_seq rfl (obl_seq rfl (obl_reg (obl_cond (obl_skip (obl_exit (obl_seq rfl (obl_blk rfl (obl_seq rfl (obl_reg (obl_seq rfl (obl_reg (obl_reg (obl_reg trivial)))))))))))))))) (obl_seq rfl (obl_reg (obl_ret trivial)))))))))))))))))))))

set_option maxRecDepth 100000 in
/-- surd/rounded.way: function 93. -/
theorem rounded_way_vc (a0_m : Int) (w : World) (R : Ending → World → Prop)
    
    (h : br (a0_m == 0)
    (R (.returned (Value.func (Fn.func 118) #[] #[])) w)
    (br (a0_m == 1)
     (R (.returned (Value.func (Fn.func 119) #[] #[])) w)
     (R (.returned (Value.func (Fn.func 120) #[] #[])) w))) :
    Calls Tryz.prog 93 #[Value.int .i64 a0_m] w R := by
  refine calls_of_vc (fun _ => none) (by kernel_rfl) Tryz.func93 rfl ?_ ?_
  · refine kcast h ?_; kernel_rfl
  · exact (obl_seq rfl (obl_reg (obl_seq rfl (obl_seq rfl (obl_reg (obl_blk rfl (obl_seq rfl (obl_reg (obl_cond (obl_seq rfl (obl_reg (obl_ret (obl_seq rfl (obl_reg (obl_cond (obl_seq rfl (obl_reg (obl_ret (obl_skip (obl_seq rfl (obl_reg (obl_ret trivial))))))))))))))))))))))

set_option maxRecDepth 100000 in
/-- surd/rounded.way$1: function 118. -/
theorem rounded_way_1_vc (a0_neg : Bool) (a1 : Slc) (a2_behind : Int) (w : World) (R : Ending → World → Prop)
    
    (h : br a0_neg
    (R (.returned (Value.bool (decide (a2_behind > 0)))) w)
    (R (.returned (Value.bool false)) w)) :
    Calls Tryz.prog 118 #[Value.bool a0_neg, a1.v, Value.int .i64 a2_behind] w R := by
  refine calls_of_vc (fun _ => none) (by kernel_rfl) Tryz.func118 rfl ?_ ?_
  · refine kcast h ?_; kernel_rfl
  · exact (obl_seq rfl (obl_reg (obl_seq rfl (obl_reg (obl_ret trivial)))))

set_option maxRecDepth 100000 in
/-- surd/rounded.way$2: function 119. -/
theorem rounded_way_2_vc (a0_neg : Bool) (a1 : Slc) (a2_behind : Int) (w : World) (R : Ending → World → Prop)
    
    (h : br (!a0_neg)
    (R (.returned (Value.bool (decide (a2_behind > 0)))) w)
    (R (.returned (Value.bool false)) w)) :
    Calls Tryz.prog 119 #[Value.bool a0_neg, a1.v, Value.int .i64 a2_behind] w R := by
  refine calls_of_vc (fun _ => none) (by kernel_rfl) Tryz.func119 rfl ?_ ?_
  · refine kcast h ?_; kernel_rfl
  · exact (obl_seq rfl (obl_reg (obl_seq rfl (obl_reg (obl_ret trivial)))))

set_option maxRecDepth 100000 in
/-- surd/rounded.way$3: function 120. -/
theorem rounded_way_3_vc (a0 : Bool) (a1_q : Slc) (a2_behind : Int) (w : World) (R : Ending → World → Prop)
    
    (h : br (a2_behind == 3)
    (R (.returned (Value.bool true)) w)
    (br (a2_behind == 2)
     (Calls Tryz.prog 52 #[a1_q.v, Value.int .i64 0] w fun e1 w1 =>
      ∃ x1 : Int, e1 = .returned (Value.int .i64 x1) ∧
      (R (.returned (Value.bool (x1 == 1))) w1))
     (R (.returned (Value.bool false)) w))) :
    Calls Tryz.prog 120 #[Value.bool a0, a1_q.v, Value.int .i64 a2_behind] w R := by
  refine calls_of_vc (fun _ => none) (by kernel_rfl) Tryz.func120 rfl ?_ ?_
  · refine kcast h ?_; kernel_rfl
  · exact (obl_seq rfl (obl_reg (obl_seq rfl (obl_reg (obl_ret trivial)))))

set_option maxRecDepth 100000 in
/-- surd/rounded.Ratio: function 77. -/
theorem rounded_Ratio_vc (a0_r_0 : Bool) (a0_r_1 : Slc) (a0_r_2 : Slc) (a1_pos : Int) (a2_mode : Int) (w : World) (R : Ending → World → Prop)
    
    (h : newC w #[Value.bool a0_r_0, a0_r_1.v, a0_r_2.v] 67 fun ad1 w1 =>
    newC w1 #[Value.bool false, (⟨none, 0, 0⟩ : Slc).v, Value.int .i64 0] 27 fun ad2 w2 =>
    ldS (ad1.add 2) w2 fun s1 =>
    Calls Tryz.prog 46 #[s1.v] w2 fun e1 w3 =>
    ∃ x1 : Int, e1 = .returned (Value.int .i64 x1) ∧
    (br (x1 == 0)
     (stC ad2 (Value.bool false) w3 fun w4 =>
      stC (ad2.add 1) ((⟨none, 0, 0⟩ : Slc).v) w4 fun w5 =>
      stC (ad2.add 2) (Value.int .i64 0) w5 fun w6 =>
      ldB ad2 w6 fun b1 =>
      ldS (ad2.add 1) w6 fun s2 =>
      ldI .i64 (ad2.add 2) w6 fun x2 =>
      R (.returned (Value.tuple #[Value.agg #[Value.bool b1, s2.v, Value.int .i64 x2], Value.int .i64 70])) w6)
     (Calls Tryz.prog 42 #[Value.int .i64 a1_pos, Value.int .i64 a2_mode] w3 fun e2 w7 =>
      ∃ x3 : Int, e2 = .returned (Value.int .i64 x3) ∧
      (br (x3 != 0)
       (stC ad2 (Value.bool false) w7 fun w8 =>
        stC (ad2.add 1) ((⟨none, 0, 0⟩ : Slc).v) w8 fun w9 =>
        stC (ad2.add 2) (Value.int .i64 0) w9 fun w10 =>
        ldB ad2 w10 fun b2 =>
        ldS (ad2.add 1) w10 fun s3 =>
        ldI .i64 (ad2.add 2) w10 fun x4 =>
        R (.returned (Value.tuple #[Value.agg #[Value.bool b2, s3.v, Value.int .i64 x4], Value.int .i64 x3])) w10)
       (ldB ad1 w7.drew fun b3 =>
        ldS (ad1.add 1) w7.drew fun s4 =>
        ldS (ad1.add 2) w7.drew fun s5 =>
        Calls Tryz.prog 85 #[s4.v] w7.drew fun e3 w11 =>
        ∃ s6 : Slc, e3 = .returned s6.v ∧
        (Ahead w7.drew w11 ∧
         (Calls Tryz.prog 85 #[s5.v] w11 fun e4 w12 =>
          ∃ s7 : Slc, e4 = .returned s7.v ∧
          (Ahead w11 w12 ∧
           (Calls Tryz.prog 43 #[Value.bool b3, s6.v, s7.v, Value.int .i64 0, Value.int .i64 a1_pos, Value.int .i64 a2_mode] w12 fun e5 w13 =>
            ∃ b4 : Bool, ∃ s8 : Slc, ∃ x5 : Int, ∃ x6 : Int, e5 = .returned (Value.tuple #[Value.agg #[Value.bool b4, s8.v, Value.int .i64 x5], Value.int .i64 x6]) ∧
            (Ahead w12 w13 ∧
             (stC ad2 (Value.bool b4) w13 fun w14 =>
              stC (ad2.add 1) s8.v w14 fun w15 =>
              stC (ad2.add 2) (Value.int .i64 x5) w15 fun w16 =>
              ldB ad2 w16 fun b5 =>
              ldS (ad2.add 1) w16 fun s9 =>
              ldI .i64 (ad2.add 2) w16 fun x7 =>
              R (.returned (Value.tuple #[Value.agg #[Value.bool b5, s9.v, Value.int .i64 x7], Value.int .i64 x6])) w16))))))))))) :
    Calls Tryz.prog 77 #[Value.agg #[Value.bool a0_r_0, a0_r_1.v, a0_r_2.v], Value.int .i64 a1_pos, Value.int .i64 a2_mode] w R := by
  refine calls_of_vc (fun _ => none) (by kernel_rfl) Tryz.func77 rfl ?_ ?_
  · refine kcast h ?_; kernel_rfl
  · exact (obl_seq rfl (obl_reg (obl_seq rfl (obl_seq rfl (obl_reg (obl_cond (obl_seq rfl (obl_reg (obl_ret (obl_skip (obl_seq rfl (obl_seq rfl (obl_reg (obl_seq rfl (obl_reg (obl_cond (obl_seq rfl (obl_reg (obl_ret (obl_skip (obl_seq rfl (obl_held (by kernel_rfl) (by kernel_rfl) (by kernel_rfl) (obl_ret trivial)))))))))))))))))))))))

end Go.Proofs.YtbeiopoejdkheaaGreatDoor
namespace Go.Proofs.YtbeiopoejdkheaaGreatDoor
open Go Go.RowKit Eng L2
set_option linter.unusedVariables false
set_option maxHeartbeats 2000000
set_option maxRecDepth 100000

/-- surd/rounded.read: function 41, its local variables as values. -/
theorem rounded_read_v2 (a0_d_0 : Bool) (a0_d_1 : Slc) (a0_d_2 : Int) (w : World) (R : Ending → World → Prop)
    
    (h : br (decide (a0_d_2 < (-1099511627776)))
    (∀ w1, Ext w w1 → Ahead w w1 →
     (R (.returned (Value.tuple #[Value.agg #[Value.bool (false), ((⟨none, 0, 0⟩ : Slc)).v, Value.int .i64 (0 : Int)], Value.int .i64 80])) w1))
    (br (decide (a0_d_2 > 1099511627776))
     (∀ w2, Ext w w2 → Ahead w w2 →
      (R (.returned (Value.tuple #[Value.agg #[Value.bool (false), ((⟨none, 0, 0⟩ : Slc)).v, Value.int .i64 (0 : Int)], Value.int .i64 80])) w2))
     (∀ w3, Ext w w3 → Ahead w w3 →
      (Calls Tryz.prog 85 #[a0_d_1.v] w3 fun e1 w4 =>
       ∃ s1 : Slc, e1 = .returned s1.v ∧ Ahead w3 w4 ∧
       (br ((s1.n : Int) == 0)
        (∀ w5, Ext w4 w5 → Ahead w w5 →
         (R (.returned (Value.tuple #[Value.agg #[Value.bool (false), ((⟨none, 0, 0⟩ : Slc)).v, Value.int .i64 (0 : Int)], Value.int .i64 0])) w5))
        (Calls Tryz.prog 49 #[s1.v] w4 fun e2 w6 =>
         ∃ x1 : Int, e2 = .returned (Value.int .i64 x1) ∧ Ahead w4 w6 ∧
         (∀ w7, Ext w6 w7 → Ahead w w7 →
          (Calls Tryz.prog 50 #[s1.v, Value.int .i64 x1] w7 fun e3 w8 =>
           ∃ s2 : Slc, e3 = .returned s2.v ∧ Ahead w7 w8 ∧
           (∀ w9, Ext w8 w9 → Ahead w w9 →
            (R (.returned (Value.tuple #[Value.agg #[Value.bool a0_d_0, s2.v, Value.int .i64 (IntKind.i64.wrap (a0_d_2 + x1))], Value.int .i64 0])) w9))))))))))
     :
    Calls Tryz.prog 41 #[Value.agg #[Value.bool a0_d_0, a0_d_1.v, Value.int .i64 a0_d_2]] w (fun e_ w_ => Ahead w w_ ∧ R e_ w_) := by
  refine rounded_read_vc a0_d_0 a0_d_1 a0_d_2 w _  ?_
  · have A : Ahead w w := Ahead.refl w
    have X : Ext w w := Ext.refl w
    refine newC_t fun bk1 u1 hb1 ha_u1 _ B1 => ?_
    have g1 := le_eq A.size hb1
    obtain ⟨A, X⟩ := axa2 ha_u1 A X
    refine newC_t fun bk2 u2 hb2 ha_u2 _ B2 => ?_
    have g2 := le_eq A.size hb2
    have l1_2 := lt1 hb2 B1
    replace B1 := B1.ahead ha_u2
    obtain ⟨A, X⟩ := axa2 ha_u2 A X
    refine ldI_t 2 B1 rfl ?_
    refine br_map h (fun h_ => ?_) (fun h_ => ?_)
    ·clear h
     have h := h_
     clear h_
     refine st3_t B2 rfl rfl rfl rfl fun u3 k_u3 B2 => ?_
     replace B1 := up1 k_u3 B1
     obtain ⟨A, X⟩ := axu2 k_u3 g2 A X
     refine ldB_t 0 B2 rfl ?_
     refine ldS_t 1 B2 rfl ?_
     refine ldI_t 2 B2 rfl ?_
     replace h := h _ X A
     exact ⟨A, h⟩
    ·clear h
     have h := h_
     clear h_
     refine ldI_t 2 B1 rfl ?_
     refine br_map h (fun h_ => ?_) (fun h_ => ?_)
     ·clear h
      have h := h_
      clear h_
      refine st3_t B2 rfl rfl rfl rfl fun u4 k_u4 B2 => ?_
      replace B1 := up1 k_u4 B1
      obtain ⟨A, X⟩ := axu2 k_u4 g2 A X
      refine ldB_t 0 B2 rfl ?_
      refine ldS_t 1 B2 rfl ?_
      refine ldI_t 2 B2 rfl ?_
      replace h := h _ X A
      exact ⟨A, h⟩
     ·clear h
      have h := h_
      clear h_
      refine ldS_t 1 B1 rfl ?_
      replace h := h _ X A
      refine Calls.mono h ?_
      clear h
      rintro e1 w4 ⟨s1, he_, ha_w4, h⟩
      refine ⟨s1, he_, ?_⟩
      clear he_
      obtain ⟨B1, B2⟩ := ah2 ha_w4 B1 B2
      obtain ⟨A, X⟩ := axa2 ha_w4 A X
      replace X : Ext w4 w4 := Ext.refl _
      refine br_map h (fun h_ => ?_) (fun h_ => ?_)
      ·clear h
       have h := h_
       clear h_
       refine st3_t B2 rfl rfl rfl rfl fun u5 k_u5 B2 => ?_
       replace B1 := up1 k_u5 B1
       obtain ⟨A, X⟩ := axu2 k_u5 g2 A X
       refine ldB_t 0 B2 rfl ?_
       refine ldS_t 1 B2 rfl ?_
       refine ldI_t 2 B2 rfl ?_
       replace h := h _ X A
       exact ⟨A, h⟩
      ·clear h
       have h := h_
       clear h_
       refine Calls.mono h ?_
       clear h
       rintro e2 w6 ⟨x1, he_, ha_w6, h⟩
       refine ⟨x1, he_, ?_⟩
       clear he_
       obtain ⟨B1, B2⟩ := ah2 ha_w6 B1 B2
       obtain ⟨A, X⟩ := axa2 ha_w6 A X
       replace X : Ext w6 w6 := Ext.refl _
       have hd_ := Sp.Ahead.drew w6
       obtain ⟨B1, B2⟩ := ah2 hd_ B1 B2
       obtain ⟨A, X⟩ := axa2 hd_ A X
       clear hd_
       refine ldB_t 0 B1 rfl ?_
       refine ldI_t 2 B1 rfl ?_
       replace h := h _ X A
       refine Calls.mono h ?_
       clear h
       rintro e3 w8 ⟨s2, he_, ha_w8, h⟩
       refine ⟨s2, he_, ?_⟩
       clear he_
       obtain ⟨B1, B2⟩ := ah2 ha_w8 B1 B2
       obtain ⟨A, X⟩ := axa2 ha_w8 A X
       replace X : Ext w8 w8 := Ext.refl _
       refine ⟨ha_w8, ?_⟩
       refine st3_t B2 rfl rfl rfl rfl fun u6 k_u6 B2 => ?_
       replace B1 := up1 k_u6 B1
       obtain ⟨A, X⟩ := axu2 k_u6 g2 A X
       refine ldB_t 0 B2 rfl ?_
       refine ldS_t 1 B2 rfl ?_
       refine ldI_t 2 B2 rfl ?_
       replace h := h _ X A
       exact ⟨A, h⟩

/-- surd/rounded.quotient: function 43, its local variables as values. -/
theorem rounded_quotient_v2 (a0 : Bool) (a1 : Slc) (a2 : Slc) (a3 : Int) (a4 : Int) (a5 : Int) (w : World) (R : Ending → World → Prop)
    (K15 : Bool → Slc → Slc → Int → Int → Bool → Slc → Int → World → Prop)
    (h : br ((a1.n : Int) == 0)
    (∀ w1, Ext w w1 → Ahead w w1 →
     (R (.returned (Value.tuple #[Value.agg #[Value.bool (false), ((⟨none, 0, 0⟩ : Slc)).v, Value.int .i64 (0 : Int)], Value.int .i64 0])) w1))
    (∀ w2, Ext w w2 → Ahead w w2 →
     (Calls Tryz.prog 46 #[a1.v] w2 fun e1 w3 =>
      ∃ x1 : Int, e1 = .returned (Value.int .i64 x1) ∧ Ahead w2 w3 ∧
      (Calls Tryz.prog 46 #[a2.v] w3 fun e2 w4 =>
       ∃ x2 : Int, e2 = .returned (Value.int .i64 x2) ∧ Ahead w3 w4 ∧
       (br (decide ((IntKind.i64.wrap ((IntKind.i64.wrap (x1 - x2)) + (IntKind.i64.wrap (a3 - a4)))) > 67108865))
        (∀ w5, Ext w4 w5 → Ahead w w5 →
         (R (.returned (Value.tuple #[Value.agg #[Value.bool (false), ((⟨none, 0, 0⟩ : Slc)).v, Value.int .i64 (0 : Int)], Value.int .i64 3])) w5))
        (br (decide ((IntKind.i64.wrap ((IntKind.i64.wrap (x1 - x2)) + (IntKind.i64.wrap (a3 - a4)))) < (-2)))
         (Calls Tryz.prog 47 #[Value.bool a0, (⟨none, 0, 0⟩ : Slc).v, Value.int .i64 1, Value.int .i64 a4, Value.int .i64 a5] w4 fun e3 w6 =>
          ∃ b1 : Bool, ∃ s1 : Slc, ∃ x3 : Int, ∃ x4 : Int, e3 = .returned (Value.tuple #[Value.agg #[Value.bool b1, s1.v, Value.int .i64 x3], Value.int .i64 x4]) ∧ Ahead w4 w6 ∧
          (∀ w7, Ext w6 w7 → Ahead w w7 →
           (R (.returned (Value.tuple #[Value.agg #[Value.bool b1, s1.v, Value.int .i64 x3], Value.int .i64 x4])) w7)))
         (br (decide ((IntKind.i64.wrap (a3 - a4)) ≥ 0))
          (Calls Tryz.prog 49 #[a2.v] w4 fun e4 w8 =>
           ∃ x5 : Int, e4 = .returned (Value.int .i64 x5) ∧ Ahead w4 w8 ∧
           (Calls Tryz.prog 48 #[a1.v, Value.int .i64 (IntKind.i64.wrap ((IntKind.i64.wrap (a3 - a4)) - (minI (IntKind.i64.wrap (a3 - a4)) x5)))] w8 fun e5 w9 =>
            ∃ s2 : Slc, e5 = .returned s2.v ∧ Ahead w8 w9 ∧
            (Calls Tryz.prog 50 #[a2.v, Value.int .i64 (minI (IntKind.i64.wrap (a3 - a4)) x5)] w9 fun e6 w10 =>
             ∃ s3 : Slc, e6 = .returned s3.v ∧ Ahead w9 w10 ∧
             (K15 a0 s2 s3 a4 a5 false (⟨none, 0, 0⟩ : Slc) 0 w10))))
          (Calls Tryz.prog 49 #[a1.v] w4 fun e14 w21 =>
           ∃ x12 : Int, e14 = .returned (Value.int .i64 x12) ∧ Ahead w4 w21 ∧
           (Calls Tryz.prog 50 #[a1.v, Value.int .i64 (minI (IntKind.i64.wrap (0 - (IntKind.i64.wrap (a3 - a4)))) x12)] w21 fun e15 w22 =>
            ∃ s10 : Slc, e15 = .returned s10.v ∧ Ahead w21 w22 ∧
            (Calls Tryz.prog 48 #[a2.v, Value.int .i64 (IntKind.i64.wrap ((IntKind.i64.wrap (0 - (IntKind.i64.wrap (a3 - a4)))) - (minI (IntKind.i64.wrap (0 - (IntKind.i64.wrap (a3 - a4)))) x12)))] w22 fun e16 w23 =>
             ∃ s11 : Slc, e16 = .returned s11.v ∧ Ahead w22 w23 ∧
             (K15 a0 s10 s11 a4 a5 false (⟨none, 0, 0⟩ : Slc) 0 w23)))))))))))
    (h3000015 : ∀ (t0 : Bool) (t1 : Slc) (t2 : Slc) (t4 : Int) (t5 : Int) (t12_0 : Bool) (t12_1 : Slc) (t12_2 : Int) (w_ : World), Ahead w w_ → K15 t0 t1 t2 t4 t5 t12_0 t12_1 t12_2 w_ → 
    Calls Tryz.prog 86 #[t1.v, t2.v] w_ fun e7 w11 =>
    ∃ s4 : Slc, ∃ x6 : Int, e7 = .returned (Value.tuple #[s4.v, Value.int .i64 x6]) ∧ Ahead w_ w11 ∧
    (br (x6 != 0)
     (∀ w12, Ext w11 w12 → Ahead w w12 →
      (R (.returned (Value.tuple #[Value.agg #[Value.bool (false), ((⟨none, 0, 0⟩ : Slc)).v, Value.int .i64 (0 : Int)], Value.int .i64 x6])) w12))
     (Calls Tryz.prog 88 #[s4.v, t2.v] w11 fun e8 w13 =>
      ∃ s5 : Slc, e8 = .returned s5.v ∧ Ahead w11 w13 ∧
      (Calls Tryz.prog 87 #[t1.v, s5.v] w13 fun e9 w14 =>
       ∃ s6 : Slc, e9 = .returned s6.v ∧ Ahead w13 w14 ∧
       (br (decide ((s6.n : Int) > 0))
        (Calls Tryz.prog 48 #[s6.v, Value.int .i64 1] w14 fun e10 w15 =>
         ∃ s7 : Slc, e10 = .returned s7.v ∧ Ahead w14 w15 ∧
         (Calls Tryz.prog 81 #[s7.v, t2.v] w15 fun e11 w16 =>
          ∃ x7 : Int, e11 = .returned (Value.int .i64 x7) ∧ Ahead w15 w16 ∧
          (Calls Tryz.prog 47 #[Value.bool t0, s4.v, Value.int .i64 (IntKind.i64.wrap (2 + x7)), Value.int .i64 t4, Value.int .i64 t5] w16 fun e12 w17 =>
           ∃ b2 : Bool, ∃ s8 : Slc, ∃ x8 : Int, ∃ x9 : Int, e12 = .returned (Value.tuple #[Value.agg #[Value.bool b2, s8.v, Value.int .i64 x8], Value.int .i64 x9]) ∧ Ahead w16 w17 ∧
           (∀ w18, Ext w17 w18 → Ahead w w18 →
            (R (.returned (Value.tuple #[Value.agg #[Value.bool b2, s8.v, Value.int .i64 x8], Value.int .i64 x9])) w18)))))
        (Calls Tryz.prog 47 #[Value.bool t0, s4.v, Value.int .i64 0, Value.int .i64 t4, Value.int .i64 t5] w14 fun e13 w19 =>
         ∃ b3 : Bool, ∃ s9 : Slc, ∃ x10 : Int, ∃ x11 : Int, e13 = .returned (Value.tuple #[Value.agg #[Value.bool b3, s9.v, Value.int .i64 x10], Value.int .i64 x11]) ∧ Ahead w14 w19 ∧
         (∀ w20, Ext w19 w20 → Ahead w w20 →
          (R (.returned (Value.tuple #[Value.agg #[Value.bool b3, s9.v, Value.int .i64 x10], Value.int .i64 x11])) w20)))))))) :
    Calls Tryz.prog 43 #[Value.bool a0, a1.v, a2.v, Value.int .i64 a3, Value.int .i64 a4, Value.int .i64 a5] w (fun e_ w_ => Ahead w w_ ∧ R e_ w_) := by
  refine rounded_quotient_vc a0 a1 a2 a3 a4 a5 w _ (fun t0 t1 t2 t4 t5 t12 w_ => ∃ c12_ : Nat, ∃ t12_0 : Bool, ∃ t12_1 : Slc, ∃ t12_2 : Int, t12 = ⟨c12_, 0, none⟩ ∧ Blt w_ c12_ 27 #[Value.bool t12_0, t12_1.v, Value.int .i64 t12_2] ∧ w.heap.size ≤ c12_ ∧ Ahead w w_ ∧ K15 t0 t1 t2 t4 t5 t12_0 t12_1 t12_2 w_) ?_ ?_
  · have A : Ahead w w := Ahead.refl w
    have X : Ext w w := Ext.refl w
    refine newC_t fun bk1 u1 hb1 ha_u1 _ B1 => ?_
    have g1 := le_eq A.size hb1
    obtain ⟨A, X⟩ := axa2 ha_u1 A X
    refine br_map h (fun h_ => ?_) (fun h_ => ?_)
    ·clear h
     have h := h_
     clear h_
     refine st3_t B1 rfl rfl rfl rfl fun u2 k_u2 B1 => ?_
     obtain ⟨A, X⟩ := axu2 k_u2 g1 A X
     refine ldB_t 0 B1 rfl ?_
     refine ldS_t 1 B1 rfl ?_
     refine ldI_t 2 B1 rfl ?_
     replace h := h _ X A
     exact ⟨A, h⟩
    ·clear h
     have h := h_
     clear h_
     replace h := h _ X A
     refine Calls.mono h ?_
     clear h
     rintro e1 w3 ⟨x1, he_, ha_w3, h⟩
     refine ⟨x1, he_, ?_⟩
     clear he_
     replace B1 := B1.ahead ha_w3
     obtain ⟨A, X⟩ := axa2 ha_w3 A X
     replace X : Ext w3 w3 := Ext.refl _
     refine Calls.mono h ?_
     clear h
     rintro e2 w4 ⟨x2, he_, ha_w4, h⟩
     refine ⟨x2, he_, ?_⟩
     clear he_
     replace B1 := B1.ahead ha_w4
     obtain ⟨A, X⟩ := axa2 ha_w4 A X
     replace X : Ext w4 w4 := Ext.refl _
     refine br_map h (fun h_ => ?_) (fun h_ => ?_)
     ·clear h
      have h := h_
      clear h_
      refine st3_t B1 rfl rfl rfl rfl fun u3 k_u3 B1 => ?_
      obtain ⟨A, X⟩ := axu2 k_u3 g1 A X
      refine ldB_t 0 B1 rfl ?_
      refine ldS_t 1 B1 rfl ?_
      refine ldI_t 2 B1 rfl ?_
      replace h := h _ X A
      exact ⟨A, h⟩
     ·clear h
      have h := h_
      clear h_
      refine br_map h (fun h_ => ?_) (fun h_ => ?_)
      ·clear h
       have h := h_
       clear h_
       refine Calls.mono h ?_
       clear h
       rintro e3 w6 ⟨b1, s1, x3, x4, he_, ha_w6, h⟩
       refine ⟨b1, s1, x3, x4, he_, ?_⟩
       clear he_
       replace B1 := B1.ahead ha_w6
       obtain ⟨A, X⟩ := axa2 ha_w6 A X
       replace X : Ext w6 w6 := Ext.refl _
       refine st3_t B1 rfl rfl rfl rfl fun u4 k_u4 B1 => ?_
       obtain ⟨A, X⟩ := axu2 k_u4 g1 A X
       refine ldB_t 0 B1 rfl ?_
       refine ldS_t 1 B1 rfl ?_
       refine ldI_t 2 B1 rfl ?_
       replace h := h _ X A
       exact ⟨A, h⟩
      ·clear h
       have h := h_
       clear h_
       refine br_map h (fun h_ => ?_) (fun h_ => ?_)
       ·clear h
        have h := h_
        clear h_
        refine Calls.mono h ?_
        clear h
        rintro e4 w8 ⟨x5, he_, ha_w8, h⟩
        refine ⟨x5, he_, ?_⟩
        clear he_
        replace B1 := B1.ahead ha_w8
        obtain ⟨A, X⟩ := axa2 ha_w8 A X
        replace X : Ext w8 w8 := Ext.refl _
        refine Calls.mono h ?_
        clear h
        rintro e5 w9 ⟨s2, he_, ha_w9, h⟩
        refine ⟨s2, he_, ?_⟩
        clear he_
        replace B1 := B1.ahead ha_w9
        obtain ⟨A, X⟩ := axa2 ha_w9 A X
        replace X : Ext w9 w9 := Ext.refl _
        refine Calls.mono h ?_
        clear h
        rintro e6 w10 ⟨s3, he_, ha_w10, h⟩
        refine ⟨s3, he_, ?_⟩
        clear he_
        replace B1 := B1.ahead ha_w10
        obtain ⟨A, X⟩ := axa2 ha_w10 A X
        replace X : Ext w10 w10 := Ext.refl _
        exact ⟨bk1, false, (⟨none, 0, 0⟩ : Slc), 0, rfl, B1, g1, A, h⟩
       ·clear h
        have h := h_
        clear h_
        refine Calls.mono h ?_
        clear h
        rintro e14 w21 ⟨x12, he_, ha_w21, h⟩
        refine ⟨x12, he_, ?_⟩
        clear he_
        replace B1 := B1.ahead ha_w21
        obtain ⟨A, X⟩ := axa2 ha_w21 A X
        replace X : Ext w21 w21 := Ext.refl _
        refine Calls.mono h ?_
        clear h
        rintro e15 w22 ⟨s10, he_, ha_w22, h⟩
        refine ⟨s10, he_, ?_⟩
        clear he_
        replace B1 := B1.ahead ha_w22
        obtain ⟨A, X⟩ := axa2 ha_w22 A X
        replace X : Ext w22 w22 := Ext.refl _
        refine Calls.mono h ?_
        clear h
        rintro e16 w23 ⟨s11, he_, ha_w23, h⟩
        refine ⟨s11, he_, ?_⟩
        clear he_
        replace B1 := B1.ahead ha_w23
        obtain ⟨A, X⟩ := axa2 ha_w23 A X
        replace X : Ext w23 w23 := Ext.refl _
        exact ⟨bk1, false, (⟨none, 0, 0⟩ : Slc), 0, rfl, B1, g1, A, h⟩
  · clear h
    rintro t0 t1 t2 t4 t5 t12 w_ ⟨bk1, t12_0, t12_1, t12_2, rfl, B1, g1, A, hJ3000015⟩
    have h := h3000015  t0 t1 t2 t4 t5 t12_0 t12_1 t12_2 w_ A hJ3000015
    have X : Ext w_ w_ := Ext.refl _
    refine Calls.mono h ?_
    clear h
    rintro e7 w11 ⟨s4, x6, he_, ha_w11, h⟩
    refine ⟨s4, x6, he_, ?_⟩
    clear he_
    replace B1 := B1.ahead ha_w11
    obtain ⟨A, X⟩ := axa2 ha_w11 A X
    replace X : Ext w11 w11 := Ext.refl _
    refine br_map h (fun h_ => ?_) (fun h_ => ?_)
    ·clear h
     have h := h_
     clear h_
     refine st3_t B1 rfl rfl rfl rfl fun u5 k_u5 B1 => ?_
     obtain ⟨A, X⟩ := axu2 k_u5 g1 A X
     refine ldB_t 0 B1 rfl ?_
     refine ldS_t 1 B1 rfl ?_
     refine ldI_t 2 B1 rfl ?_
     replace h := h _ X A
     exact ⟨A, h⟩
    ·clear h
     have h := h_
     clear h_
     refine Calls.mono h ?_
     clear h
     rintro e8 w13 ⟨s5, he_, ha_w13, h⟩
     refine ⟨s5, he_, ?_⟩
     clear he_
     replace B1 := B1.ahead ha_w13
     obtain ⟨A, X⟩ := axa2 ha_w13 A X
     replace X : Ext w13 w13 := Ext.refl _
     refine Calls.mono h ?_
     clear h
     rintro e9 w14 ⟨s6, he_, ha_w14, h⟩
     refine ⟨s6, he_, ?_⟩
     clear he_
     replace B1 := B1.ahead ha_w14
     obtain ⟨A, X⟩ := axa2 ha_w14 A X
     replace X : Ext w14 w14 := Ext.refl _
     refine br_map h (fun h_ => ?_) (fun h_ => ?_)
     ·clear h
      have h := h_
      clear h_
      refine Calls.mono h ?_
      clear h
      rintro e10 w15 ⟨s7, he_, ha_w15, h⟩
      refine ⟨s7, he_, ?_⟩
      clear he_
      replace B1 := B1.ahead ha_w15
      obtain ⟨A, X⟩ := axa2 ha_w15 A X
      replace X : Ext w15 w15 := Ext.refl _
      refine Calls.mono h ?_
      clear h
      rintro e11 w16 ⟨x7, he_, ha_w16, h⟩
      refine ⟨x7, he_, ?_⟩
      clear he_
      replace B1 := B1.ahead ha_w16
      obtain ⟨A, X⟩ := axa2 ha_w16 A X
      replace X : Ext w16 w16 := Ext.refl _
      refine Calls.mono h ?_
      clear h
      rintro e12 w17 ⟨b2, s8, x8, x9, he_, ha_w17, h⟩
      refine ⟨b2, s8, x8, x9, he_, ?_⟩
      clear he_
      replace B1 := B1.ahead ha_w17
      obtain ⟨A, X⟩ := axa2 ha_w17 A X
      replace X : Ext w17 w17 := Ext.refl _
      refine st3_t B1 rfl rfl rfl rfl fun u6 k_u6 B1 => ?_
      obtain ⟨A, X⟩ := axu2 k_u6 g1 A X
      refine ldB_t 0 B1 rfl ?_
      refine ldS_t 1 B1 rfl ?_
      refine ldI_t 2 B1 rfl ?_
      replace h := h _ X A
      exact ⟨A, h⟩
     ·clear h
      have h := h_
      clear h_
      refine Calls.mono h ?_
      clear h
      rintro e13 w19 ⟨b3, s9, x10, x11, he_, ha_w19, h⟩
      refine ⟨b3, s9, x10, x11, he_, ?_⟩
      clear he_
      replace B1 := B1.ahead ha_w19
      obtain ⟨A, X⟩ := axa2 ha_w19 A X
      replace X : Ext w19 w19 := Ext.refl _
      refine st3_t B1 rfl rfl rfl rfl fun u7 k_u7 B1 => ?_
      obtain ⟨A, X⟩ := axu2 k_u7 g1 A X
      refine ldB_t 0 B1 rfl ?_
      refine ldS_t 1 B1 rfl ?_
      refine ldI_t 2 B1 rfl ?_
      replace h := h _ X A
      exact ⟨A, h⟩

/-- surd/rounded.Quo: function 11, its local variables as values. -/
theorem rounded_Quo_v2 (a0_a_0 : Bool) (a0_a_1 : Slc) (a0_a_2 : Int) (a1_b_0 : Bool) (a1_b_1 : Slc) (a1_b_2 : Int) (a2_pos : Int) (a3_mode : Int) (w : World) (R : Ending → World → Prop)
    
    (h : ∀ w1, Ext w w1 → Ahead w w1 →
    (Calls Tryz.prog 41 #[Value.agg #[Value.bool a0_a_0, a0_a_1.v, Value.int .i64 a0_a_2]] w1 fun e1 w2 =>
     ∃ b1 : Bool, ∃ s1 : Slc, ∃ x1 : Int, ∃ x2 : Int, e1 = .returned (Value.tuple #[Value.agg #[Value.bool b1, s1.v, Value.int .i64 x1], Value.int .i64 x2]) ∧ Ahead w1 w2 ∧
     (br (x2 != 0)
      (∀ w3, Ext w2 w3 → Ahead w w3 →
       (R (.returned (Value.tuple #[Value.agg #[Value.bool (false), ((⟨none, 0, 0⟩ : Slc)).v, Value.int .i64 (0 : Int)], Value.int .i64 x2])) w3))
      (∀ w4, Ext w2 w4 → Ahead w w4 →
       (Calls Tryz.prog 41 #[Value.agg #[Value.bool a1_b_0, a1_b_1.v, Value.int .i64 a1_b_2]] w4 fun e2 w5 =>
        ∃ b2 : Bool, ∃ s2 : Slc, ∃ x3 : Int, ∃ x4 : Int, e2 = .returned (Value.tuple #[Value.agg #[Value.bool b2, s2.v, Value.int .i64 x3], Value.int .i64 x4]) ∧ Ahead w4 w5 ∧
        (br (x4 != 0)
         (∀ w6, Ext w5 w6 → Ahead w w6 →
          (R (.returned (Value.tuple #[Value.agg #[Value.bool (false), ((⟨none, 0, 0⟩ : Slc)).v, Value.int .i64 (0 : Int)], Value.int .i64 x4])) w6))
         (∀ w7, Ext w5 w7 → Ahead w w7 →
          (Calls Tryz.prog 42 #[Value.int .i64 a2_pos, Value.int .i64 a3_mode] w7 fun e3 w8 =>
           ∃ x5 : Int, e3 = .returned (Value.int .i64 x5) ∧ Ahead w7 w8 ∧
           (br (x5 != 0)
            (∀ w9, Ext w8 w9 → Ahead w w9 →
             (R (.returned (Value.tuple #[Value.agg #[Value.bool (false), ((⟨none, 0, 0⟩ : Slc)).v, Value.int .i64 (0 : Int)], Value.int .i64 x5])) w9))
            (br ((s2.n : Int) == 0)
             (∀ w10, Ext w8 w10 → Ahead w w10 →
              (R (.returned (Value.tuple #[Value.agg #[Value.bool (false), ((⟨none, 0, 0⟩ : Slc)).v, Value.int .i64 (0 : Int)], Value.int .i64 90])) w10))
             (Calls Tryz.prog 43 #[Value.bool (!(b1 == b2)), s1.v, s2.v, Value.int .i64 (IntKind.i64.wrap (x1 - x3)), Value.int .i64 a2_pos, Value.int .i64 a3_mode] w8 fun e4 w11 =>
              ∃ b3 : Bool, ∃ s3 : Slc, ∃ x6 : Int, ∃ x7 : Int, e4 = .returned (Value.tuple #[Value.agg #[Value.bool b3, s3.v, Value.int .i64 x6], Value.int .i64 x7]) ∧ Ahead w8 w11 ∧
              (∀ w12, Ext w11 w12 → Ahead w w12 →
               (R (.returned (Value.tuple #[Value.agg #[Value.bool b3, s3.v, Value.int .i64 x6], Value.int .i64 x7])) w12)))))))))))))
     :
    Calls Tryz.prog 11 #[Value.agg #[Value.bool a0_a_0, a0_a_1.v, Value.int .i64 a0_a_2], Value.agg #[Value.bool a1_b_0, a1_b_1.v, Value.int .i64 a1_b_2], Value.int .i64 a2_pos, Value.int .i64 a3_mode] w (fun e_ w_ => Ahead w w_ ∧ R e_ w_) := by
  refine rounded_Quo_vc a0_a_0 a0_a_1 a0_a_2 a1_b_0 a1_b_1 a1_b_2 a2_pos a3_mode w _  ?_
  · have A : Ahead w w := Ahead.refl w
    have X : Ext w w := Ext.refl w
    refine newC_t fun bk1 u1 hb1 ha_u1 _ B1 => ?_
    have g1 := le_eq A.size hb1
    obtain ⟨A, X⟩ := axa2 ha_u1 A X
    refine newC_t fun bk2 u2 hb2 ha_u2 _ B2 => ?_
    have g2 := le_eq A.size hb2
    have l1_2 := lt1 hb2 B1
    replace B1 := B1.ahead ha_u2
    obtain ⟨A, X⟩ := axa2 ha_u2 A X
    refine newC_t fun bk3 u3 hb3 ha_u3 _ B3 => ?_
    have g3 := le_eq A.size hb3
    obtain ⟨_, _⟩ := lt2 hb3 B1 B2
    obtain ⟨B1, B2⟩ := ah2 ha_u3 B1 B2
    obtain ⟨A, X⟩ := axa2 ha_u3 A X
    refine ldB_t 0 B1 rfl ?_
    refine ldS_t 1 B1 rfl ?_
    refine ldI_t 2 B1 rfl ?_
    replace h := h _ X A
    refine Calls.mono h ?_
    clear h
    rintro e1 w2 ⟨b1, s1, x1, x2, he_, ha_w2, h⟩
    refine ⟨b1, s1, x1, x2, he_, ?_⟩
    clear he_
    obtain ⟨B1, B2, B3⟩ := ah3 ha_w2 B1 B2 B3
    obtain ⟨A, X⟩ := axa2 ha_w2 A X
    replace X : Ext w2 w2 := Ext.refl _
    refine newC_t fun bk4 u4 hb4 ha_u4 _ B4 => ?_
    have g4 := le_eq A.size hb4
    obtain ⟨_, _, _⟩ := lt3 hb4 B1 B2 B3
    obtain ⟨B1, B2, B3⟩ := ah3 ha_u4 B1 B2 B3
    obtain ⟨A, X⟩ := axa2 ha_u4 A X
    refine st3_t B4 rfl rfl rfl rfl fun u5 k_u5 B4 => ?_
    obtain ⟨B1, B2, B3⟩ := up3 k_u5 B1 B2 B3
    obtain ⟨A, X⟩ := axu2 k_u5 g4 A X
    refine br_map h (fun h_ => ?_) (fun h_ => ?_)
    ·clear h
     have h := h_
     clear h_
     refine st3_t B3 rfl rfl rfl rfl fun u6 k_u6 B3 => ?_
     obtain ⟨B1, B2, B4⟩ := up3 k_u6 B1 B2 B4
     obtain ⟨A, X⟩ := axu2 k_u6 g3 A X
     refine ldB_t 0 B3 rfl ?_
     refine ldS_t 1 B3 rfl ?_
     refine ldI_t 2 B3 rfl ?_
     replace h := h _ X A
     exact ⟨A, h⟩
    ·clear h
     have h := h_
     clear h_
     refine ldB_t 0 B2 rfl ?_
     refine ldS_t 1 B2 rfl ?_
     refine ldI_t 2 B2 rfl ?_
     replace h := h _ X A
     refine Calls.mono h ?_
     clear h
     rintro e2 w5 ⟨b2, s2, x3, x4, he_, ha_w5, h⟩
     refine ⟨b2, s2, x3, x4, he_, ?_⟩
     clear he_
     obtain ⟨B1, B2, B3, B4⟩ := ah4 ha_w5 B1 B2 B3 B4
     obtain ⟨A, X⟩ := axa2 ha_w5 A X
     replace X : Ext w5 w5 := Ext.refl _
     refine newC_t fun bk5 u7 hb5 ha_u7 _ B5 => ?_
     have g5 := le_eq A.size hb5
     obtain ⟨_, _, _, _⟩ := lt4 hb5 B1 B2 B3 B4
     obtain ⟨B1, B2, B3, B4⟩ := ah4 ha_u7 B1 B2 B3 B4
     obtain ⟨A, X⟩ := axa2 ha_u7 A X
     refine st3_t B5 rfl rfl rfl rfl fun u8 k_u8 B5 => ?_
     obtain ⟨B1, B2, B3, B4⟩ := up4 k_u8 B1 B2 B3 B4
     obtain ⟨A, X⟩ := axu2 k_u8 g5 A X
     refine br_map h (fun h_ => ?_) (fun h_ => ?_)
     ·clear h
      have h := h_
      clear h_
      refine st3_t B3 rfl rfl rfl rfl fun u9 k_u9 B3 => ?_
      obtain ⟨B1, B2, B4, B5⟩ := up4 k_u9 B1 B2 B4 B5
      obtain ⟨A, X⟩ := axu2 k_u9 g3 A X
      refine ldB_t 0 B3 rfl ?_
      refine ldS_t 1 B3 rfl ?_
      refine ldI_t 2 B3 rfl ?_
      replace h := h _ X A
      exact ⟨A, h⟩
     ·clear h
      have h := h_
      clear h_
      replace h := h _ X A
      refine Calls.mono h ?_
      clear h
      rintro e3 w8 ⟨x5, he_, ha_w8, h⟩
      refine ⟨x5, he_, ?_⟩
      clear he_
      obtain ⟨B1, B2, B3, B4, B5⟩ := ah5 ha_w8 B1 B2 B3 B4 B5
      obtain ⟨A, X⟩ := axa2 ha_w8 A X
      replace X : Ext w8 w8 := Ext.refl _
      refine br_map h (fun h_ => ?_) (fun h_ => ?_)
      ·clear h
       have h := h_
       clear h_
       refine st3_t B3 rfl rfl rfl rfl fun u10 k_u10 B3 => ?_
       obtain ⟨B1, B2, B4, B5⟩ := up4 k_u10 B1 B2 B4 B5
       obtain ⟨A, X⟩ := axu2 k_u10 g3 A X
       refine ldB_t 0 B3 rfl ?_
       refine ldS_t 1 B3 rfl ?_
       refine ldI_t 2 B3 rfl ?_
       replace h := h _ X A
       exact ⟨A, h⟩
      ·clear h
       have h := h_
       clear h_
       refine ldS_t 1 B5 rfl ?_
       refine br_map h (fun h_ => ?_) (fun h_ => ?_)
       ·clear h
        have h := h_
        clear h_
        refine st3_t B3 rfl rfl rfl rfl fun u11 k_u11 B3 => ?_
        obtain ⟨B1, B2, B4, B5⟩ := up4 k_u11 B1 B2 B4 B5
        obtain ⟨A, X⟩ := axu2 k_u11 g3 A X
        refine ldB_t 0 B3 rfl ?_
        refine ldS_t 1 B3 rfl ?_
        refine ldI_t 2 B3 rfl ?_
        replace h := h _ X A
        exact ⟨A, h⟩
       ·clear h
        have h := h_
        clear h_
        refine ldB_t 0 B4 rfl ?_
        refine ldB_t 0 B5 rfl ?_
        refine ldS_t 1 B4 rfl ?_
        refine ldS_t 1 B5 rfl ?_
        refine ldI_t 2 B4 rfl ?_
        refine ldI_t 2 B5 rfl ?_
        refine Calls.mono h ?_
        clear h
        rintro e4 w11 ⟨b3, s3, x6, x7, he_, ha_w11, h⟩
        refine ⟨b3, s3, x6, x7, he_, ?_⟩
        clear he_
        obtain ⟨B1, B2, B3, B4, B5⟩ := ah5 ha_w11 B1 B2 B3 B4 B5
        obtain ⟨A, X⟩ := axa2 ha_w11 A X
        replace X : Ext w11 w11 := Ext.refl _
        refine st3_t B3 rfl rfl rfl rfl fun u12 k_u12 B3 => ?_
        obtain ⟨B1, B2, B4, B5⟩ := up4 k_u12 B1 B2 B4 B5
        obtain ⟨A, X⟩ := axu2 k_u12 g3 A X
        refine ldB_t 0 B3 rfl ?_
        refine ldS_t 1 B3 rfl ?_
        refine ldI_t 2 B3 rfl ?_
        replace h := h _ X A
        exact ⟨A, h⟩

/-- surd/rounded.Sqrt: function 14, its local variables as values. -/
theorem rounded_Sqrt_v2 (a0_0 : Bool) (a0_1 : Slc) (a0_2 : Int) (a1 : Int) (a2 : Int) (w : World) (R : Ending → World → Prop)
    (K24 : Int → Int → Bool → Slc → Bool → Slc → Int → World → Prop) (K29 : Int → Int → Slc → Slc → Bool → Bool → Slc → Int → World → Prop)
    (h : ∀ w1, Ext w w1 → Ahead w w1 →
    (Calls Tryz.prog 41 #[Value.agg #[Value.bool a0_0, a0_1.v, Value.int .i64 a0_2]] w1 fun e1 w2 =>
     ∃ b1 : Bool, ∃ s1 : Slc, ∃ x1 : Int, ∃ x2 : Int, e1 = .returned (Value.tuple #[Value.agg #[Value.bool b1, s1.v, Value.int .i64 x1], Value.int .i64 x2]) ∧ Ahead w1 w2 ∧
     (br (x2 != 0)
      (∀ w3, Ext w2 w3 → Ahead w w3 →
       (R (.returned (Value.tuple #[Value.agg #[Value.bool (false), ((⟨none, 0, 0⟩ : Slc)).v, Value.int .i64 (0 : Int)], Value.int .i64 x2])) w3))
      (∀ w4, Ext w2 w4 → Ahead w w4 →
       (Calls Tryz.prog 42 #[Value.int .i64 a1, Value.int .i64 a2] w4 fun e2 w5 =>
        ∃ x3 : Int, e2 = .returned (Value.int .i64 x3) ∧ Ahead w4 w5 ∧
        (br (x3 != 0)
         (∀ w6, Ext w5 w6 → Ahead w w6 →
          (R (.returned (Value.tuple #[Value.agg #[Value.bool (false), ((⟨none, 0, 0⟩ : Slc)).v, Value.int .i64 (0 : Int)], Value.int .i64 x3])) w6))
         (br ((s1.n : Int) == 0)
          (∀ w7, Ext w5 w7 → Ahead w w7 →
           (R (.returned (Value.tuple #[Value.agg #[Value.bool (false), ((⟨none, 0, 0⟩ : Slc)).v, Value.int .i64 (0 : Int)], Value.int .i64 0])) w7))
          (br b1
           (∀ w8, Ext w5 w8 → Ahead w w8 →
            (R (.returned (Value.tuple #[Value.agg #[Value.bool (false), ((⟨none, 0, 0⟩ : Slc)).v, Value.int .i64 (0 : Int)], Value.int .i64 91])) w8))
           (Calls Tryz.prog 46 #[s1.v] w5 fun e3 w9 =>
            ∃ x4 : Int, e3 = .returned (Value.int .i64 x4) ∧ Ahead w5 w9 ∧
            (br (decide ((IntKind.i64.wrap (x4 + (IntKind.i64.wrap (x1 - (IntKind.i64.wrap (2 * a1)))))) > 134217730))
             (∀ w10, Ext w9 w10 → Ahead w w10 →
              (R (.returned (Value.tuple #[Value.agg #[Value.bool (false), ((⟨none, 0, 0⟩ : Slc)).v, Value.int .i64 (0 : Int)], Value.int .i64 3])) w10))
             (Calls Tryz.prog 46 #[s1.v] w9 fun e4 w11 =>
              ∃ x5 : Int, e4 = .returned (Value.int .i64 x5) ∧ Ahead w9 w11 ∧
              (br (decide ((IntKind.i64.wrap (x5 + (IntKind.i64.wrap (x1 - (IntKind.i64.wrap (2 * a1)))))) < (-4)))
               (Calls Tryz.prog 47 #[Value.bool false, (⟨none, 0, 0⟩ : Slc).v, Value.int .i64 1, Value.int .i64 a1, Value.int .i64 a2] w11 fun e5 w12 =>
                ∃ b2 : Bool, ∃ s2 : Slc, ∃ x6 : Int, ∃ x7 : Int, e5 = .returned (Value.tuple #[Value.agg #[Value.bool b2, s2.v, Value.int .i64 x6], Value.int .i64 x7]) ∧ Ahead w11 w12 ∧
                (∀ w13, Ext w12 w13 → Ahead w w13 →
                 (R (.returned (Value.tuple #[Value.agg #[Value.bool b2, s2.v, Value.int .i64 x6], Value.int .i64 x7])) w13)))
               (br (decide ((IntKind.i64.wrap ((IntKind.i64.wrap (x1 - (IntKind.i64.wrap (2 * a1)))) + 2)) ≥ 0))
                (Calls Tryz.prog 48 #[s1.v, Value.int .i64 (IntKind.i64.wrap ((IntKind.i64.wrap (x1 - (IntKind.i64.wrap (2 * a1)))) + 2))] w11 fun e6 w14 =>
                 ∃ s3 : Slc, e6 = .returned s3.v ∧ Ahead w11 w14 ∧
                 (K24 a1 a2 false s3 false (⟨none, 0, 0⟩ : Slc) 0 w14))
                (Calls Tryz.prog 49 #[s1.v] w11 fun e19 w35 =>
                 ∃ x26 : Int, e19 = .returned (Value.int .i64 x26) ∧ Ahead w11 w35 ∧
                 (Calls Tryz.prog 50 #[s1.v, Value.int .i64 (IntKind.i64.wrap (0 - (IntKind.i64.wrap ((IntKind.i64.wrap (x1 - (IntKind.i64.wrap (2 * a1)))) + 2))))] w35 fun e20 w36 =>
                  ∃ s14 : Slc, e20 = .returned s14.v ∧ Ahead w35 w36 ∧
                  (K24 a1 a2 (decide (x26 < (IntKind.i64.wrap (0 - (IntKind.i64.wrap ((IntKind.i64.wrap (x1 - (IntKind.i64.wrap (2 * a1)))) + 2)))))) s14 false (⟨none, 0, 0⟩ : Slc) 0 w36))))))))))))))))
    (h3000024 : ∀ (t1 : Int) (t2 : Int) (t12 : Bool) (t13 : Slc) (t6_0 : Bool) (t6_1 : Slc) (t6_2 : Int) (w_ : World), Ahead w w_ → K24 t1 t2 t12 t13 t6_0 t6_1 t6_2 w_ → 
    Calls Tryz.prog 51 #[t13.v] w_ fun e7 w15 =>
    ∃ s4 : Slc, ∃ s5 : Slc, ∃ x8 : Int, e7 = .returned (Value.tuple #[s4.v, s5.v, Value.int .i64 x8]) ∧ Ahead w_ w15 ∧
    (br (x8 != 0)
     (∀ w16, Ext w15 w16 → Ahead w w16 →
      (R (.returned (Value.tuple #[Value.agg #[Value.bool (false), ((⟨none, 0, 0⟩ : Slc)).v, Value.int .i64 (0 : Int)], Value.int .i64 x8])) w16))
     (Calls Tryz.prog 50 #[s4.v, Value.int .i64 1] w15 fun e8 w17 =>
      ∃ s6 : Slc, e8 = .returned s6.v ∧ Ahead w15 w17 ∧
      (br t12
       (K29 t1 t2 s4 s6 true t6_0 t6_1 t6_2 w17)
       (K29 t1 t2 s4 s6 (decide ((s5.n : Int) > 0)) t6_0 t6_1 t6_2 w17)))))
    (h3000029 : ∀ (t1 : Int) (t2 : Int) (t14 : Slc) (t16 : Slc) (t17 : Bool) (t6_0 : Bool) (t6_1 : Slc) (t6_2 : Int) (w_ : World), Ahead w w_ → K29 t1 t2 t14 t16 t17 t6_0 t6_1 t6_2 w_ → 
    Calls Tryz.prog 52 #[t14.v, Value.int .i64 0] w_ fun e9 w18 =>
    ∃ x9 : Int, e9 = .returned (Value.int .i64 x9) ∧ Ahead w_ w18 ∧
    (br (x9 == 1)
     (br t17
      (Calls Tryz.prog 47 #[Value.bool false, t16.v, Value.int .i64 3, Value.int .i64 t1, Value.int .i64 t2] w18 fun e10 w19 =>
       ∃ b3 : Bool, ∃ s7 : Slc, ∃ x10 : Int, ∃ x11 : Int, e10 = .returned (Value.tuple #[Value.agg #[Value.bool b3, s7.v, Value.int .i64 x10], Value.int .i64 x11]) ∧ Ahead w18 w19 ∧
       (∀ w20, Ext w19 w20 → Ahead w w20 →
        (R (.returned (Value.tuple #[Value.agg #[Value.bool b3, s7.v, Value.int .i64 x10], Value.int .i64 x11])) w20)))
      (Calls Tryz.prog 52 #[t14.v, Value.int .i64 0] w18 fun e11 w21 =>
       ∃ x12 : Int, e11 = .returned (Value.int .i64 x12) ∧ Ahead w18 w21 ∧
       (br (x12 == 1)
        (Calls Tryz.prog 47 #[Value.bool false, t16.v, Value.int .i64 2, Value.int .i64 t1, Value.int .i64 t2] w21 fun e12 w22 =>
         ∃ b4 : Bool, ∃ s8 : Slc, ∃ x13 : Int, ∃ x14 : Int, e12 = .returned (Value.tuple #[Value.agg #[Value.bool b4, s8.v, Value.int .i64 x13], Value.int .i64 x14]) ∧ Ahead w21 w22 ∧
         (∀ w23, Ext w22 w23 → Ahead w w23 →
          (R (.returned (Value.tuple #[Value.agg #[Value.bool b4, s8.v, Value.int .i64 x13], Value.int .i64 x14])) w23)))
        (br t17
         (Calls Tryz.prog 47 #[Value.bool false, t16.v, Value.int .i64 1, Value.int .i64 t1, Value.int .i64 t2] w21 fun e13 w24 =>
          ∃ b5 : Bool, ∃ s9 : Slc, ∃ x15 : Int, ∃ x16 : Int, e13 = .returned (Value.tuple #[Value.agg #[Value.bool b5, s9.v, Value.int .i64 x15], Value.int .i64 x16]) ∧ Ahead w21 w24 ∧
          (∀ w25, Ext w24 w25 → Ahead w w25 →
           (R (.returned (Value.tuple #[Value.agg #[Value.bool b5, s9.v, Value.int .i64 x15], Value.int .i64 x16])) w25)))
         (Calls Tryz.prog 47 #[Value.bool false, t16.v, Value.int .i64 0, Value.int .i64 t1, Value.int .i64 t2] w21 fun e14 w26 =>
          ∃ b6 : Bool, ∃ s10 : Slc, ∃ x17 : Int, ∃ x18 : Int, e14 = .returned (Value.tuple #[Value.agg #[Value.bool b6, s10.v, Value.int .i64 x17], Value.int .i64 x18]) ∧ Ahead w21 w26 ∧
          (∀ w27, Ext w26 w27 → Ahead w w27 →
           (R (.returned (Value.tuple #[Value.agg #[Value.bool b6, s10.v, Value.int .i64 x17], Value.int .i64 x18])) w27)))))))
     (Calls Tryz.prog 52 #[t14.v, Value.int .i64 0] w18 fun e15 w28 =>
      ∃ x19 : Int, e15 = .returned (Value.int .i64 x19) ∧ Ahead w18 w28 ∧
      (br (x19 == 1)
       (Calls Tryz.prog 47 #[Value.bool false, t16.v, Value.int .i64 2, Value.int .i64 t1, Value.int .i64 t2] w28 fun e16 w29 =>
        ∃ b7 : Bool, ∃ s11 : Slc, ∃ x20 : Int, ∃ x21 : Int, e16 = .returned (Value.tuple #[Value.agg #[Value.bool b7, s11.v, Value.int .i64 x20], Value.int .i64 x21]) ∧ Ahead w28 w29 ∧
        (∀ w30, Ext w29 w30 → Ahead w w30 →
         (R (.returned (Value.tuple #[Value.agg #[Value.bool b7, s11.v, Value.int .i64 x20], Value.int .i64 x21])) w30)))
       (br t17
        (Calls Tryz.prog 47 #[Value.bool false, t16.v, Value.int .i64 1, Value.int .i64 t1, Value.int .i64 t2] w28 fun e17 w31 =>
         ∃ b8 : Bool, ∃ s12 : Slc, ∃ x22 : Int, ∃ x23 : Int, e17 = .returned (Value.tuple #[Value.agg #[Value.bool b8, s12.v, Value.int .i64 x22], Value.int .i64 x23]) ∧ Ahead w28 w31 ∧
         (∀ w32, Ext w31 w32 → Ahead w w32 →
          (R (.returned (Value.tuple #[Value.agg #[Value.bool b8, s12.v, Value.int .i64 x22], Value.int .i64 x23])) w32)))
        (Calls Tryz.prog 47 #[Value.bool false, t16.v, Value.int .i64 0, Value.int .i64 t1, Value.int .i64 t2] w28 fun e18 w33 =>
         ∃ b9 : Bool, ∃ s13 : Slc, ∃ x24 : Int, ∃ x25 : Int, e18 = .returned (Value.tuple #[Value.agg #[Value.bool b9, s13.v, Value.int .i64 x24], Value.int .i64 x25]) ∧ Ahead w28 w33 ∧
         (∀ w34, Ext w33 w34 → Ahead w w34 →
          (R (.returned (Value.tuple #[Value.agg #[Value.bool b9, s13.v, Value.int .i64 x24], Value.int .i64 x25])) w34)))))))) :
    Calls Tryz.prog 14 #[Value.agg #[Value.bool a0_0, a0_1.v, Value.int .i64 a0_2], Value.int .i64 a1, Value.int .i64 a2] w (fun e_ w_ => Ahead w w_ ∧ R e_ w_) := by
  refine rounded_Sqrt_vc a0_0 a0_1 a0_2 a1 a2 w _ (fun t1 t2 t6 t12 t13 w_ => ∃ c6_ : Nat, ∃ t6_0 : Bool, ∃ t6_1 : Slc, ∃ t6_2 : Int, t6 = ⟨c6_, 0, none⟩ ∧ Blt w_ c6_ 27 #[Value.bool t6_0, t6_1.v, Value.int .i64 t6_2] ∧ w.heap.size ≤ c6_ ∧ Ahead w w_ ∧ K24 t1 t2 t12 t13 t6_0 t6_1 t6_2 w_) (fun t1 t2 t6 t14 t16 t17 w_ => ∃ c6_ : Nat, ∃ t6_0 : Bool, ∃ t6_1 : Slc, ∃ t6_2 : Int, t6 = ⟨c6_, 0, none⟩ ∧ Blt w_ c6_ 27 #[Value.bool t6_0, t6_1.v, Value.int .i64 t6_2] ∧ w.heap.size ≤ c6_ ∧ Ahead w w_ ∧ K29 t1 t2 t14 t16 t17 t6_0 t6_1 t6_2 w_) ?_ ?_ ?_
  · have A : Ahead w w := Ahead.refl w
    have X : Ext w w := Ext.refl w
    refine newC_t fun bk1 u1 hb1 ha_u1 _ B1 => ?_
    have g1 := le_eq A.size hb1
    obtain ⟨A, X⟩ := axa2 ha_u1 A X
    refine newC_t fun bk2 u2 hb2 ha_u2 _ B2 => ?_
    have g2 := le_eq A.size hb2
    have l1_2 := lt1 hb2 B1
    replace B1 := B1.ahead ha_u2
    obtain ⟨A, X⟩ := axa2 ha_u2 A X
    refine ldB_t 0 B1 rfl ?_
    refine ldS_t 1 B1 rfl ?_
    refine ldI_t 2 B1 rfl ?_
    replace h := h _ X A
    refine Calls.mono h ?_
    clear h
    rintro e1 w2 ⟨b1, s1, x1, x2, he_, ha_w2, h⟩
    refine ⟨b1, s1, x1, x2, he_, ?_⟩
    clear he_
    obtain ⟨B1, B2⟩ := ah2 ha_w2 B1 B2
    obtain ⟨A, X⟩ := axa2 ha_w2 A X
    replace X : Ext w2 w2 := Ext.refl _
    refine newC_t fun bk3 u3 hb3 ha_u3 _ B3 => ?_
    have g3 := le_eq A.size hb3
    obtain ⟨_, _⟩ := lt2 hb3 B1 B2
    obtain ⟨B1, B2⟩ := ah2 ha_u3 B1 B2
    obtain ⟨A, X⟩ := axa2 ha_u3 A X
    refine st3_t B3 rfl rfl rfl rfl fun u4 k_u4 B3 => ?_
    obtain ⟨B1, B2⟩ := up2 k_u4 B1 B2
    obtain ⟨A, X⟩ := axu2 k_u4 g3 A X
    refine br_map h (fun h_ => ?_) (fun h_ => ?_)
    ·clear h
     have h := h_
     clear h_
     refine st3_t B2 rfl rfl rfl rfl fun u5 k_u5 B2 => ?_
     obtain ⟨B1, B3⟩ := up2 k_u5 B1 B3
     obtain ⟨A, X⟩ := axu2 k_u5 g2 A X
     refine ldB_t 0 B2 rfl ?_
     refine ldS_t 1 B2 rfl ?_
     refine ldI_t 2 B2 rfl ?_
     replace h := h _ X A
     exact ⟨A, h⟩
    ·clear h
     have h := h_
     clear h_
     replace h := h _ X A
     refine Calls.mono h ?_
     clear h
     rintro e2 w5 ⟨x3, he_, ha_w5, h⟩
     refine ⟨x3, he_, ?_⟩
     clear he_
     obtain ⟨B1, B2, B3⟩ := ah3 ha_w5 B1 B2 B3
     obtain ⟨A, X⟩ := axa2 ha_w5 A X
     replace X : Ext w5 w5 := Ext.refl _
     refine br_map h (fun h_ => ?_) (fun h_ => ?_)
     ·clear h
      have h := h_
      clear h_
      refine st3_t B2 rfl rfl rfl rfl fun u6 k_u6 B2 => ?_
      obtain ⟨B1, B3⟩ := up2 k_u6 B1 B3
      obtain ⟨A, X⟩ := axu2 k_u6 g2 A X
      refine ldB_t 0 B2 rfl ?_
      refine ldS_t 1 B2 rfl ?_
      refine ldI_t 2 B2 rfl ?_
      replace h := h _ X A
      exact ⟨A, h⟩
     ·clear h
      have h := h_
      clear h_
      refine ldS_t 1 B3 rfl ?_
      refine br_map h (fun h_ => ?_) (fun h_ => ?_)
      ·clear h
       have h := h_
       clear h_
       refine st3_t B2 rfl rfl rfl rfl fun u7 k_u7 B2 => ?_
       obtain ⟨B1, B3⟩ := up2 k_u7 B1 B3
       obtain ⟨A, X⟩ := axu2 k_u7 g2 A X
       refine ldB_t 0 B2 rfl ?_
       refine ldS_t 1 B2 rfl ?_
       refine ldI_t 2 B2 rfl ?_
       replace h := h _ X A
       exact ⟨A, h⟩
      ·clear h
       have h := h_
       clear h_
       refine ldB_t 0 B3 rfl ?_
       refine br_map h (fun h_ => ?_) (fun h_ => ?_)
       ·clear h
        have h := h_
        clear h_
        refine st3_t B2 rfl rfl rfl rfl fun u8 k_u8 B2 => ?_
        obtain ⟨B1, B3⟩ := up2 k_u8 B1 B3
        obtain ⟨A, X⟩ := axu2 k_u8 g2 A X
        refine ldB_t 0 B2 rfl ?_
        refine ldS_t 1 B2 rfl ?_
        refine ldI_t 2 B2 rfl ?_
        replace h := h _ X A
        exact ⟨A, h⟩
       ·clear h
        have h := h_
        clear h_
        refine ldI_t 2 B3 rfl ?_
        refine ldS_t 1 B3 rfl ?_
        refine Calls.mono h ?_
        clear h
        rintro e3 w9 ⟨x4, he_, ha_w9, h⟩
        refine ⟨x4, he_, ?_⟩
        clear he_
        obtain ⟨B1, B2, B3⟩ := ah3 ha_w9 B1 B2 B3
        obtain ⟨A, X⟩ := axa2 ha_w9 A X
        replace X : Ext w9 w9 := Ext.refl _
        refine br_map h (fun h_ => ?_) (fun h_ => ?_)
        ·clear h
         have h := h_
         clear h_
         refine st3_t B2 rfl rfl rfl rfl fun u9 k_u9 B2 => ?_
         obtain ⟨B1, B3⟩ := up2 k_u9 B1 B3
         obtain ⟨A, X⟩ := axu2 k_u9 g2 A X
         refine ldB_t 0 B2 rfl ?_
         refine ldS_t 1 B2 rfl ?_
         refine ldI_t 2 B2 rfl ?_
         replace h := h _ X A
         exact ⟨A, h⟩
        ·clear h
         have h := h_
         clear h_
         refine ldS_t 1 B3 rfl ?_
         refine Calls.mono h ?_
         clear h
         rintro e4 w11 ⟨x5, he_, ha_w11, h⟩
         refine ⟨x5, he_, ?_⟩
         clear he_
         obtain ⟨B1, B2, B3⟩ := ah3 ha_w11 B1 B2 B3
         obtain ⟨A, X⟩ := axa2 ha_w11 A X
         replace X : Ext w11 w11 := Ext.refl _
         refine br_map h (fun h_ => ?_) (fun h_ => ?_)
         ·clear h
          have h := h_
          clear h_
          refine Calls.mono h ?_
          clear h
          rintro e5 w12 ⟨b2, s2, x6, x7, he_, ha_w12, h⟩
          refine ⟨b2, s2, x6, x7, he_, ?_⟩
          clear he_
          obtain ⟨B1, B2, B3⟩ := ah3 ha_w12 B1 B2 B3
          obtain ⟨A, X⟩ := axa2 ha_w12 A X
          replace X : Ext w12 w12 := Ext.refl _
          refine st3_t B2 rfl rfl rfl rfl fun u10 k_u10 B2 => ?_
          obtain ⟨B1, B3⟩ := up2 k_u10 B1 B3
          obtain ⟨A, X⟩ := axu2 k_u10 g2 A X
          refine ldB_t 0 B2 rfl ?_
          refine ldS_t 1 B2 rfl ?_
          refine ldI_t 2 B2 rfl ?_
          replace h := h _ X A
          exact ⟨A, h⟩
         ·clear h
          have h := h_
          clear h_
          refine ldS_t 1 B3 rfl ?_
          refine br_map h (fun h_ => ?_) (fun h_ => ?_)
          ·clear h
           have h := h_
           clear h_
           refine Calls.mono h ?_
           clear h
           rintro e6 w14 ⟨s3, he_, ha_w14, h⟩
           refine ⟨s3, he_, ?_⟩
           clear he_
           obtain ⟨B1, B2, B3⟩ := ah3 ha_w14 B1 B2 B3
           obtain ⟨A, X⟩ := axa2 ha_w14 A X
           replace X : Ext w14 w14 := Ext.refl _
           exact ⟨bk2, false, (⟨none, 0, 0⟩ : Slc), 0, rfl, B2, g2, A, h⟩
          ·clear h
           have h := h_
           clear h_
           refine Calls.mono h ?_
           clear h
           rintro e19 w35 ⟨x26, he_, ha_w35, h⟩
           refine ⟨x26, he_, ?_⟩
           clear he_
           obtain ⟨B1, B2, B3⟩ := ah3 ha_w35 B1 B2 B3
           obtain ⟨A, X⟩ := axa2 ha_w35 A X
           replace X : Ext w35 w35 := Ext.refl _
           refine Calls.mono h ?_
           clear h
           rintro e20 w36 ⟨s14, he_, ha_w36, h⟩
           refine ⟨s14, he_, ?_⟩
           clear he_
           obtain ⟨B1, B2, B3⟩ := ah3 ha_w36 B1 B2 B3
           obtain ⟨A, X⟩ := axa2 ha_w36 A X
           replace X : Ext w36 w36 := Ext.refl _
           exact ⟨bk2, false, (⟨none, 0, 0⟩ : Slc), 0, rfl, B2, g2, A, h⟩
  · clear h
    rintro t1 t2 t6 t12 t13 w_ ⟨bk2, t6_0, t6_1, t6_2, rfl, B2, g2, A, hJ3000024⟩
    have h := h3000024  t1 t2 t12 t13 t6_0 t6_1 t6_2 w_ A hJ3000024
    have X : Ext w_ w_ := Ext.refl _
    refine Calls.mono h ?_
    clear h
    rintro e7 w15 ⟨s4, s5, x8, he_, ha_w15, h⟩
    refine ⟨s4, s5, x8, he_, ?_⟩
    clear he_
    replace B2 := B2.ahead ha_w15
    obtain ⟨A, X⟩ := axa2 ha_w15 A X
    replace X : Ext w15 w15 := Ext.refl _
    refine br_map h (fun h_ => ?_) (fun h_ => ?_)
    ·clear h
     have h := h_
     clear h_
     refine st3_t B2 rfl rfl rfl rfl fun u11 k_u11 B2 => ?_
     obtain ⟨A, X⟩ := axu2 k_u11 g2 A X
     refine ldB_t 0 B2 rfl ?_
     refine ldS_t 1 B2 rfl ?_
     refine ldI_t 2 B2 rfl ?_
     replace h := h _ X A
     exact ⟨A, h⟩
    ·clear h
     have h := h_
     clear h_
     refine Calls.mono h ?_
     clear h
     rintro e8 w17 ⟨s6, he_, ha_w17, h⟩
     refine ⟨s6, he_, ?_⟩
     clear he_
     replace B2 := B2.ahead ha_w17
     obtain ⟨A, X⟩ := axa2 ha_w17 A X
     replace X : Ext w17 w17 := Ext.refl _
     refine br_map h (fun h_ => ?_) (fun h_ => ?_)
     ·clear h
      have h := h_
      clear h_
      exact ⟨bk2, t6_0, t6_1, t6_2, rfl, B2, g2, A, h⟩
     ·clear h
      have h := h_
      clear h_
      exact ⟨bk2, t6_0, t6_1, t6_2, rfl, B2, g2, A, h⟩
  · clear h
    rintro t1 t2 t6 t14 t16 t17 w_ ⟨bk2, t6_0, t6_1, t6_2, rfl, B2, g2, A, hJ3000029⟩
    have h := h3000029  t1 t2 t14 t16 t17 t6_0 t6_1 t6_2 w_ A hJ3000029
    have X : Ext w_ w_ := Ext.refl _
    refine Calls.mono h ?_
    clear h
    rintro e9 w18 ⟨x9, he_, ha_w18, h⟩
    refine ⟨x9, he_, ?_⟩
    clear he_
    replace B2 := B2.ahead ha_w18
    obtain ⟨A, X⟩ := axa2 ha_w18 A X
    replace X : Ext w18 w18 := Ext.refl _
    refine br_map h (fun h_ => ?_) (fun h_ => ?_)
    ·clear h
     have h := h_
     clear h_
     refine br_map h (fun h_ => ?_) (fun h_ => ?_)
     ·clear h
      have h := h_
      clear h_
      refine Calls.mono h ?_
      clear h
      rintro e10 w19 ⟨b3, s7, x10, x11, he_, ha_w19, h⟩
      refine ⟨b3, s7, x10, x11, he_, ?_⟩
      clear he_
      replace B2 := B2.ahead ha_w19
      obtain ⟨A, X⟩ := axa2 ha_w19 A X
      replace X : Ext w19 w19 := Ext.refl _
      refine st3_t B2 rfl rfl rfl rfl fun u12 k_u12 B2 => ?_
      obtain ⟨A, X⟩ := axu2 k_u12 g2 A X
      refine ldB_t 0 B2 rfl ?_
      refine ldS_t 1 B2 rfl ?_
      refine ldI_t 2 B2 rfl ?_
      replace h := h _ X A
      exact ⟨A, h⟩
     ·clear h
      have h := h_
      clear h_
      refine Calls.mono h ?_
      clear h
      rintro e11 w21 ⟨x12, he_, ha_w21, h⟩
      refine ⟨x12, he_, ?_⟩
      clear he_
      replace B2 := B2.ahead ha_w21
      obtain ⟨A, X⟩ := axa2 ha_w21 A X
      replace X : Ext w21 w21 := Ext.refl _
      refine br_map h (fun h_ => ?_) (fun h_ => ?_)
      ·clear h
       have h := h_
       clear h_
       refine Calls.mono h ?_
       clear h
       rintro e12 w22 ⟨b4, s8, x13, x14, he_, ha_w22, h⟩
       refine ⟨b4, s8, x13, x14, he_, ?_⟩
       clear he_
       replace B2 := B2.ahead ha_w22
       obtain ⟨A, X⟩ := axa2 ha_w22 A X
       replace X : Ext w22 w22 := Ext.refl _
       refine st3_t B2 rfl rfl rfl rfl fun u13 k_u13 B2 => ?_
       obtain ⟨A, X⟩ := axu2 k_u13 g2 A X
       refine ldB_t 0 B2 rfl ?_
       refine ldS_t 1 B2 rfl ?_
       refine ldI_t 2 B2 rfl ?_
       replace h := h _ X A
       exact ⟨A, h⟩
      ·clear h
       have h := h_
       clear h_
       refine br_map h (fun h_ => ?_) (fun h_ => ?_)
       ·clear h
        have h := h_
        clear h_
        refine Calls.mono h ?_
        clear h
        rintro e13 w24 ⟨b5, s9, x15, x16, he_, ha_w24, h⟩
        refine ⟨b5, s9, x15, x16, he_, ?_⟩
        clear he_
        replace B2 := B2.ahead ha_w24
        obtain ⟨A, X⟩ := axa2 ha_w24 A X
        replace X : Ext w24 w24 := Ext.refl _
        refine st3_t B2 rfl rfl rfl rfl fun u14 k_u14 B2 => ?_
        obtain ⟨A, X⟩ := axu2 k_u14 g2 A X
        refine ldB_t 0 B2 rfl ?_
        refine ldS_t 1 B2 rfl ?_
        refine ldI_t 2 B2 rfl ?_
        replace h := h _ X A
        exact ⟨A, h⟩
       ·clear h
        have h := h_
        clear h_
        refine Calls.mono h ?_
        clear h
        rintro e14 w26 ⟨b6, s10, x17, x18, he_, ha_w26, h⟩
        refine ⟨b6, s10, x17, x18, he_, ?_⟩
        clear he_
        replace B2 := B2.ahead ha_w26
        obtain ⟨A, X⟩ := axa2 ha_w26 A X
        replace X : Ext w26 w26 := Ext.refl _
        refine st3_t B2 rfl rfl rfl rfl fun u15 k_u15 B2 => ?_
        obtain ⟨A, X⟩ := axu2 k_u15 g2 A X
        refine ldB_t 0 B2 rfl ?_
        refine ldS_t 1 B2 rfl ?_
        refine ldI_t 2 B2 rfl ?_
        replace h := h _ X A
        exact ⟨A, h⟩
    ·clear h
     have h := h_
     clear h_
     refine Calls.mono h ?_
     clear h
     rintro e15 w28 ⟨x19, he_, ha_w28, h⟩
     refine ⟨x19, he_, ?_⟩
     clear he_
     replace B2 := B2.ahead ha_w28
     obtain ⟨A, X⟩ := axa2 ha_w28 A X
     replace X : Ext w28 w28 := Ext.refl _
     refine br_map h (fun h_ => ?_) (fun h_ => ?_)
     ·clear h
      have h := h_
      clear h_
      refine Calls.mono h ?_
      clear h
      rintro e16 w29 ⟨b7, s11, x20, x21, he_, ha_w29, h⟩
      refine ⟨b7, s11, x20, x21, he_, ?_⟩
      clear he_
      replace B2 := B2.ahead ha_w29
      obtain ⟨A, X⟩ := axa2 ha_w29 A X
      replace X : Ext w29 w29 := Ext.refl _
      refine st3_t B2 rfl rfl rfl rfl fun u16 k_u16 B2 => ?_
      obtain ⟨A, X⟩ := axu2 k_u16 g2 A X
      refine ldB_t 0 B2 rfl ?_
      refine ldS_t 1 B2 rfl ?_
      refine ldI_t 2 B2 rfl ?_
      replace h := h _ X A
      exact ⟨A, h⟩
     ·clear h
      have h := h_
      clear h_
      refine br_map h (fun h_ => ?_) (fun h_ => ?_)
      ·clear h
       have h := h_
       clear h_
       refine Calls.mono h ?_
       clear h
       rintro e17 w31 ⟨b8, s12, x22, x23, he_, ha_w31, h⟩
       refine ⟨b8, s12, x22, x23, he_, ?_⟩
       clear he_
       replace B2 := B2.ahead ha_w31
       obtain ⟨A, X⟩ := axa2 ha_w31 A X
       replace X : Ext w31 w31 := Ext.refl _
       refine st3_t B2 rfl rfl rfl rfl fun u17 k_u17 B2 => ?_
       obtain ⟨A, X⟩ := axu2 k_u17 g2 A X
       refine ldB_t 0 B2 rfl ?_
       refine ldS_t 1 B2 rfl ?_
       refine ldI_t 2 B2 rfl ?_
       replace h := h _ X A
       exact ⟨A, h⟩
      ·clear h
       have h := h_
       clear h_
       refine Calls.mono h ?_
       clear h
       rintro e18 w33 ⟨b9, s13, x24, x25, he_, ha_w33, h⟩
       refine ⟨b9, s13, x24, x25, he_, ?_⟩
       clear he_
       replace B2 := B2.ahead ha_w33
       obtain ⟨A, X⟩ := axa2 ha_w33 A X
       replace X : Ext w33 w33 := Ext.refl _
       refine st3_t B2 rfl rfl rfl rfl fun u18 k_u18 B2 => ?_
       obtain ⟨A, X⟩ := axu2 k_u18 g2 A X
       refine ldB_t 0 B2 rfl ?_
       refine ldS_t 1 B2 rfl ?_
       refine ldI_t 2 B2 rfl ?_
       replace h := h _ X A
       exact ⟨A, h⟩

/-- surd/rounded.Ratio: function 77, its local variables as values. -/
theorem rounded_Ratio_v2 (a0_r_0 : Bool) (a0_r_1 : Slc) (a0_r_2 : Slc) (a1_pos : Int) (a2_mode : Int) (w : World) (R : Ending → World → Prop)
    
    (h : ∀ w1, Ext w w1 → Ahead w w1 →
    (Calls Tryz.prog 46 #[a0_r_2.v] w1 fun e1 w2 =>
     ∃ x1 : Int, e1 = .returned (Value.int .i64 x1) ∧ Ahead w1 w2 ∧
     (br (x1 == 0)
      (∀ w3, Ext w2 w3 → Ahead w w3 →
       (R (.returned (Value.tuple #[Value.agg #[Value.bool (false), ((⟨none, 0, 0⟩ : Slc)).v, Value.int .i64 (0 : Int)], Value.int .i64 70])) w3))
      (Calls Tryz.prog 42 #[Value.int .i64 a1_pos, Value.int .i64 a2_mode] w2 fun e2 w4 =>
       ∃ x2 : Int, e2 = .returned (Value.int .i64 x2) ∧ Ahead w2 w4 ∧
       (br (x2 != 0)
        (∀ w5, Ext w4 w5 → Ahead w w5 →
         (R (.returned (Value.tuple #[Value.agg #[Value.bool (false), ((⟨none, 0, 0⟩ : Slc)).v, Value.int .i64 (0 : Int)], Value.int .i64 x2])) w5))
        (∀ w6, Ext w4 w6 → Ahead w w6 →
         (Calls Tryz.prog 85 #[a0_r_1.v] w6 fun e3 w7 =>
          ∃ s1 : Slc, e3 = .returned s1.v ∧ Ahead w6 w7 ∧
          (Calls Tryz.prog 85 #[a0_r_2.v] w7 fun e4 w8 =>
           ∃ s2 : Slc, e4 = .returned s2.v ∧ Ahead w7 w8 ∧
           (Calls Tryz.prog 43 #[Value.bool a0_r_0, s1.v, s2.v, Value.int .i64 0, Value.int .i64 a1_pos, Value.int .i64 a2_mode] w8 fun e5 w9 =>
            ∃ b1 : Bool, ∃ s3 : Slc, ∃ x3 : Int, ∃ x4 : Int, e5 = .returned (Value.tuple #[Value.agg #[Value.bool b1, s3.v, Value.int .i64 x3], Value.int .i64 x4]) ∧ Ahead w8 w9 ∧
            (∀ w10, Ext w9 w10 → Ahead w w10 →
             (R (.returned (Value.tuple #[Value.agg #[Value.bool b1, s3.v, Value.int .i64 x3], Value.int .i64 x4])) w10)))))))))))
     :
    Calls Tryz.prog 77 #[Value.agg #[Value.bool a0_r_0, a0_r_1.v, a0_r_2.v], Value.int .i64 a1_pos, Value.int .i64 a2_mode] w (fun e_ w_ => Ahead w w_ ∧ R e_ w_) := by
  refine rounded_Ratio_vc a0_r_0 a0_r_1 a0_r_2 a1_pos a2_mode w _  ?_
  · have A : Ahead w w := Ahead.refl w
    have X : Ext w w := Ext.refl w
    refine newC_t fun bk1 u1 hb1 ha_u1 _ B1 => ?_
    have g1 := le_eq A.size hb1
    obtain ⟨A, X⟩ := axa2 ha_u1 A X
    refine newC_t fun bk2 u2 hb2 ha_u2 _ B2 => ?_
    have g2 := le_eq A.size hb2
    have l1_2 := lt1 hb2 B1
    replace B1 := B1.ahead ha_u2
    obtain ⟨A, X⟩ := axa2 ha_u2 A X
    refine ldS_t 2 B1 rfl ?_
    replace h := h _ X A
    refine Calls.mono h ?_
    clear h
    rintro e1 w2 ⟨x1, he_, ha_w2, h⟩
    refine ⟨x1, he_, ?_⟩
    clear he_
    obtain ⟨B1, B2⟩ := ah2 ha_w2 B1 B2
    obtain ⟨A, X⟩ := axa2 ha_w2 A X
    replace X : Ext w2 w2 := Ext.refl _
    refine br_map h (fun h_ => ?_) (fun h_ => ?_)
    ·clear h
     have h := h_
     clear h_
     refine st3_t B2 rfl rfl rfl rfl fun u3 k_u3 B2 => ?_
     replace B1 := up1 k_u3 B1
     obtain ⟨A, X⟩ := axu2 k_u3 g2 A X
     refine ldB_t 0 B2 rfl ?_
     refine ldS_t 1 B2 rfl ?_
     refine ldI_t 2 B2 rfl ?_
     replace h := h _ X A
     exact ⟨A, h⟩
    ·clear h
     have h := h_
     clear h_
     refine Calls.mono h ?_
     clear h
     rintro e2 w4 ⟨x2, he_, ha_w4, h⟩
     refine ⟨x2, he_, ?_⟩
     clear he_
     obtain ⟨B1, B2⟩ := ah2 ha_w4 B1 B2
     obtain ⟨A, X⟩ := axa2 ha_w4 A X
     replace X : Ext w4 w4 := Ext.refl _
     refine br_map h (fun h_ => ?_) (fun h_ => ?_)
     ·clear h
      have h := h_
      clear h_
      refine st3_t B2 rfl rfl rfl rfl fun u4 k_u4 B2 => ?_
      replace B1 := up1 k_u4 B1
      obtain ⟨A, X⟩ := axu2 k_u4 g2 A X
      refine ldB_t 0 B2 rfl ?_
      refine ldS_t 1 B2 rfl ?_
      refine ldI_t 2 B2 rfl ?_
      replace h := h _ X A
      exact ⟨A, h⟩
     ·clear h
      have h := h_
      clear h_
      have hd_ := Sp.Ahead.drew w4
      obtain ⟨B1, B2⟩ := ah2 hd_ B1 B2
      obtain ⟨A, X⟩ := axa2 hd_ A X
      clear hd_
      refine ldB_t 0 B1 rfl ?_
      refine ldS_t 1 B1 rfl ?_
      refine ldS_t 2 B1 rfl ?_
      replace h := h _ X A
      refine Calls.mono h ?_
      clear h
      rintro e3 w7 ⟨s1, he_, ha_w7, h⟩
      refine ⟨s1, he_, ?_⟩
      clear he_
      obtain ⟨B1, B2⟩ := ah2 ha_w7 B1 B2
      obtain ⟨A, X⟩ := axa2 ha_w7 A X
      replace X : Ext w7 w7 := Ext.refl _
      refine ⟨ha_w7, ?_⟩
      refine Calls.mono h ?_
      clear h
      rintro e4 w8 ⟨s2, he_, ha_w8, h⟩
      refine ⟨s2, he_, ?_⟩
      clear he_
      obtain ⟨B1, B2⟩ := ah2 ha_w8 B1 B2
      obtain ⟨A, X⟩ := axa2 ha_w8 A X
      replace X : Ext w8 w8 := Ext.refl _
      refine ⟨ha_w8, ?_⟩
      refine Calls.mono h ?_
      clear h
      rintro e5 w9 ⟨b1, s3, x3, x4, he_, ha_w9, h⟩
      refine ⟨b1, s3, x3, x4, he_, ?_⟩
      clear he_
      obtain ⟨B1, B2⟩ := ah2 ha_w9 B1 B2
      obtain ⟨A, X⟩ := axa2 ha_w9 A X
      replace X : Ext w9 w9 := Ext.refl _
      refine ⟨ha_w9, ?_⟩
      refine st3_t B2 rfl rfl rfl rfl fun u5 k_u5 B2 => ?_
      replace B1 := up1 k_u5 B1
      obtain ⟨A, X⟩ := axu2 k_u5 g2 A X
      refine ldB_t 0 B2 rfl ?_
      refine ldS_t 1 B2 rfl ?_
      refine ldI_t 2 B2 rfl ?_
      replace h := h _ X A
      exact ⟨A, h⟩

end Go.Proofs.YtbeiopoejdkheaaGreatDoor
namespace Go.Proofs.YtbeiopoejdkheaaGreatDoor
open Go Go.RowKit Eng Sp Dg Kd L2
set_option linter.unusedVariables false
set_option linter.unusedSimpArgs false
set_option maxRecDepth 100000
namespace Ro
open _root_.Go.Proofs.YtbeiopoejdkheaaGreatDoor.Nat (ldN ldNf stF stFf mkF Fill Fill.rd Fill.base Fill.src Fill.ahead Fill.own OwnNil OwnNil.rd OwnNil.ahead OwnNil.mono OwnNil.nil OwnNil.ext Num Num.ahead Num.bl num_of Norm_spec From_spec len_num own_num Ret Ret.num add_num cmp_num semShl semShr fixShl orI_nat bigC bigC_ok digs_len_bl)
open _root_.Go.Proofs.YtbeiopoejdkheaaGreatDoor.Mul (Mul_spec)
open _root_.Go.Proofs.YtbeiopoejdkheaaGreatDoor.Dq (rdig rhigh rlow)
open Dy Sb

theorem tdiv64 {n : Nat} (h : n ≤ 9223372036854775807) : IntKind.i64.wrap (Int.tdiv (n : Int) 64) = ((n / 64 : Nat) : Int) := by
  have : Int.tdiv (n : Int) 64 = ((n / 64 : Nat) : Int) := by rw [Int.tdiv_eq_ediv_of_nonneg (by omega)]; omega
  rw [this, wrap_i64 (by omega) (by omega)]
theorem tmod64 (n : Nat) : Int.tmod (n : Int) 64 = ((n % 64 : Nat) : Int) := by rw [Int.tmod_eq_emod_of_nonneg (by omega)]; omega
theorem t63 {n : Nat} : IntKind.u64.wrap (IntKind.i64.wrap (63 - ((n % 64 : Nat) : Int))) = ((63 - n % 64 : Nat) : Int) := by
  rw [wrap_i64 (by omega) (by omega), wrap_u64' (by omega) (by omega)]; omega

theorem left_spec {w : World} {a : Slc} {x n : Nat} (ra : Rd .u64 w a (nn (digs B64 x))) (hs : n / 64 + (digs B64 x).length + 1 ≤ 2 ^ 44) :
    Calls pr rounded_left_id #[a.v, .int .i64 (n : Int)] w fun e w' => Ahead w w' ∧ ∃ s, e = .returned (Slc.v s) ∧ OwnNil w.heap.size w' s (digs B64 (x * 2 ^ n)) := by
  have hB := B64v
  have h64 : B64 = 2 ^ 64 := rfl
  have hA0 := val_digs two64 x
  have oA := ok_digs two64 x
  have hw : n % 64 < 64 := Nat.mod_lt _ (by omega)
  have hp2 : B64 ^ (n / 64) * 2 ^ (n % 64) = 2 ^ n := (pow_split n 64).symm
  have hna : a.n = (digs B64 x).length := by rw [ra.n, nn_length]
  have hz : (digs B64 x).length = 0 → x = 0 := fun h => by
    rcases Nat.eq_zero_or_pos x with h0 | h0
    · exact h0
    · have := List.length_pos_iff.2 (digs_ne_nil two64 (show x ≠ 0 by omega)); omega
  generalize digs B64 x = A at *
  refine rounded_left_vc a (n : Int) w _ (fun t1 t5 t18 t19 t20 w' => t1 = (n : Int) ∧ t18 = a ∧ t19 = (A.length : Int) ∧ ∃ (l : List Nat) (j : Nat), t20 = (j : Int) ∧ j ≤ A.length ∧
    Fill w w' t5 l (fun w' => Rd .u64 w' a (nn A)) ∧ l.length = n / 64 + A.length + 1 ∧ ok B64 l ∧ val B64 l = val B64 (A.take j) * (B64 ^ (n / 64) * 2 ^ (n % 64))) (fun _ _ _ n i _ => (n - i).toNat) ?_ ?_
  · refine br_intro (fun h0 => ?_) (fun h0 => ?_)
    · have hx : x = 0 := hz (by have := eq_of_beq h0; omega)
      rw [hx, Nat.zero_mul, digs_zero]
      exact ⟨Ahead.refl _, _, rfl, OwnNil.nil⟩
    · rw [tdiv64 (by omega), hna, wrap_i64 (x := ((n / 64 : Nat) : Int) + _) (by omega) (by omega), wrap_i64 (by omega) (by omega), show ((n / 64 : Nat) : Int) + (A.length : Int) + 1 = ((n / 64 + A.length + 1 : Nat) : Int) by omega]
      refine mkF (w0 := w) (S := fun w' => Rd .u64 w' a (nn A)) (by omega) (by omega) (Ahead.refl _) ra ?_
      intro c w3 hcn hf ha
      refine ⟨rfl, rfl, rfl, _, 0, rfl, Nat.zero_le _, hf, by rw [List.length_replicate]; omega, ok_replicate (by omega) _, ?_⟩
      rw [val_replicate]; simp [val]
  · rintro t1 c t18 t19 t20 w' ⟨rfl, rfl, rfl, l, j, rfl, hj, hf, hl, ol, hv⟩
    have hS := hf.src (fun _ h hs => Rd.ahead hs h)
    refine br_intro (fun hlt => ?_) (fun hge => ?_)
    · have hj' : j < A.length := by have := of_decide_eq_true hlt; omega
      have hfacts := left_facts (w := 64) (l := l) (A := A) (j := j) (wd := n / 64) (s := n % 64) hw (by omega) oA hj' hv
      have hx := ok_getD oA (by omega : 0 < B64) j
      have hlk := ok_getD ol (by omega : 0 < B64) (n / 64 + j)
      rw [tdiv64 (by omega), tmod64, t63, wrap_i64 (x := ((n / 64 : Nat) : Int) + (j : Int)) (by omega) (by omega), show ((n / 64 : Nat) : Int) + (j : Int) = ((n / 64 + j : Nat) : Int) by omega,
        wrap_i64 (x := ((n / 64 + j : Nat) : Int) + 1) (by omega) (by omega), show ((n / 64 + j : Nat) : Int) + 1 = ((n / 64 + j + 1 : Nat) : Int) by omega, wrap_u64' (x := ((n % 64 : Nat) : Int)) (by omega) (by omega)]
      have e8 : IntKind.i64.wrap ((j : Int) + 1) = ((j + 1 : Nat) : Int) := by rw [wrap_i64 (by omega) (by omega)]; omega
      rw [e8]
      refine ldN hS (by omega) (by omega) ?_
      refine ldN hf.rd (by omega) (by omega) ?_
      refine semShl (by omega) ?_
      repeat rw [Int.toNat_natCast]
      rw [orI_nat hlk (Nat.mod_lt _ (by omega))]
      refine stF hf (by omega) (by omega) ?_
      intro w7 hf7
      rw [Int.toNat_natCast] at hf7
      refine ldN hf7.rd (by omega) (by simp; omega) ?_
      repeat rw [Int.toNat_natCast]
      have hlo : l.getD (n / 64 + j) 0 ||| A.getD j 0 * 2 ^ (n % 64) % B64 = l.getD (n / 64 + j) 0 + A.getD j 0 * 2 ^ (n % 64) % 2 ^ 64 := by
        have h2 := shl_lo (A.getD j 0) (n % 64) 64 (by omega)
        have h2' : A.getD j 0 * 2 ^ (n % 64) % B64 = _ := h2
        rw [h2', h2, or_add hfacts.1]
      have hlolt : l.getD (n / 64 + j) 0 ||| A.getD j 0 * 2 ^ (n % 64) % B64 < B64 := Nat.or_lt_two_pow (n := 64) hlk (Nat.mod_lt _ (by omega))
      have hhi : A.getD j 0 * 2 ^ (n % 64) / 2 ^ 64 < B64 := by
        rw [shl_hi _ _ _ (by omega)]
        exact Nat.lt_of_le_of_lt (Nat.div_le_self _ _) hx
      have e3 : Int.fdiv (A.getD j 0 : Int) (2 ^ (1 : Nat)) = ((A.getD j 0 / 2 : Nat) : Int) := by rw [Int.fdiv_eq_ediv_of_nonneg _ (by decide)]; norm_cast
      rw [e3]
      refine semShr (by omega) ?_
      have e6 : A.getD j 0 / 2 / 2 ^ (63 - n % 64) = A.getD j 0 * 2 ^ (n % 64) / 2 ^ 64 := by
        rw [shl_hi _ _ _ (by omega), Nat.div_div_eq_div_mul]
        congr 1
        rw [show 64 - n % 64 = 63 - n % 64 + 1 by omega, Nat.pow_succ]; omega
      have hzero : (l.set (n / 64 + j) (l.getD (n / 64 + j) 0 ||| A.getD j 0 * 2 ^ (n % 64) % B64)).getD (n / 64 + j + 1) 0 = 0 := by
        rw [getD_set _ _ _ _ (by omega), if_neg (by omega)]; exact hfacts.2
      rw [hzero, e6, orI_nat (by omega) hhi, Nat.zero_or]
      refine stF hf7 (by omega) (by simp; omega) ?_
      intro w10 hf10
      rw [Int.toNat_natCast] at hf10
      have stp := left_step (w := 64) (lo := l.getD (n / 64 + j) 0 ||| A.getD j 0 * 2 ^ (n % 64) % B64) hw (by omega) oA hj' hv hlo rfl
      exact ⟨⟨rfl, rfl, rfl, _, j + 1, rfl, by omega, hf10, by simpa using hl, ok_set (ok_set ol hlolt) hhi, stp⟩, by omega⟩
    · have hj' : j = A.length := by have := of_decide_eq_false hge; omega
      subst hj'
      rw [List.take_length, hA0, hp2] at hv
      refine Calls.mono (Norm_spec hf.rd (by omega) ol) ?_
      rw [hv]
      rintro e w3 ⟨h3, s, rfl, os⟩
      exact ⟨_, rfl, hf.base.trans h3, _, rfl, os.mono hf.base.size⟩

/-- A copy in memory of the call's own. -/
theorem copy_row {w : World} {x : Slc} {l : List Nat} {t ty : TypeId} (hx : Rd .u64 w x (nn l)) (h0 : 0 < l.length) (hl : l.length ≤ 2 ^ 44) {K : Slc → World → Prop} {S : World → Prop}
    (hk : ∀ s' w', Fill w w' s' l (fun _ => True) → K s' w') (hT : isSl pr t .u64 = some tU64 := by kernel_rfl) :
    semS pr (Builtin.append_ #[t, t] ty #[Slc.v ⟨none, 0, 0⟩, x.v]) w fun s' w' => K s' w' := by
  refine app (base := w.heap.size) (l := []) (ys := nn l) hT hx (by rw [nn_length]; exact h0) (.inl ⟨rfl, rfl⟩) (Nat.le_refl _) (by rw [nn_length]; simp; omega) ?_
  intro s' w' b' hb' hc' ho hbel _
  exact hk s' w' ⟨b', w, by simpa using ho, hc', hb', hbel, hbel, hb', trivial⟩

theorem right_spec {w : World} {a : Slc} {A : List Nat} {n : Nat} (ra : Rd .u64 w a (nn A)) (hl : A.length ≤ 2 ^ 44) (oA : ok B64 A) (hn : n ≤ 9223372036854775807) :
    Calls pr rounded_right_id #[a.v, .int .i64 (n : Int)] w fun e w' => Ahead w w' ∧ ∃ s, e = .returned (Slc.v s) ∧ OwnNil w.heap.size w' s (digs B64 (val B64 A / 2 ^ n)) := by
  have hB := B64v
  have h64 : B64 = 2 ^ 64 := rfl
  have hw : n % 64 < 64 := Nat.mod_lt _ (by omega)
  have hp2 : B64 ^ (n / 64) * 2 ^ (n % 64) = 2 ^ n := (pow_split n 64).symm
  have hna : a.n = A.length := by rw [ra.n, nn_length]
  have hac := ra.c
  have hN : ∀ i, val B64 A / 2 ^ n / B64 ^ i % B64 = A.getD (n / 64 + i) 0 / 2 ^ (n % 64) + 2 ^ (64 - n % 64) * (A.getD (n / 64 + i + 1) 0 % 2 ^ (n % 64)) := fun i => by rw [← hp2]; exact rdig oA hw
  refine rounded_right_vc a (n : Int) w _ (fun t1 t5 t18 t19 w' => t1 = (n : Int) ∧ t18 = ((A.length - n / 64 : Nat) : Int) ∧ n / 64 < A.length ∧ ∃ (l : List Nat) (j : Nat), t19 = (j : Int) ∧ j ≤ A.length - n / 64 ∧
    Fill w w' t5 l (fun _ => True) ∧ l.length = A.length - n / 64 ∧ ok B64 l ∧ (∀ i, i < j → l.getD i 0 = val B64 A / 2 ^ n / B64 ^ i % B64) ∧ ∀ i, j ≤ i → l.getD i 0 = A.getD (n / 64 + i) 0) (fun _ _ n i _ => (n - i).toNat) ?_ ?_
  · rw [tdiv64 hn]
    refine br_intro (fun h0 => ?_) (fun h0 => ?_)
    · have h0' : A.length ≤ n / 64 := by have := of_decide_eq_true h0; omega
      have : val B64 A / 2 ^ n = 0 := by
        refine Nat.div_eq_of_lt (Nat.lt_of_lt_of_le (val_lt oA) ?_)
        rw [b64_pow]
        exact Nat.pow_le_pow_right (by omega) (by omega)
      rw [this, digs_zero]
      exact ⟨Ahead.refl _, _, rfl, OwnNil.nil⟩
    · have h0' : n / 64 < A.length := by have := of_decide_eq_false h0; omega
      unfold semS
      rw [Sem.wp_iff_run, run_slice_lo (k := .u64) (e := tU64) (by kernel_rfl) w a (by omega) (by omega)]
      refine ⟨_, rfl, ?_⟩
      have rd := ra.drop (m := n / 64) (by rw [nn_length]; omega)
      rw [nn_drop] at rd
      rw [Int.toNat_natCast]
      refine copy_row (S := fun _ => True) rd (by simp; omega) (by simp; omega) fun s' w' hf => ?_
      have hsn : s'.n = A.length - n / 64 := by rw [hf.rd.n, nn_length, List.length_drop]
      exact ⟨rfl, by rw [hsn], h0', _, 0, rfl, Nat.zero_le _, hf, by simp, ok_drop oA _, fun i hi => by omega, fun i _ => by rw [getD_drop]⟩
  · rintro t1 c t18 t19 w' ⟨rfl, rfl, h0, l, j, rfl, hj, hf, hl2, ol, hd, hr⟩
    have hcn : c.n = l.length := by rw [hf.rd.n, nn_length]
    refine br_intro (fun hlt => ?_) (fun hge => ?_)
    · have hj' : j < A.length - n / 64 := by have := of_decide_eq_true hlt; omega
      have hx := ok_getD oA (by omega : 0 < B64) (n / 64 + j)
      have hN' := hN j
      rw [tmod64, t63, wrap_u64' (x := ((n % 64 : Nat) : Int)) (by omega) (by omega)]
      have e8 : IntKind.i64.wrap ((j : Int) + 1) = ((j + 1 : Nat) : Int) := by rw [wrap_i64 (by omega) (by omega)]; omega
      rw [e8]
      refine ldN hf.rd (by omega) (by omega) ?_
      refine semShr (by omega) ?_
      repeat rw [Int.toNat_natCast]
      rw [hr j (Nat.le_refl _)]
      have hq : A.getD (n / 64 + j) 0 / 2 ^ (n % 64) < B64 := Nat.lt_of_le_of_lt (Nat.div_le_self _ _) hx
      have hvlt : val B64 A / 2 ^ n / B64 ^ j % B64 < B64 := Nat.mod_lt _ (by omega)
      refine stF hf (by omega) (by omega) ?_
      intro w6 hf6
      rw [Int.toNat_natCast] at hf6
      have fin : ∀ {w7 : World}, Fill w w7 c (l.set j (val B64 A / 2 ^ n / B64 ^ j % B64)) (fun _ => True) →
          (∃ (l : List Nat) (j' : Nat), ((j + 1 : Nat) : Int) = (j' : Int) ∧ j' ≤ A.length - n / 64 ∧ Fill w w7 c l (fun _ => True) ∧ l.length = A.length - n / 64 ∧ ok B64 l ∧ (∀ i, i < j' → l.getD i 0 = val B64 A / 2 ^ n / B64 ^ i % B64) ∧ ∀ i, j' ≤ i → l.getD i 0 = A.getD (n / 64 + i) 0) := by
        intro w7 hf7
        refine ⟨_, j + 1, rfl, by omega, hf7, by simpa using hl2, ok_set ol hvlt, fun i hi => ?_, fun i hi => ?_⟩
        · rw [getD_set _ _ _ _ (by omega)]
          split
          · rename_i h; subst h; rfl
          · exact hd i (by omega)
        · rw [getD_set _ _ _ _ (by omega), if_neg (by omega)]
          exact hr i (by omega)
      refine br_intro (fun hin => ?_) (fun hin => ?_)
      · have hin' : j + 1 < l.length := by have := of_decide_eq_true hin; omega
        refine ldNf hf6.rd (by omega) (by simp; omega) ?_
        refine ldNf hf6.rd (by omega) (by simp; omega) ?_
        repeat rw [Int.toNat_natCast]
        have e9 : (l.set j (A.getD (n / 64 + j) 0 / 2 ^ (n % 64))).getD (j + 1) 0 = A.getD (n / 64 + j + 1) 0 := by
          rw [getD_set _ _ _ _ (by omega), if_neg (by omega), hr (j + 1) (by omega)]; rfl
        rw [e9]
        have hx1 := ok_getD oA (by omega : 0 < B64) (n / 64 + j + 1)
        have ew : IntKind.u64.wrap ((A.getD (n / 64 + j + 1) 0 : Int) * 2 ^ (1 : Nat)) = ((A.getD (n / 64 + j + 1) 0 * 2 % B64 : Nat) : Int) := by rw [wrap_u64, hB]; omega
        rw [ew]
        refine fixShl (by omega) ?_
        rw [rhigh hw, getD_set _ _ _ _ (by omega), if_pos rfl, orI_nat hq (by
          have h1 : A.getD (n / 64 + j + 1) 0 % 2 ^ (n % 64) < 2 ^ (n % 64) := Nat.mod_lt _ (Nat.pow_pos (by omega))
          have h2 := (Nat.mul_lt_mul_left (a := 2 ^ (64 - n % 64)) (Nat.pow_pos (by omega))).2 h1
          rwa [← Nat.pow_add, show 64 - n % 64 + n % 64 = 64 by omega] at h2), or_add (rlow hx hw), ← hN']
        refine stFf hf6 (Ahead.drew _) (by omega) (by simp; omega) ?_
        intro w7 hf7
        rw [Int.toNat_natCast, List.set_set] at hf7
        exact ⟨⟨rfl, rfl, h0, fin hf7⟩, by omega⟩
      · have hin' : l.length ≤ j + 1 := by have := of_decide_eq_false hin; omega
        rw [getD_ge A 0 (i := n / 64 + j + 1) (by omega), Nat.zero_mod, Nat.mul_zero, Nat.add_zero] at hN'
        rw [← hN'] at hf6
        exact ⟨⟨rfl, rfl, h0, fin hf6⟩, by omega⟩
    · have hj' : j = A.length - n / 64 := by have := of_decide_eq_false hge; omega
      subst hj'
      have hv : val B64 l = val B64 A / 2 ^ n := by
        refine val_of_digits (by omega) l _ ?_ (fun i hi => hd i (by omega))
        rw [Nat.div_lt_iff_lt_mul (Nat.pow_pos (by omega)), ← hp2, ← Nat.mul_assoc, hl2, ← Nat.pow_add, show A.length - n / 64 + n / 64 = A.length by omega]
        exact Nat.lt_of_lt_of_le (val_lt oA) (Nat.le_mul_of_pos_right _ (Nat.pow_pos (by omega)))
      refine Calls.mono (Norm_spec hf.rd (by omega) ol) ?_
      rw [hv]
      rintro e w3 ⟨h3, s, rfl, os⟩
      exact ⟨_, rfl, hf.base.trans h3, _, rfl, os.mono hf.base.size⟩

theorem times_spec {w : World} {a b : Slc} {x y : Nat} (ha : Num w a x) (hb : Num w b y) (la : bl x ≤ 33554432) (lb : bl y ≤ 33554432) (hp : bl (x * y) ≤ 67108864) :
    Calls pr rounded_times_id #[a.v, b.v] w fun e w' => Ahead w w' ∧ ∃ s, e = .returned (Slc.v s) ∧ OwnNil w.heap.size w' s (digs B64 (x * y)) := by
  have l1 := digs_len_bl (N := x) (m := 2 ^ 20) (by omega)
  have l2 := digs_len_bl (N := y) (m := 2 ^ 20) (by omega)
  refine rounded_times_vc a b w _ (fun _ _ _ _ _ => False) (fun _ _ _ _ _ => 0) (Calls.mono (Mul_spec ha hb (by omega) (by omega)) ?_) (fun _ _ _ _ _ h => h.elim)
  intro e w1 hr
  obtain ⟨h1, s, rfl, os, ns⟩ := hr.num (bigC_ok hp) hp
  exact ⟨_, _, rfl, br_true rfl ⟨h1, _, rfl, os⟩⟩
end Ro
end Go.Proofs.YtbeiopoejdkheaaGreatDoor
