/- mul's Parts, the document's Parts, and the law MulParts for inputs of at most 2^20 limbs. -/
import Derived.Test.YtindbeolpjkijaaMul9
namespace Go.Proofs.Ytindbeolpjkijaa
open Go Go.RowKit Eng Sp Dg
set_option linter.unusedVariables false
set_option linter.unusedSimpArgs false
set_option maxRecDepth 100000
namespace Mul
open _root_.Go.Proofs.Ytindbeolpjkijaa.Nat (Num OwnNil Ret bigC bigC_ok digs_len_bl Yes num_of Norm_spec)
open _root_.Go.Proofs.Ytindbeolpjkijaa.Ref (RN Lend_spec Of_spec Kept_spec Len_spec own_list old_new digs_own_len low_ahead Bk rMul_spec)

/-- The answer's number, by the three products. -/
def partsC (k : Int) (lo mid hi : Nat) : Int := if k < 0 then 1 else if bl lo ≤ 67108864 ∧ bl mid ≤ 67108864 ∧ bl hi ≤ 67108864 then 0 else 3

theorem bl_mono' {x y : Nat} (h : x ≤ y) : bl x ≤ bl y := bl_le_iff.2 (Nat.lt_of_le_of_lt h (lt_bl y))
theorem not_great_len {x y : Nat} (h : ¬ (x ≠ 0 ∧ y ≠ 0 ∧ 67108864 < bl x + bl y - 1)) (la : (digs B64 x).length + 16 ≤ 2 ^ 44) (lb : (digs B64 y).length + 16 ≤ 2 ^ 44) : (digs B64 x).length + (digs B64 y).length + 16 ≤ 2 ^ 44 := by
  by_cases hx : x = 0
  · subst hx; rw [digs_zero]; simp; omega
  · by_cases hy : y = 0
    · subst hy; rw [digs_zero]; simp; omega
    · have hbl : bl x + bl y - 1 ≤ 67108864 := by
        rcases Nat.lt_or_ge 67108864 (bl x + bl y - 1) with h6 | h6
        · exact absurd ⟨hx, hy, h6⟩ h
        · exact h6
      have p1 := bl_pos hx
      have p2 := bl_pos hy
      have := digs_len_bl (N := x) (m := 2 ^ 21) (by omega)
      have := digs_len_bl (N := y) (m := 2 ^ 21) (by omega)
      omega

/-- What Parts answers. -/
def PartsR (w : World) (k : Int) (lo mid hi : Nat) (e : Ending) (w' : World) : Prop := Ahead w w' ∧ ∃ p q r, e = .returned (.tuple #[Slc.v p, Slc.v q, Slc.v r, .int .i64 (partsC k lo mid hi)]) ∧
  OwnNil w.heap.size w' p (if partsC k lo mid hi = 0 then digs B64 lo else []) ∧ OwnNil w.heap.size w' q (if partsC k lo mid hi = 0 then digs B64 mid else []) ∧ OwnNil w.heap.size w' r (if partsC k lo mid hi = 0 then digs B64 hi else []) ∧
  (∀ j, Bk p j → ¬ Bk q j) ∧ (∀ j, Bk p j → ¬ Bk r j) ∧ ∀ j, Bk q j → ¬ Bk r j

theorem PartsR.refused {w w' : World} {k : Int} {lo mid hi : Nat} {c : Int} (h : Ahead w w') (hc : partsC k lo mid hi = c) (hc0 : c ≠ 0) :
    PartsR w k lo mid hi (.returned (.tuple #[(⟨none, 0, 0⟩ : Slc).v, (⟨none, 0, 0⟩ : Slc).v, (⟨none, 0, 0⟩ : Slc).v, .int .i64 c])) w' := by
  subst hc
  exact ⟨h, _, _, _, rfl, Or.inl ⟨rfl, if_neg hc0⟩, Or.inl ⟨rfl, if_neg hc0⟩, Or.inl ⟨rfl, if_neg hc0⟩, fun j h => by simp [Bk] at h, fun j h => by simp [Bk] at h, fun j h => by simp [Bk] at h⟩

theorem Parts_spec {w : World} {a b : Slc} {x y : Nat} {k : Int} (ha : Num w a x) (hb : Num w b y) (la : (digs B64 x).length + 16 ≤ 2 ^ 44) (lb : (digs B64 y).length + 16 ≤ 2 ^ 44) :
    Calls pr mul_Parts_id #[a.v, b.v, .int .i64 k] w (PartsR w k (x % B64 ^ k.toNat * (y % B64 ^ k.toNat)) (x % B64 ^ k.toNat * (y / B64 ^ k.toNat) + x / B64 ^ k.toNat * (y % B64 ^ k.toNat)) (x / B64 ^ k.toNat * (y / B64 ^ k.toNat))) := by
  refine mul_Parts_vc a b k w _ (br_intro (fun hk => ?_) (fun hk => ?_))
  · exact PartsR.refused (Ahead.refl _) (if_pos (by simpa using hk)) (by omega)
  have hk' : ¬ k < 0 := by simpa using hk
  obtain ⟨m, rfl⟩ : ∃ m : Nat, k = (m : Int) := ⟨k.toNat, by omega⟩
  have em : ((m : Int)).toNat = m := by omega
  rw [em]
  obtain ⟨l, ra, na, oa, rfl⟩ := ha
  obtain ⟨l', rb, nb, ob, rfl⟩ := hb
  refine Calls.mono (Norm_spec ra na oa) ?_
  rintro e w1 ⟨h1, s, rfl, os⟩
  refine ⟨_, rfl, Calls.mono (Norm_spec (rb.ahead h1) nb ob) ?_⟩
  rintro e w2 ⟨h2, t, rfl, ot⟩
  have h12 := h1.trans h2
  have rs := (os.ahead h2).rd
  have rt := ot.rd
  generalize val B64 l = x at *
  generalize val B64 l' = y at *
  have ox := ok_digs two64 x
  have oy := ok_digs two64 y
  have e1 : val B64 ((digs B64 x).take m) = x % B64 ^ m := by rw [val_take_mod two64 ox, val_digs two64]
  have e2 : val B64 ((digs B64 x).drop m) = x / B64 ^ m := by rw [val_drop_div two64 ox, val_digs two64]
  have e3 : val B64 ((digs B64 y).take m) = y % B64 ^ m := by rw [val_take_mod two64 oy, val_digs two64]
  have e4 : val B64 ((digs B64 y).drop m) = y / B64 ^ m := by rw [val_drop_div two64 oy, val_digs two64]
  have l1 : (digs B64 (x % B64 ^ m)).length ≤ (digs B64 x).length := Ref.len_mono two64 (Nat.mod_le _ _)
  have l2 : (digs B64 (x / B64 ^ m)).length ≤ (digs B64 x).length := Ref.len_mono two64 (Nat.div_le_self _ _)
  have l3 : (digs B64 (y % B64 ^ m)).length ≤ (digs B64 y).length := Ref.len_mono two64 (Nat.mod_le _ _)
  have l4 : (digs B64 (y / B64 ^ m)).length ≤ (digs B64 y).length := Ref.len_mono two64 (Nat.div_le_self _ _)
  refine ⟨_, rfl, Calls.mono (part_lo rs ox (by omega) m) ?_⟩
  rw [e1]
  rintro e w3 ⟨rfl, sal, rfl, ral, _⟩
  refine ⟨_, rfl, Calls.mono (part_hi rs ox (by omega) m s.n (by rw [rs.n, nn_length])) ?_⟩
  rw [e2]
  rintro e w4 ⟨rfl, sah, rfl, rah, _⟩
  refine ⟨_, rfl, Calls.mono (part_lo rt oy (by omega) m) ?_⟩
  rw [e3]
  rintro e w5 ⟨rfl, sbl, rfl, rbl, _⟩
  refine ⟨_, rfl, Calls.mono (part_hi rt oy (by omega) m t.n (by rw [rt.n, nn_length])) ?_⟩
  rw [e4]
  rintro e w6 ⟨rfl, sbh, rfl, rbh, _⟩
  clear e1 e2 e3 e4
  generalize x % B64 ^ m = al at *
  generalize x / B64 ^ m = ah at *
  generalize y % B64 ^ m = bl' at *
  generalize y / B64 ^ m = bh at *
  have nal : Num w6 sal al := ⟨_, ral, by omega, ok_digs two64 _, val_digs two64 _⟩
  have nah : Num w6 sah ah := ⟨_, rah, by omega, ok_digs two64 _, val_digs two64 _⟩
  have nbl : Num w6 sbl bl' := ⟨_, rbl, by omega, ok_digs two64 _, val_digs two64 _⟩
  have nbh : Num w6 sbh bh := ⟨_, rbh, by omega, ok_digs two64 _, val_digs two64 _⟩
  refine ⟨_, rfl, Calls.mono (Mul_spec nal nbl (by omega) (by omega)) ?_⟩
  rintro e w7 ⟨h7, p, rfl, op⟩
  refine ⟨_, _, rfl, Calls.mono (Mul_spec (nah.ahead h7) (nbh.ahead h7) (by omega) (by omega)) ?_⟩
  rintro e w8 ⟨h8, r, rfl, or_⟩
  have h68 := h7.trans h8
  have h08 := h12.trans h68
  have c3 : ¬ (bl (al * bl') ≤ 67108864 ∧ bl (al * bh + ah * bl') ≤ 67108864 ∧ bl (ah * bh) ≤ 67108864) → partsC (m : Int) (al * bl') (al * bh + ah * bl') (ah * bh) = 3 := fun h => by
    rw [partsC, if_neg hk', if_neg h]
  refine ⟨_, _, rfl, br_intro (fun hb1 => ?_) (fun hb1 => br_intro (fun hb2 => ?_) (fun hb2 => ?_))⟩
  · refine PartsR.refused h08 (c3 fun h => ?_) (by omega)
    rw [bigC_ok h.1] at hb1; simp at hb1
  · refine PartsR.refused h08 (c3 fun h => ?_) (by omega)
    rw [bigC_ok h.2.2] at hb2; simp at hb2
  have z1 : bigC (al * bl') = 0 := by simpa using hb1
  have z2 : bigC (ah * bh) = 0 := by simpa using hb2
  refine Calls.mono (great_spec (nal.ahead h68) (nbh.ahead h68)) ?_
  rintro e w9 ⟨rfl, c1, rfl, hc1⟩
  refine ⟨_, rfl, br_intro (fun g1 => ?_) (fun g1 => ?_)⟩
  · obtain ⟨h3, h4, h5⟩ := hc1.1 g1
    refine PartsR.refused h08 (c3 fun h => ?_) (by omega)
    have := bl_mul h3 h4
    have := bl_mono' (show al * bh ≤ al * bh + ah * bl' by omega)
    omega
  have lab := not_great_len (x := al) (y := bh) (fun h => by rw [hc1.2 h] at g1; cases g1) (by omega) (by omega)
  refine Calls.mono (great_spec (nah.ahead h68) (nbl.ahead h68)) ?_
  rintro e w10 ⟨rfl, c2, rfl, hc2⟩
  refine ⟨_, rfl, br_intro (fun g2 => ?_) (fun g2 => ?_)⟩
  · obtain ⟨h3, h4, h5⟩ := hc2.1 g2
    refine PartsR.refused h08 (c3 fun h => ?_) (by omega)
    have := bl_mul h3 h4
    have := bl_mono' (show ah * bl' ≤ al * bh + ah * bl' by omega)
    omega
  have lba := not_great_len (x := ah) (y := bl') (fun h => by rw [hc2.2 h] at g2; cases g2) (by omega) (by omega)
  refine Calls.mono (halved_spec _ w10 sal _ (ral.ahead h68) (ok_digs two64 _) sbh _ (rbh.ahead h68) (ok_digs two64 _) 40 (by omega) (by omega) (by omega) (Nat.le_refl _)) ?_
  rintro e w11 ⟨h11, u1, L1, rfl, ou1, nu1, ku1, vu1⟩
  rw [val_digs two64, val_digs two64] at vu1
  have h611 := h68.trans h11
  refine ⟨_, rfl, Calls.mono (halved_spec _ w11 sah _ (rah.ahead h611) (ok_digs two64 _) sbl _ (rbl.ahead h611) (ok_digs two64 _) 40 (by omega) (by omega) (by omega) (Nat.le_refl _)) ?_⟩
  rintro e w12 ⟨h12', u2, L2, rfl, ou2, nu2, ku2, vu2⟩
  rw [val_digs two64, val_digs two64] at vu2
  refine ⟨_, rfl, Calls.mono (sum_spec (ou1.ahead h12').rd ou2.rd ku1 ku2 (by omega) (by omega)) ?_⟩
  rintro e w13 ⟨h13, u3, L3, rfl, ou3, nu3, ku3, vu3⟩
  rw [vu1, vu2] at vu3
  refine ⟨_, rfl, Calls.mono (fits_spec ou3.rd (by omega) ku3) ?_⟩
  rw [vu3]
  rintro e w14 ⟨h14, q, rfl, oq⟩
  have h814 := ((h11.trans h12').trans h13).trans h14
  have h014 := h08.trans h814
  refine ⟨_, _, rfl, br_intro (fun hb3 => ?_) (fun hb3 => ?_)⟩
  · have hbig : ¬ bl (al * bh + ah * bl') ≤ 67108864 := fun h => by rw [bigC_ok h] at hb3; simp at hb3
    rw [bigC_ne hbig]
    exact PartsR.refused h014 (c3 fun h => hbig h.2.1) (by omega)
  · have z3 : bigC (al * bh + ah * bl') = 0 := by simpa using hb3
    have hc0 : partsC (m : Int) (al * bl') (al * bh + ah * bl') (ah * bh) = 0 := by rw [partsC, if_neg hk', if_pos ⟨bigC_bl z1, bigC_bl z3, bigC_bl z2⟩]
    rw [z1, if_pos rfl] at op
    rw [z2, if_pos rfl] at or_
    rw [z3, if_pos rfl] at oq
    refine ⟨h014, p, q, r, by rw [hc0], ?_, ?_, ?_, ?_, ?_, ?_⟩
    · rw [hc0, if_pos rfl]; exact ((op.ahead h8).ahead h814).mono h12.size
    · rw [hc0, if_pos rfl]; exact oq.mono ((h08.trans ((h11.trans h12').trans h13)).size)
    · rw [hc0, if_pos rfl]; exact (or_.ahead h814).mono (h12.trans h7).size
    · exact fun j => old_new op (h8.trans ((h11.trans h12').trans h13)).size oq j
    · exact fun j => old_new op (Nat.le_refl _) or_ j
    · exact fun j hq hr => old_new or_ ((h11.trans h12').trans h13).size oq j hr hq

theorem digs_mul_len {B x y : Nat} (hB : 2 ≤ B) : (digs B (x * y)).length ≤ (digs B x).length + (digs B y).length := by
  refine digs_length_le hB ?_
  rw [Nat.pow_add]
  have h1 := val_lt (ok_digs hB x)
  have h2 := val_lt (ok_digs hB y)
  rw [val_digs hB] at h1 h2
  exact Nat.mul_lt_mul_of_lt_of_lt h1 h2

theorem refParts_spec {w : World} {a b : Slc} {x y : Nat} {k : Int} (ha : RN w a x) (hb : RN w b y) (la : (digs B32 x).length + (digs B32 y).length + 8 ≤ 2 ^ 45) :
    Calls pr surdref02_Parts_id #[a.v, b.v, .int .i64 k] w fun e w' => Ahead w w' ∧ ∃ p q r, e = .returned (.tuple #[Slc.v p, Slc.v q, Slc.v r,
      .int .i64 (partsC k (x % B64 ^ k.toNat * (y % B64 ^ k.toNat)) (x % B64 ^ k.toNat * (y / B64 ^ k.toNat) + x / B64 ^ k.toNat * (y % B64 ^ k.toNat)) (x / B64 ^ k.toNat * (y / B64 ^ k.toNat)))]) ∧
      (partsC k (x % B64 ^ k.toNat * (y % B64 ^ k.toNat)) (x % B64 ^ k.toNat * (y / B64 ^ k.toNat) + x / B64 ^ k.toNat * (y % B64 ^ k.toNat)) (x / B64 ^ k.toNat * (y / B64 ^ k.toNat)) = 0 →
        RN w' p (x % B64 ^ k.toNat * (y % B64 ^ k.toNat)) ∧ RN w' q (x % B64 ^ k.toNat * (y / B64 ^ k.toNat) + x / B64 ^ k.toNat * (y % B64 ^ k.toNat)) ∧ RN w' r (x / B64 ^ k.toNat * (y / B64 ^ k.toNat))) := by
  refine surdref02_Parts_vc a b k w _ (br_intro (fun hk => ?_) (fun hk => ?_))
  · rw [partsC, if_pos (by simpa using hk)]
    exact ⟨Ahead.refl _, _, _, _, rfl, fun h => by omega⟩
  have hk' : ¬ k < 0 := by simpa using hk
  obtain ⟨m, rfl⟩ : ∃ m : Nat, k = (m : Int) := ⟨k.toNat, by omega⟩
  have em : ((m : Int)).toNat = m := by omega
  rw [em]
  have l1 : (digs B32 (x % B64 ^ m)).length ≤ (digs B32 x).length := Ref.len_mono two32 (Nat.mod_le _ _)
  have l2 : (digs B32 (x / B64 ^ m)).length ≤ (digs B32 x).length := Ref.len_mono two32 (Nat.div_le_self _ _)
  have l3 : (digs B32 (y % B64 ^ m)).length ≤ (digs B32 y).length := Ref.len_mono two32 (Nat.mod_le _ _)
  have l4 : (digs B32 (y / B64 ^ m)).length ≤ (digs B32 y).length := Ref.len_mono two32 (Nat.div_le_self _ _)
  refine Calls.mono (Halves_spec ha (by omega)) ?_
  rintro e w1 ⟨h1, sal, sah, rfl, ral, rah⟩
  refine ⟨_, _, rfl, Calls.mono (Halves_spec (hb.ahead h1) (by omega)) ?_⟩
  rintro e w2 ⟨h2, sbl, sbh, rfl, rbl, rbh⟩
  generalize x % B64 ^ m = al at *
  generalize x / B64 ^ m = ah at *
  generalize y % B64 ^ m = bl' at *
  generalize y / B64 ^ m = bh at *
  have ral2 := ral.ahead h2
  have rah2 := rah.ahead h2
  have m1 := digs_mul_len (x := al) (y := bl') two32
  have m2 := digs_mul_len (x := al) (y := bh) two32
  have m3 := digs_mul_len (x := ah) (y := bl') two32
  have m4 := digs_mul_len (x := ah) (y := bh) two32
  refine ⟨_, _, rfl, Calls.mono (rMul_spec ral2 rbl (by omega)) ?_⟩
  rintro e w3 ⟨h3, p, rfl, rp⟩
  refine ⟨_, rfl, Calls.mono (rMul_spec (ral2.ahead h3) (rbh.ahead h3) (by omega)) ?_⟩
  rintro e w4 ⟨h4, u, rfl, ru⟩
  have h24 := h3.trans h4
  refine ⟨_, rfl, Calls.mono (rMul_spec (rah2.ahead h24) (rbl.ahead h24) (by omega)) ?_⟩
  rintro e w5 ⟨h5, v, rfl, rv⟩
  refine ⟨_, rfl, Calls.mono (Ref.Add_spec (ru.ahead h5) rv (by omega) (by omega)) ?_⟩
  rintro e w6 ⟨h6, q, rfl, rq⟩
  have h26 := (h24.trans h5).trans h6
  have m5 := Ref.digs_add_len two32 (x := al * bh) (y := ah * bl') (k := 2 ^ 45) (by omega) (by omega)
  refine ⟨_, rfl, Calls.mono (rMul_spec (rah2.ahead h26) (rbh.ahead h26) (by omega)) ?_⟩
  rintro e w7 ⟨h7, r, rfl, rr⟩
  have rp7 := (((rp.ahead h4).ahead h5).ahead h6).ahead h7
  have rq7 := rq.ahead h7
  have h07 := ((h1.trans h2).trans h26).trans h7
  have c3 : ¬ (bl (al * bl') ≤ 67108864 ∧ bl (al * bh + ah * bl') ≤ 67108864 ∧ bl (ah * bh) ≤ 67108864) → partsC (m : Int) (al * bl') (al * bh + ah * bl') (ah * bh) = 3 := fun h => by
    rw [partsC, if_neg hk', if_neg h]
  refine ⟨_, rfl, Calls.mono (Len_spec rp7 (by omega)) ?_⟩
  rintro e w8 ⟨rfl, rfl⟩
  refine ⟨_, rfl, br_intro (fun hb => ?_) (fun hb => ?_)⟩
  · rw [c3 (fun h => by simp at hb; omega)]
    exact ⟨h07, _, _, _, rfl, fun h => by omega⟩
  refine Calls.mono (Len_spec rq7 (by omega)) ?_
  rintro e w9 ⟨rfl, rfl⟩
  refine ⟨_, rfl, br_intro (fun hb' => ?_) (fun hb' => ?_)⟩
  · rw [c3 (fun h => by simp at hb'; omega)]
    exact ⟨h07, _, _, _, rfl, fun h => by omega⟩
  refine Calls.mono (Len_spec rr (by omega)) ?_
  rintro e w10 ⟨rfl, rfl⟩
  refine ⟨_, rfl, br_intro (fun hb'' => ?_) (fun hb'' => ?_)⟩
  · rw [c3 (fun h => by simp at hb''; omega)]
    exact ⟨h07, _, _, _, rfl, fun h => by omega⟩
  · have hc0 : partsC (m : Int) (al * bl') (al * bh + ah * bl') (ah * bh) = 0 := by rw [partsC, if_neg hk', if_pos (by simp at hb hb' hb''; omega)]
    rw [hc0]
    exact ⟨h07, _, _, _, rfl, fun _ => ⟨rp7, rq7, rr⟩⟩

theorem partsC_bl {k : Int} {lo mid hi : Nat} (h : partsC k lo mid hi = 0) : bl lo ≤ 67108864 ∧ bl mid ≤ 67108864 ∧ bl hi ≤ 67108864 := by
  unfold partsC at h
  split at h
  · omega
  · split at h
    · assumption
    · omega
theorem own_len_of {c : Int} {n : Nat} (h : c = 0 → bl n ≤ 67108864) : ((if c = 0 then digs B64 n else []).length + 5) * 8 ≤ 2 ^ 47 := by
  by_cases hc : c = 0
  · rw [if_pos hc]
    have := digs_len_bl (N := n) (m := 2 ^ 20) (by have := h hc; omega)
    omega
  · rw [if_neg hc]; simp

theorem MulParts_ok {w : World} {s0 s1 : Slc} {l0 l1 : List Nat} {x2 : Int} (r0 : Rd .u64 w s0 (nn l0)) (o0 : ok B64 l0) (n0 : l0.length ≤ 1048576)
    (r1 : Rd .u64 w s1 (nn l1)) (o1 : ok B64 l1) (n1 : l1.length ≤ 1048576) (hk : -9223372036854775808 ≤ x2 ∧ x2 ≤ 9223372036854775807) :
    Calls pr surdlaw02_MulParts_id #[s0.v, s1.v, .int .i64 x2] w (Yes w) := by
  have hx := len32 o0
  have hy := len32 o1
  have hdx := Nat.len_le o0
  have hdy := Nat.len_le o1
  refine surdlaw02_MulParts_vc s0 s1 x2 w _ ?_
  refine Calls.mono (Lend_spec r0 (by omega) o0) ?_
  rintro e w1 ⟨h1, wa, pa, rfl, la⟩
  refine ⟨_, _, rfl, Calls.mono (Lend_spec (r1.ahead h1) (by omega) o1) ?_⟩
  rintro e w2 ⟨h2, wb, pb, rfl, lb⟩
  have h02 := h1.trans h2
  refine ⟨_, _, rfl, Calls.mono (Of_spec (r0.ahead h02) (by omega) o0) ?_⟩
  rintro e w3 ⟨h3, x, rfl, rx⟩
  have h03 := h02.trans h3
  refine ⟨_, rfl, Calls.mono (Of_spec (r1.ahead h03) (by omega) o1) ?_⟩
  rintro e w4 ⟨h4, y, rfl, ry⟩
  have h04 := h03.trans h4
  have la4 := la.ahead ((h2.trans h3).trans h4)
  have lb4 := lb.ahead (h3.trans h4)
  have rx4 := rx.ahead h4
  have pna : Num w4 pa (val B64 l0) := num_of la4.part o0 (by omega)
  have pnb : Num w4 pb (val B64 l1) := num_of lb4.part o1 (by omega)
  generalize val B64 l0 = X at *
  generalize val B64 l1 = Y at *
  refine ⟨_, rfl, Calls.mono (refParts_spec rx4 ry (by omega)) ?_⟩
  rintro e w5 ⟨h5, u1, u2, u3, rfl, ru⟩
  refine ⟨_, _, _, _, rfl, Calls.mono (Parts_spec (pna.ahead h5) (pnb.ahead h5) (by omega) (by omega)) ?_⟩
  generalize X % B64 ^ x2.toNat * (Y % B64 ^ x2.toNat) = lo at *
  generalize X % B64 ^ x2.toNat * (Y / B64 ^ x2.toNat) + X / B64 ^ x2.toNat * (Y % B64 ^ x2.toNat) = mid at *
  generalize X / B64 ^ x2.toNat * (Y / B64 ^ x2.toNat) = hi at *
  rintro e w6 ⟨h6, p, q, r, rfl, op, oq, or_, a1, a2, a3⟩
  have hbl := partsC_bl (k := x2) (lo := lo) (mid := mid) (hi := hi)
  refine ⟨_, _, _, _, rfl, Calls.mono (alike_spec op.rd (fun hc => (ru hc).1.ahead h6) fun hc => (hbl hc).1) ?_⟩
  rintro e w7 ⟨h7, rfl⟩
  refine ⟨_, rfl, br_true rfl (Calls.mono (alike_spec (oq.ahead h7).rd (fun hc => ((ru hc).2.1.ahead h6).ahead h7) fun hc => (hbl hc).2.1) ?_)⟩
  rintro e w8 ⟨h8, rfl⟩
  have h68 := h7.trans h8
  refine ⟨_, rfl, br_true rfl (Calls.mono (alike_spec (or_.ahead h68).rd (fun hc => ((ru hc).2.2.ahead h6).ahead h68) fun hc => (hbl hc).2.2) ?_)⟩
  rintro e w9 ⟨h9, rfl⟩
  have h69 := h68.trans h9
  have h59 := h6.trans h69
  refine ⟨_, rfl, br_true rfl ?_⟩
  refine Calls.mono (own_list (base := w5.heap.size) [(p, if partsC x2 lo mid hi = 0 then digs B64 lo else []), (q, if partsC x2 lo mid hi = 0 then digs B64 mid else []), (r, if partsC x2 lo mid hi = 0 then digs B64 hi else [])] h59.size ?_ ?_ (by simp) rfl rfl) ?_
  · intro z hz
    simp only [List.mem_cons, List.not_mem_nil, or_false] at hz
    rcases hz with rfl | rfl | rfl
    · exact ⟨op.ahead h69, own_len_of fun h => (hbl h).1⟩
    · exact ⟨oq.ahead h69, own_len_of fun h => (hbl h).2.1⟩
    · exact ⟨or_.ahead h69, own_len_of fun h => (hbl h).2.2⟩
  · simp only [List.pairwise_cons, List.mem_cons, List.not_mem_nil, or_false, forall_eq_or_imp, forall_eq, List.Pairwise.nil, and_true, false_implies, implies_true]
    exact ⟨⟨a1, a2⟩, a3⟩
  rintro e w11 ⟨rfl, hb11⟩
  have h511 : Ahead w5 w11 := low_ahead h59 (Nat.le_refl _) hb11
  have h411 := h5.trans h511
  have h011 := h04.trans h411
  refine ⟨_, rfl, br_true rfl (Calls.mono (Kept_spec (la4.ahead h411).whole (r0.ahead h011) (by omega)) ?_)⟩
  rintro e w12 ⟨rfl, rfl⟩
  refine ⟨_, rfl, br_true rfl (Calls.mono (Kept_spec (lb4.ahead h411).whole (r1.ahead h011) (by omega)) ?_)⟩
  rintro e w13 ⟨rfl, rfl⟩
  exact ⟨_, rfl, br_true rfl (end_awake h011)⟩

end Mul
end Go.Proofs.Ytindbeolpjkijaa
