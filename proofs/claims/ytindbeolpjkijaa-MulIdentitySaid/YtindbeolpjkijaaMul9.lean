/- mul's Split, the document's Split, and the law MulSplits. No condition. -/
import Derived.Test.YtindbeolpjkijaaMul8
namespace Go.Proofs.Ytindbeolpjkijaa
open Go Go.RowKit Eng Sp Dg
set_option linter.unusedVariables false
set_option linter.unusedSimpArgs false
set_option maxRecDepth 100000
namespace Mul
open _root_.Go.Proofs.Ytindbeolpjkijaa.Nat (Num OwnNil Ret bigC bigC_ok digs_len_bl Yes num_of Norm_spec)
open _root_.Go.Proofs.Ytindbeolpjkijaa.Ref (RN Lend_spec Of_spec Kept_spec Len_spec own_list old_new digs_own_len low_ahead Bk)

theorem val_take_mod {B : Nat} (hB : 2 ≤ B) {l : List Nat} (h : ok B l) (k : Nat) : val B (l.take k) = val B l % B ^ k := by
  have hp : 0 < B ^ k := Nat.pow_pos (by omega)
  rcases Nat.lt_or_ge l.length k with hk | hk
  · rw [List.take_of_length_le (by omega)]
    have h1 := val_lt h
    have h2 := Nat.pow_le_pow_right (n := B) (by omega) (Nat.le_of_lt hk)
    rw [Nat.mod_eq_of_lt (by omega)]
  · rw [val_take_drop l k hk, Nat.add_mul_mod_self_left]
    have h1 := val_lt (ok_take h k)
    rw [List.length_take, Nat.min_eq_left hk] at h1
    rw [Nat.mod_eq_of_lt h1]
theorem val_drop_div {B : Nat} (hB : 2 ≤ B) {l : List Nat} (h : ok B l) (k : Nat) : val B (l.drop k) = val B l / B ^ k := by
  have hp : 0 < B ^ k := Nat.pow_pos (by omega)
  rcases Nat.lt_or_ge l.length k with hk | hk
  · rw [List.drop_of_length_le (by omega)]
    have h1 := val_lt h
    have h2 := Nat.pow_le_pow_right (n := B) (by omega) (Nat.le_of_lt hk)
    rw [Nat.div_eq_of_lt (by omega)]; rfl
  · rw [val_take_drop l k hk, Nat.add_mul_div_left _ _ hp]
    have h1 := val_lt (ok_take h k)
    rw [List.length_take, Nat.min_eq_left hk] at h1
    rw [Nat.div_eq_of_lt h1, Nat.zero_add]

/-- Split's answer's number. -/
def splitC (x : Nat) (k : Int) : Int := if k < 0 then 1 else if bl (x % B64 ^ k.toNat) ≤ 67108864 ∧ bl (x / B64 ^ k.toNat) ≤ 67108864 then 0 else 3
theorem bigC_ne {n : Nat} (h : ¬ bl n ≤ 67108864) : bigC n = 3 := by rw [bigC, if_neg h]

theorem Split_spec {w : World} {a : Slc} {x : Nat} {k : Int} (ha : Num w a x) :
    Calls pr mul_Split_id #[a.v, .int .i64 k] w fun e w' => Ahead w w' ∧ ∃ s t, e = .returned (.tuple #[Slc.v s, Slc.v t, .int .i64 (splitC x k)]) ∧
      OwnNil w.heap.size w' s (if splitC x k = 0 then digs B64 (x % B64 ^ k.toNat) else []) ∧ OwnNil w.heap.size w' t (if splitC x k = 0 then digs B64 (x / B64 ^ k.toNat) else []) ∧ ∀ j, Bk s j → ¬ Bk t j := by
  refine mul_Split_vc a k w _ (br_intro (fun hk => ?_) (fun hk => ?_))
  · have hc : splitC x k = 1 := if_pos (by simpa using hk)
    rw [hc]
    exact ⟨Ahead.refl _, _, _, rfl, Or.inl ⟨rfl, by rw [if_neg (by omega)]⟩, Or.inl ⟨rfl, by rw [if_neg (by omega)]⟩, fun j h => by simp [Bk] at h⟩
  obtain ⟨l, ra, na, oa, rfl⟩ := ha
  have hk' : ¬ k < 0 := by simpa using hk
  have hdl := Nat.len_le oa
  refine Calls.mono (Norm_spec ra na oa) ?_
  rintro e w1 ⟨h1, s, rfl, os⟩
  generalize val B64 l = x at *
  have ox := ok_digs two64 x
  obtain ⟨m, rfl⟩ : ∃ m : Nat, k = (m : Int) := ⟨k.toNat, by omega⟩
  have em : ((m : Int)).toNat = m := by omega
  rw [em]
  have e1 : val B64 ((digs B64 x).take m) = x % B64 ^ m := by rw [val_take_mod two64 ox, val_digs two64]
  have e2 : val B64 ((digs B64 x).drop m) = x / B64 ^ m := by rw [val_drop_div two64 ox, val_digs two64]
  refine ⟨_, rfl, Calls.mono (part_lo os.rd ox (by omega) m) ?_⟩
  rw [e1]
  rintro e w2 ⟨rfl, p, rfl, rp, lp⟩
  have lo1 : (digs B64 (x % B64 ^ m)).length ≤ (digs B64 x).length := Ref.len_mono two64 (Nat.mod_le _ _)
  have hi1 : (digs B64 (x / B64 ^ m)).length ≤ (digs B64 x).length := Ref.len_mono two64 (Nat.div_le_self _ _)
  refine ⟨_, rfl, Calls.mono (fits_spec rp (by omega) (ok_digs two64 _)) ?_⟩
  rw [val_digs two64]
  rintro e w3 ⟨h3, u, rfl, ou⟩
  refine ⟨_, _, rfl, Calls.mono (part_hi (os.ahead h3).rd ox (by omega) m s.n (by rw [os.rd.n, nn_length])) ?_⟩
  rw [e2]
  rintro e w4 ⟨rfl, q, rfl, rq, lq⟩
  refine ⟨_, rfl, Calls.mono (fits_spec rq (by omega) (ok_digs two64 _)) ?_⟩
  rw [val_digs two64]
  rintro e w5 ⟨h5, v, rfl, ov⟩
  have hall := (h1.trans h3).trans h5
  have nil3 : bl (x % B64 ^ m) ≤ 67108864 ∧ bl (x / B64 ^ m) ≤ 67108864 ∨ splitC x (m : Int) = 3 := by
    by_cases hb : bl (x % B64 ^ m) ≤ 67108864 ∧ bl (x / B64 ^ m) ≤ 67108864
    · exact .inl hb
    · right
      rw [splitC, if_neg hk', em, if_neg hb]
  refine ⟨_, _, rfl, br_intro (fun hb => ?_) (fun hb => br_intro (fun hb' => ?_) (fun hb' => ?_))⟩
  · have hc : splitC x (m : Int) = 3 := by
      rcases nil3 with ⟨h, _⟩ | h
      · rw [bigC_ok h] at hb; simp at hb
      · exact h
    rw [hc]
    exact ⟨hall, _, _, rfl, Or.inl ⟨rfl, by rw [if_neg (by omega)]⟩, Or.inl ⟨rfl, by rw [if_neg (by omega)]⟩, fun j h => by simp [Bk] at h⟩
  · have hc : splitC x (m : Int) = 3 := by
      rcases nil3 with ⟨_, h⟩ | h
      · rw [bigC_ok h] at hb'; simp at hb'
      · exact h
    rw [hc]
    exact ⟨hall, _, _, rfl, Or.inl ⟨rfl, by rw [if_neg (by omega)]⟩, Or.inl ⟨rfl, by rw [if_neg (by omega)]⟩, fun j h => by simp [Bk] at h⟩
  · have z1 : bigC (x % B64 ^ m) = 0 := by simpa using hb
    have z2 : bigC (x / B64 ^ m) = 0 := by simpa using hb'
    have hc : splitC x (m : Int) = 0 := by rw [splitC, if_neg hk', em, if_pos ⟨bigC_bl z1, bigC_bl z2⟩]
    rw [z1, if_pos rfl] at ou
    rw [z2, if_pos rfl] at ov
    rw [hc, if_pos rfl, if_pos rfl]
    exact ⟨hall, _, _, rfl, (ou.ahead h5).mono h1.size, ov.mono (h1.trans h3).size, fun j => old_new ou (Nat.le_refl _) ov j⟩

theorem Halves_spec {w : World} {a : Slc} {x : Nat} {m : Nat} (ha : RN w a x) (la : (digs B32 x).length + 2 ≤ 2 ^ 45) :
    Calls pr surdref02_Halves_id #[a.v, .int .i64 (m : Int)] w fun e w' => Ahead w w' ∧ ∃ s t, e = .returned (.tuple #[Slc.v s, Slc.v t]) ∧ RN w' s (x % B64 ^ m) ∧ RN w' t (x / B64 ^ m) := by
  have hn := ha.n
  refine surdref02_Halves_vc a m w _ (br_intro (fun hb => ?_) (fun hb => ?_))
  · have hb' : (digs B32 x).length ≤ m := by rw [hn] at hb; simpa using hb
    have h1 : x < B64 ^ m := by
      have h2 := val_lt (ok_digs two32 x)
      rw [val_digs two32] at h2
      have h3 := Nat.pow_le_pow_right (n := B32) (by rw [B32v]; omega) hb'
      have h4 : B32 ^ m ≤ B64 ^ m := Nat.pow_le_pow_left (by rw [B32v, B64v]; omega) m
      omega
    rw [Nat.mod_eq_of_lt h1, Nat.div_eq_of_lt h1]
    exact ⟨Ahead.refl _, _, _, rfl, ha, RN.nil⟩
  · have hb' : m < (digs B32 x).length := by rw [hn] at hb; simpa using hb
    rw [wrap_i64 (by omega) (by omega)]
    have e1 : (64 * (m : Int)).toNat = 64 * m := by omega
    refine Calls.mono (Ref.Low_spec ha (by omega) (by omega) la) ?_
    rw [e1, ← b64_pow]
    rintro e w1 ⟨h1, s, rfl, rs⟩
    refine ⟨_, rfl, Calls.mono (Ref.Shr_spec (ha.ahead h1) (by omega) (by omega) (by omega)) ?_⟩
    rw [e1, ← b64_pow]
    rintro e w2 ⟨h2, t, rfl, rt⟩
    exact ⟨_, rfl, h1.trans h2, _, _, rfl, rs.ahead h2, rt⟩

theorem refSplit_spec {w : World} {a : Slc} {x : Nat} {k : Int} (ha : RN w a x) (la : (digs B32 x).length + 2 ≤ 2 ^ 45) :
    Calls pr surdref02_Split_id #[a.v, .int .i64 k] w fun e w' => Ahead w w' ∧ ∃ s t, e = .returned (.tuple #[Slc.v s, Slc.v t, .int .i64 (splitC x k)]) ∧
      (splitC x k = 0 → RN w' s (x % B64 ^ k.toNat) ∧ RN w' t (x / B64 ^ k.toNat)) := by
  refine surdref02_Split_vc a k w _ (br_intro (fun hk => ?_) (fun hk => ?_))
  · have hc : splitC x k = 1 := if_pos (by simpa using hk)
    rw [hc]
    exact ⟨Ahead.refl _, _, _, rfl, fun h => by omega⟩
  have hk' : ¬ k < 0 := by simpa using hk
  obtain ⟨m, rfl⟩ : ∃ m : Nat, k = (m : Int) := ⟨k.toNat, by omega⟩
  have em : ((m : Int)).toNat = m := by omega
  rw [em]
  have lo1 : (digs B32 (x % B64 ^ m)).length ≤ (digs B32 x).length := Ref.len_mono two32 (Nat.mod_le _ _)
  have hi1 : (digs B32 (x / B64 ^ m)).length ≤ (digs B32 x).length := Ref.len_mono two32 (Nat.div_le_self _ _)
  refine Calls.mono (Halves_spec ha la) ?_
  rintro e w1 ⟨h1, s, t, rfl, rs, rt⟩
  refine ⟨_, _, rfl, Calls.mono (Len_spec rs (by omega)) ?_⟩
  rintro e w2 ⟨rfl, rfl⟩
  refine ⟨_, rfl, br_intro (fun hb => ?_) (fun hb => ?_)⟩
  · have hc : splitC x (m : Int) = 3 := by
      rw [splitC, if_neg hk', em, if_neg (fun h => by simp at hb; omega)]
    rw [hc]
    exact ⟨h1, _, _, rfl, fun h => by omega⟩
  · refine Calls.mono (Len_spec rt (by omega)) ?_
    rintro e w3 ⟨rfl, rfl⟩
    refine ⟨_, rfl, br_intro (fun hb' => ?_) (fun hb' => ?_)⟩
    · have hc : splitC x (m : Int) = 3 := by
        rw [splitC, if_neg hk', em, if_neg (fun h => by simp at hb'; omega)]
      rw [hc]
      exact ⟨h1, _, _, rfl, fun h => by omega⟩
    · have hc : splitC x (m : Int) = 0 := by
        rw [splitC, if_neg hk', em, if_pos (by simp at hb hb'; omega)]
      rw [hc]
      exact ⟨h1, _, _, rfl, fun _ => ⟨rs, rt⟩⟩

theorem splitC_bl {x : Nat} {k : Int} (h : splitC x k = 0) : bl (x % B64 ^ k.toNat) ≤ 67108864 ∧ bl (x / B64 ^ k.toNat) ≤ 67108864 := by
  unfold splitC at h
  split at h
  · omega
  · split at h
    · assumption
    · omega
theorem split_own_len {x : Nat} {k : Int} : ((if splitC x k = 0 then digs B64 (x % B64 ^ k.toNat) else []).length + 5) * 8 ≤ 2 ^ 47 ∧ ((if splitC x k = 0 then digs B64 (x / B64 ^ k.toNat) else []).length + 5) * 8 ≤ 2 ^ 47 := by
  by_cases h : splitC x k = 0
  · rw [if_pos h, if_pos h]
    have h1 := splitC_bl h
    have := digs_len_bl (N := x % B64 ^ k.toNat) (m := 2 ^ 20) (by omega)
    have := digs_len_bl (N := x / B64 ^ k.toNat) (m := 2 ^ 20) (by omega)
    omega
  · rw [if_neg h, if_neg h]; simp

theorem MulSplits_ok {w : World} {s0 : Slc} {l0 : List Nat} {x1 : Int} (r0 : Rd .u64 w s0 (nn l0)) (o0 : ok B64 l0) (n0 : l0.length * 8 ≤ 140737488351232) (hk : -9223372036854775808 ≤ x1 ∧ x1 ≤ 9223372036854775807) :
    Calls pr surdlaw02_MulSplits_id #[s0.v, .int .i64 x1] w (Yes w) := by
  have hx := len32 o0
  refine surdlaw02_MulSplits_vc s0 x1 w _ (Calls.mono (Lend_spec r0 n0 o0) ?_)
  rintro e w1 ⟨h1, wa, pa, rfl, la⟩
  refine ⟨_, _, rfl, Calls.mono (Of_spec (r0.ahead h1) n0 o0) ?_⟩
  rintro e w2 ⟨h2, x, rfl, rx⟩
  have h02 := h1.trans h2
  have la2 := la.ahead h2
  have pn : Num w2 pa (val B64 l0) := num_of la2.part o0 n0
  generalize val B64 l0 = X at *
  refine ⟨_, rfl, Calls.mono (refSplit_spec rx (by omega)) ?_⟩
  rintro e w3 ⟨h3, u, v, rfl, ruv⟩
  refine ⟨_, _, _, rfl, Calls.mono (Split_spec (pn.ahead h3)) ?_⟩
  rintro e w4 ⟨h4, p, q, rfl, op, oq, apart⟩
  refine ⟨_, _, _, rfl, Calls.mono (alike_spec op.rd (fun hc => (ruv hc).1.ahead h4) fun hc => (splitC_bl hc).1) ?_⟩
  rintro e w5 ⟨h5, rfl⟩
  refine ⟨_, rfl, br_true rfl (Calls.mono (alike_spec (oq.ahead h5).rd (fun hc => ((ruv hc).2.ahead h4).ahead h5) fun hc => (splitC_bl hc).2) ?_)⟩
  rintro e w6 ⟨h6, rfl⟩
  have h46 := h5.trans h6
  have h36 := h4.trans h46
  have h26 := h3.trans h36
  refine ⟨_, rfl, br_true rfl (Calls.mono (Kept_spec (la2.ahead h26).whole (r0.ahead (h02.trans h26)) n0) ?_)⟩
  rintro e w7 ⟨rfl, rfl⟩
  refine ⟨_, rfl, br_true rfl ?_⟩
  have hlen := split_own_len (x := X) (k := x1)
  refine Calls.mono (own_list (base := w3.heap.size) [(p, if splitC X x1 = 0 then digs B64 (X % B64 ^ x1.toNat) else []), (q, if splitC X x1 = 0 then digs B64 (X / B64 ^ x1.toNat) else [])] h36.size ?_ ?_ (by simp) rfl rfl) ?_
  · intro z hz
    simp only [List.mem_cons, List.not_mem_nil, or_false] at hz
    rcases hz with rfl | rfl
    · exact ⟨op.ahead h46, hlen.1⟩
    · exact ⟨oq.ahead h46, hlen.2⟩
  · simp only [List.pairwise_cons, List.mem_cons, List.not_mem_nil, or_false, forall_eq, List.Pairwise.nil, and_true, false_implies, implies_true]
    exact apart
  rintro e w9 ⟨rfl, hb9⟩
  have h39 : Ahead w3 w9 := low_ahead h36 (Nat.le_refl _) hb9
  have h29 := h3.trans h39
  refine ⟨_, rfl, br_true rfl (Calls.mono (Kept_spec (la2.ahead h29).whole (r0.ahead (h02.trans h29)) n0) ?_)⟩
  rintro e w10 ⟨rfl, rfl⟩
  exact ⟨_, rfl, br_true rfl (end_awake (h02.trans h29))⟩

end Mul
end Go.Proofs.Ytindbeolpjkijaa
