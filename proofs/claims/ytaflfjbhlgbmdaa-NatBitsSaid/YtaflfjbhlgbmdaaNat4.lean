/- nat's And, Or, Xor, Count; the document's Bit; the law NatBits. No condition. -/
import Derived.Test.YtaflfjbhlgbmdaaPc
import Derived.Test.YtaflfjbhlgbmdaaVcBits
import Derived.Test.YtaflfjbhlgbmdaaLaw3
namespace Go.Proofs.Ytaflfjbhlgbmdaa
open Go Go.RowKit Eng Sp Dg
set_option linter.unusedVariables false
set_option linter.unusedSimpArgs false
set_option maxRecDepth 100000
namespace Dg
/-- What goes bit by bit. -/
structure BitOp (op : Nat → Nat → Nat) : Prop where
  lt : ∀ {x y k : Nat}, x < 2 ^ k → y < 2 ^ k → op x y < 2 ^ k
  div : ∀ x y k, op x y / 2 ^ k = op (x / 2 ^ k) (y / 2 ^ k)
  mod : ∀ x y k, op x y % 2 ^ k = op (x % 2 ^ k) (y % 2 ^ k)
theorem bitAnd : BitOp fun x y => x &&& y := ⟨fun h1 h2 => Nat.and_lt_two_pow _ h2, fun x y k => Nat.and_div_two_pow, fun x y k => Nat.and_mod_two_pow⟩
theorem bitOr : BitOp fun x y => x ||| y := ⟨fun h1 h2 => Nat.or_lt_two_pow h1 h2, fun x y k => Nat.or_div_two_pow, fun x y k => Nat.or_mod_two_pow⟩
theorem bitXor : BitOp fun x y => x ^^^ y := ⟨fun h1 h2 => Nat.xor_lt_two_pow h1 h2, fun x y k => Nat.xor_div_two_pow, fun x y k => Nat.xor_mod_two_pow⟩
theorem BitOp.digit {op : Nat → Nat → Nat} (h : BitOp op) {la lb : List Nat} (oa : ok B64 la) (ob : ok B64 lb) (i : Nat) : op (la.getD i 0) (lb.getD i 0) = op (val B64 la) (val B64 lb) / B64 ^ i % B64 := by
  rw [b64_pow, h.div, ← b64_pow, show B64 = 2 ^ 64 from rfl, h.mod, ← show B64 = 2 ^ 64 from rfl, ← Dg.digit (by rw [B64v]; omega) la oa i, ← Dg.digit (by rw [B64v]; omega) lb ob i]
theorem BitOp.val {op : Nat → Nat → Nat} (h : BitOp op) {la lb l : List Nat} (oa : ok B64 la) (ob : ok B64 lb) (n1 : la.length ≤ l.length) (n2 : lb.length ≤ l.length) (hd : ∀ i, i < l.length → l.getD i 0 = op (la.getD i 0) (lb.getD i 0)) :
    Dg.val B64 l = op (Dg.val B64 la) (Dg.val B64 lb) := by
  refine val_of_digits (by rw [B64v]; omega) l _ ?_ fun i hi => (hd i hi).trans (h.digit oa ob i)
  rw [b64_pow]
  refine h.lt ?_ ?_
  · rw [← b64_pow]; exact Nat.lt_of_lt_of_le (val_lt oa) (Nat.pow_le_pow_right (by rw [B64v]; omega) n1)
  · rw [← b64_pow]; exact Nat.lt_of_lt_of_le (val_lt ob) (Nat.pow_le_pow_right (by rw [B64v]; omega) n2)
theorem BitOp.bl {op : Nat → Nat → Nat} (h : BitOp op) {x y n : Nat} (hx : Dg.bl x ≤ n) (hy : Dg.bl y ≤ n) : Dg.bl (op x y) ≤ n := bl_le (h.lt (bl_le_iff.1 hx) (bl_le_iff.1 hy))
theorem bl_or (x y : Nat) : Dg.bl (x ||| y) = max (Dg.bl x) (Dg.bl y) := by
  refine Nat.le_antisymm (bitOr.bl (Nat.le_max_left _ _) (Nat.le_max_right _ _)) (Nat.max_le.2 ⟨bl_mono Nat.left_le_or, bl_mono Nat.right_le_or⟩)
theorem bit_and (x y i : Nat) : (x &&& y) / 2 ^ i % 2 = (x / 2 ^ i % 2 + y / 2 ^ i % 2) / 2 := by
  have h1 : (x &&& y) / 2 ^ i = x / 2 ^ i &&& y / 2 ^ i := bitAnd.div x y i
  have h2 : (x / 2 ^ i &&& y / 2 ^ i) % 2 ^ 1 = (x / 2 ^ i) % 2 ^ 1 &&& (y / 2 ^ i) % 2 ^ 1 := bitAnd.mod (x / 2 ^ i) (y / 2 ^ i) 1
  rw [Nat.pow_one] at h2

  rw [h1, h2]
  rcases Nat.mod_two_eq_zero_or_one (x / 2 ^ i) with h | h <;> rcases Nat.mod_two_eq_zero_or_one (y / 2 ^ i) with h' | h' <;> rw [h, h'] <;> rfl
theorem bit_or (x y i : Nat) : (x ||| y) / 2 ^ i % 2 = (x / 2 ^ i % 2 + y / 2 ^ i % 2 + 1) / 2 := by
  have h1 : (x ||| y) / 2 ^ i = x / 2 ^ i ||| y / 2 ^ i := bitOr.div x y i
  have h2 : (x / 2 ^ i ||| y / 2 ^ i) % 2 ^ 1 = (x / 2 ^ i) % 2 ^ 1 ||| (y / 2 ^ i) % 2 ^ 1 := bitOr.mod (x / 2 ^ i) (y / 2 ^ i) 1
  rw [Nat.pow_one] at h2

  rw [h1, h2]
  rcases Nat.mod_two_eq_zero_or_one (x / 2 ^ i) with h | h <;> rcases Nat.mod_two_eq_zero_or_one (y / 2 ^ i) with h' | h' <;> rw [h, h'] <;> rfl
theorem bit_xor (x y i : Nat) : (x ^^^ y) / 2 ^ i % 2 = (x / 2 ^ i % 2 + y / 2 ^ i % 2) % 2 := by
  have h1 : (x ^^^ y) / 2 ^ i = x / 2 ^ i ^^^ y / 2 ^ i := bitXor.div x y i
  have h2 : (x / 2 ^ i ^^^ y / 2 ^ i) % 2 ^ 1 = (x / 2 ^ i) % 2 ^ 1 ^^^ (y / 2 ^ i) % 2 ^ 1 := bitXor.mod (x / 2 ^ i) (y / 2 ^ i) 1
  rw [Nat.pow_one] at h2

  rw [h1, h2]
  rcases Nat.mod_two_eq_zero_or_one (x / 2 ^ i) with h | h <;> rcases Nat.mod_two_eq_zero_or_one (y / 2 ^ i) with h' | h' <;> rw [h, h'] <;> rfl
/-- How many bits of a list of limbs are 1. -/
def pcL (l : List Nat) : Nat := (l.map (pcF 64)).foldr (fun x s => x + s) 0
theorem pcL_cons (x : Nat) (l : List Nat) : pcL (x :: l) = pcF 64 x + pcL l := rfl
theorem pcL_le : ∀ l : List Nat, pcL l ≤ 64 * l.length
  | [] => by simp [pcL]
  | x :: l => by have := pcL_le l; have := pcF_le 64 x; rw [pcL_cons, List.length_cons]; omega
theorem pcF_ext {f n : Nat} (k : Nat) (h : n < 2 ^ f) : pcF (f + k) n = pcF f n := by
  rw [pcF_split, Nat.mod_eq_of_lt h, Nat.div_eq_of_lt h, pcF_zero, Nat.add_zero]
theorem pcL_val : ∀ (l : List Nat), ok B64 l → pcF (64 * l.length) (val B64 l) = pcL l
  | [], _ => rfl
  | x :: l, h => by
    have hx := (ok_cons.1 h).1
    have ho := (ok_cons.1 h).2
    have h64 : B64 = 2 ^ 64 := rfl
    rw [List.length_cons, show 64 * (l.length + 1) = 64 + 64 * l.length by omega, pcF_split, pcL_cons, ← pcL_val l ho]
    have e : val B64 (x :: l) = x + 2 ^ 64 * val B64 l := rfl
    rw [e, Nat.add_mul_mod_self_left, Nat.mod_eq_of_lt (h64 ▸ hx), Nat.add_mul_div_left _ _ (Nat.pow_pos (by omega)), Nat.div_eq_of_lt (h64 ▸ hx), Nat.zero_add]
theorem pcL_big {l : List Nat} (h : ok B64 l) {F : Nat} (hF : 64 * l.length ≤ F) : pcF F (val B64 l) = pcL l := by
  rw [← pcL_val l h, show F = 64 * l.length + (F - 64 * l.length) by omega]
  exact pcF_ext _ (by rw [← b64_pow]; exact val_lt h)
theorem pcL_take_succ (l : List Nat) (j : Nat) (h : j < l.length) : pcL (l.take (j + 1)) = pcL (l.take j) + pcF 64 (l.getD j 0) := by
  induction l generalizing j with
  | nil => simp at h
  | cons x l ih =>
    cases j with
    | zero => simp [pcL_cons, pcL]
    | succ j =>
      have := ih j (by simpa using h)
      simp only [List.take_succ_cons, pcL_cons, List.getD_cons_succ] at this ⊢
      omega
end Dg
namespace Nat
open _root_.Go.Proofs.Ytaflfjbhlgbmdaa.Ref (RN Of_spec Is_spec Len_spec own_list old_new low_ahead Bk tdiv32 tmod32 len32 len_mono)

theorem Fill.trimmed {w0 w : World} {c : Slc} {l : List Nat} {S : World → Prop} (h : Fill w0 w c l S) (hl : l.length ≤ 2 ^ 46) (hok : ok B64 l) :
    Calls pr nat_trim_id #[c.v] w fun e w' => w' = w ∧ ∃ s, e = .returned (Slc.v s) ∧ OwnNil w0.heap.size w s (digs B64 (val B64 l)) := by
  obtain ⟨b, w1, h1, h2, h3, h4, _⟩ := h
  refine Calls.mono (trim_spec h1.rd hl hok) ?_
  rintro e w' ⟨rfl, m, hm, hd, rfl⟩
  refine ⟨rfl, _, rfl, .inr ⟨b, h3, h2, ?_⟩⟩
  have := h1.take (m := m) (by simpa using hm)
  rw [hd, ← nn_take]
  exact this

theorem xorI_nat {x y : Nat} (hx : x < B64) (hy : y < B64) : xorI .u64 (x : Int) (y : Int) = ((x ^^^ y : Nat) : Int) := by
  have hB := B64v
  unfold xorI
  have e : (BitVec.ofInt IntKind.u64.bits (x : Int) ^^^ BitVec.ofInt IntKind.u64.bits (y : Int)).toNat = x ^^^ y := by
    rw [BitVec.toNat_xor, BitVec.ofInt_natCast, BitVec.ofInt_natCast, BitVec.toNat_ofNat, BitVec.toNat_ofNat]
    show x % 2 ^ 64 ^^^ y % 2 ^ 64 = _
    rw [Nat.mod_eq_of_lt (by omega), Nat.mod_eq_of_lt (by omega)]
  rw [e]
  refine wrap_u64' (by omega) ?_
  have : x ^^^ y < 2 ^ 64 := Nat.xor_lt_two_pow (by omega) (by omega)
  omega

theorem And_one {w : World} {x y : Nat} (hx : x < B64) (hy : y < B64) : Calls pr nat_And_1_id #[.int .u64 (x : Int), .int .u64 (y : Int)] w fun e w' => w' = w ∧ e = .returned (.int .u64 ((x &&& y : Nat) : Int)) :=
  nat_And_1_vc _ _ w _ ⟨rfl, by rw [andI_nat hx hy]⟩
theorem And_spec {w : World} {a b : Slc} {la lb : List Nat} (ha : Rd .u64 w a (nn la)) (hb : Rd .u64 w b (nn lb)) (oa : ok B64 la) (ob : ok B64 lb) (na : la.length ≤ 2 ^ 44) (nb : lb.length ≤ 2 ^ 44) :
    Calls pr nat_And_id #[a.v, b.v] w fun e w' => Ahead w w' ∧ ∃ s, e = .returned (Slc.v s) ∧ OwnNil w.heap.size w' s (digs B64 (val B64 la &&& val B64 lb)) := by
  have hB := B64v
  have hna : a.n = la.length := by rw [ha.n, nn_length]
  have hnb : b.n = lb.length := by rw [hb.n, nn_length]
  refine nat_And_vc a b w _ ?_
  refine nat_both__nat_And_1_vc a b w _ (fun p q c n i w' => p = a ∧ q = b ∧ n = ((max la.length lb.length : Nat) : Int) ∧ ∃ (l : List Nat) (j : Nat), i = (j : Int) ∧ j ≤ max la.length lb.length ∧
    Fill w w' c l (fun w' => Rd .u64 w' a (nn la) ∧ Rd .u64 w' b (nn lb)) ∧ l.length = max la.length lb.length ∧ ok B64 l ∧ ∀ i, i < j → l.getD i 0 = la.getD i 0 &&& lb.getD i 0) (fun _ _ _ n i _ => (n - i).toNat) ?_ ?_
  · have em : maxI (a.n : Int) (b.n : Int) = ((max la.length lb.length : Nat) : Int) := by unfold maxI; split <;> omega
    rw [em]
    refine mkF (w0 := w) (S := fun w' => Rd .u64 w' a (nn la) ∧ Rd .u64 w' b (nn lb)) (by omega) (by omega) (Ahead.refl _) ⟨ha, hb⟩ ?_
    intro s w1 hsn hf _
    exact ⟨rfl, rfl, by rw [hsn]; simp, _, 0, rfl, Nat.zero_le _, hf, by simp, ok_replicate (by omega) _, fun i hi => by omega⟩
  · rintro p q c n i w1 ⟨rfl, rfl, rfl, l, j, rfl, hj, hf, hl, ol, hd⟩
    have hS := hf.src (fun _ h hs => ⟨Rd.ahead hs.1 h, Rd.ahead hs.2 h⟩)
    refine br_intro (fun hlt => ?_) (fun hge => ?_)
    · have hj' : j < max la.length lb.length := by simp at hlt; omega
      have hx := ok_getD oa (by omega : 0 < B64) j
      have hy := ok_getD ob (by omega : 0 < B64) j
      have e8 : IntKind.i64.wrap ((j : Int) + 1) = ((j + 1 : Nat) : Int) := by rw [wrap_i64 (by omega) (by omega)]; omega
      have ho : la.getD j 0 &&& lb.getD j 0 < B64 := bitAnd.lt (k := 64) hx hy
      have fin : ∀ {w6 : World}, Fill w w6 c (l.set j (la.getD j 0 &&& lb.getD j 0)) (fun w' => Rd .u64 w' p (nn la) ∧ Rd .u64 w' q (nn lb)) → _ := fun {w6} hf6 =>
        show (p = p ∧ q = q ∧ ((max la.length lb.length : Nat) : Int) = ((max la.length lb.length : Nat) : Int) ∧ ∃ (l : List Nat) (j' : Nat), IntKind.i64.wrap ((j : Int) + 1) = (j' : Int) ∧ j' ≤ max la.length lb.length ∧
          Fill w w6 c l (fun w' => Rd .u64 w' p (nn la) ∧ Rd .u64 w' q (nn lb)) ∧ l.length = max la.length lb.length ∧ ok B64 l ∧ ∀ i, i < j' → l.getD i 0 = la.getD i 0 &&& lb.getD i 0) ∧
          (((max la.length lb.length : Nat) : Int) - IntKind.i64.wrap ((j : Int) + 1)).toNat < (((max la.length lb.length : Nat) : Int) - (j : Int)).toNat from
        ⟨⟨rfl, rfl, rfl, _, j + 1, e8, by omega, hf6, by simpa using hl, ok_set ol ho, fun i hi => by
          rw [getD_set _ _ _ _ (by omega)]
          split
          · rename_i h; subst h; rfl
          · exact hd i (by omega)⟩, by rw [e8]; omega⟩
      have za : la.length ≤ j → la.getD j 0 = 0 := fun h => getD_ge la 0 h
      have zb : lb.length ≤ j → lb.getD j 0 = 0 := fun h => getD_ge lb 0 h
      have et : ((j : Int)).toNat = j := by omega
      have z0 : (0 : Int) = ((0 : Nat) : Int) := rfl
      have hp : (0 : Nat) < B64 := by omega
      refine br_intro (fun h1 => ?_) (fun h1 => ?_)
      · have h1' : j < la.length := by simp at h1; omega
        refine ldN hS.1 (by omega) (by omega) ?_
        refine br_intro (fun h2 => ?_) (fun h2 => ?_)
        · have h2' : j < lb.length := by simp at h2; omega
          refine ldN hS.2 (by omega) (by omega) ?_
          rw [et]
          refine Calls.mono (And_one hx hy) ?_
          rintro e w4 ⟨rfl, rfl⟩
          refine ⟨_, rfl, stF hf (by omega) (by omega) ?_⟩
          rw [et]
          intro w6 hf6
          exact fin hf6
        · have h2' := zb (by simp at h2; omega)
          rw [et, z0]
          refine Calls.mono (And_one hx hp) ?_
          rintro e w4 ⟨rfl, rfl⟩
          rw [h2'] at fin
          refine ⟨_, rfl, stF hf (by omega) (by omega) ?_⟩
          rw [et]
          intro w6 hf6
          exact fin hf6
      · have h1' := za (by simp at h1; omega)
        rw [h1'] at fin
        refine br_intro (fun h2 => ?_) (fun h2 => ?_)
        · have h2' : j < lb.length := by simp at h2; omega
          refine ldN hS.2 (by omega) (by omega) ?_
          rw [et, z0]
          refine Calls.mono (And_one hp hy) ?_
          rintro e w4 ⟨rfl, rfl⟩
          refine ⟨_, rfl, stF hf (by omega) (by omega) ?_⟩
          rw [et]
          intro w6 hf6
          exact fin hf6
        · have h2' := zb (by simp at h2; omega)
          rw [h2'] at fin
          rw [z0]
          refine Calls.mono (And_one hp hp) ?_
          rintro e w4 ⟨rfl, rfl⟩
          refine ⟨_, rfl, stF hf (by omega) (by omega) ?_⟩
          rw [et]
          intro w6 hf6
          exact fin hf6
    · have hj' : j = max la.length lb.length := by simp at hge; omega
      subst hj'
      have hv := bitAnd.val (l := l) oa ob (by omega) (by omega) (fun i hi => hd i (by omega))
      refine Calls.mono (Fill.trimmed hf (by omega) ol) ?_
      rintro e w3 ⟨rfl, s, rfl, os⟩
      rw [hv] at os
      exact ⟨_, rfl, _, rfl, hf.base, _, rfl, os⟩

theorem Or_one {w : World} {x y : Nat} (hx : x < B64) (hy : y < B64) : Calls pr nat_Or_1_id #[.int .u64 (x : Int), .int .u64 (y : Int)] w fun e w' => w' = w ∧ e = .returned (.int .u64 ((x ||| y : Nat) : Int)) :=
  nat_Or_1_vc _ _ w _ ⟨rfl, by rw [orI_nat hx hy]⟩
theorem Or_spec {w : World} {a b : Slc} {la lb : List Nat} (ha : Rd .u64 w a (nn la)) (hb : Rd .u64 w b (nn lb)) (oa : ok B64 la) (ob : ok B64 lb) (na : la.length ≤ 2 ^ 44) (nb : lb.length ≤ 2 ^ 44) :
    Calls pr nat_Or_id #[a.v, b.v] w fun e w' => Ahead w w' ∧ ∃ s, e = .returned (Slc.v s) ∧ OwnNil w.heap.size w' s (digs B64 (val B64 la ||| val B64 lb)) := by
  have hB := B64v
  have hna : a.n = la.length := by rw [ha.n, nn_length]
  have hnb : b.n = lb.length := by rw [hb.n, nn_length]
  refine nat_Or_vc a b w _ ?_
  refine nat_both__nat_Or_1_vc a b w _ (fun p q c n i w' => p = a ∧ q = b ∧ n = ((max la.length lb.length : Nat) : Int) ∧ ∃ (l : List Nat) (j : Nat), i = (j : Int) ∧ j ≤ max la.length lb.length ∧
    Fill w w' c l (fun w' => Rd .u64 w' a (nn la) ∧ Rd .u64 w' b (nn lb)) ∧ l.length = max la.length lb.length ∧ ok B64 l ∧ ∀ i, i < j → l.getD i 0 = la.getD i 0 ||| lb.getD i 0) (fun _ _ _ n i _ => (n - i).toNat) ?_ ?_
  · have em : maxI (a.n : Int) (b.n : Int) = ((max la.length lb.length : Nat) : Int) := by unfold maxI; split <;> omega
    rw [em]
    refine mkF (w0 := w) (S := fun w' => Rd .u64 w' a (nn la) ∧ Rd .u64 w' b (nn lb)) (by omega) (by omega) (Ahead.refl _) ⟨ha, hb⟩ ?_
    intro s w1 hsn hf _
    exact ⟨rfl, rfl, by rw [hsn]; simp, _, 0, rfl, Nat.zero_le _, hf, by simp, ok_replicate (by omega) _, fun i hi => by omega⟩
  · rintro p q c n i w1 ⟨rfl, rfl, rfl, l, j, rfl, hj, hf, hl, ol, hd⟩
    have hS := hf.src (fun _ h hs => ⟨Rd.ahead hs.1 h, Rd.ahead hs.2 h⟩)
    refine br_intro (fun hlt => ?_) (fun hge => ?_)
    · have hj' : j < max la.length lb.length := by simp at hlt; omega
      have hx := ok_getD oa (by omega : 0 < B64) j
      have hy := ok_getD ob (by omega : 0 < B64) j
      have e8 : IntKind.i64.wrap ((j : Int) + 1) = ((j + 1 : Nat) : Int) := by rw [wrap_i64 (by omega) (by omega)]; omega
      have ho : la.getD j 0 ||| lb.getD j 0 < B64 := bitOr.lt (k := 64) hx hy
      have fin : ∀ {w6 : World}, Fill w w6 c (l.set j (la.getD j 0 ||| lb.getD j 0)) (fun w' => Rd .u64 w' p (nn la) ∧ Rd .u64 w' q (nn lb)) → _ := fun {w6} hf6 =>
        show (p = p ∧ q = q ∧ ((max la.length lb.length : Nat) : Int) = ((max la.length lb.length : Nat) : Int) ∧ ∃ (l : List Nat) (j' : Nat), IntKind.i64.wrap ((j : Int) + 1) = (j' : Int) ∧ j' ≤ max la.length lb.length ∧
          Fill w w6 c l (fun w' => Rd .u64 w' p (nn la) ∧ Rd .u64 w' q (nn lb)) ∧ l.length = max la.length lb.length ∧ ok B64 l ∧ ∀ i, i < j' → l.getD i 0 = la.getD i 0 ||| lb.getD i 0) ∧
          (((max la.length lb.length : Nat) : Int) - IntKind.i64.wrap ((j : Int) + 1)).toNat < (((max la.length lb.length : Nat) : Int) - (j : Int)).toNat from
        ⟨⟨rfl, rfl, rfl, _, j + 1, e8, by omega, hf6, by simpa using hl, ok_set ol ho, fun i hi => by
          rw [getD_set _ _ _ _ (by omega)]
          split
          · rename_i h; subst h; rfl
          · exact hd i (by omega)⟩, by rw [e8]; omega⟩
      have za : la.length ≤ j → la.getD j 0 = 0 := fun h => getD_ge la 0 h
      have zb : lb.length ≤ j → lb.getD j 0 = 0 := fun h => getD_ge lb 0 h
      have et : ((j : Int)).toNat = j := by omega
      have z0 : (0 : Int) = ((0 : Nat) : Int) := rfl
      have hp : (0 : Nat) < B64 := by omega
      refine br_intro (fun h1 => ?_) (fun h1 => ?_)
      · have h1' : j < la.length := by simp at h1; omega
        refine ldN hS.1 (by omega) (by omega) ?_
        refine br_intro (fun h2 => ?_) (fun h2 => ?_)
        · have h2' : j < lb.length := by simp at h2; omega
          refine ldN hS.2 (by omega) (by omega) ?_
          rw [et]
          refine Calls.mono (Or_one hx hy) ?_
          rintro e w4 ⟨rfl, rfl⟩
          refine ⟨_, rfl, stF hf (by omega) (by omega) ?_⟩
          rw [et]
          intro w6 hf6
          exact fin hf6
        · have h2' := zb (by simp at h2; omega)
          rw [et, z0]
          refine Calls.mono (Or_one hx hp) ?_
          rintro e w4 ⟨rfl, rfl⟩
          rw [h2'] at fin
          refine ⟨_, rfl, stF hf (by omega) (by omega) ?_⟩
          rw [et]
          intro w6 hf6
          exact fin hf6
      · have h1' := za (by simp at h1; omega)
        rw [h1'] at fin
        refine br_intro (fun h2 => ?_) (fun h2 => ?_)
        · have h2' : j < lb.length := by simp at h2; omega
          refine ldN hS.2 (by omega) (by omega) ?_
          rw [et, z0]
          refine Calls.mono (Or_one hp hy) ?_
          rintro e w4 ⟨rfl, rfl⟩
          refine ⟨_, rfl, stF hf (by omega) (by omega) ?_⟩
          rw [et]
          intro w6 hf6
          exact fin hf6
        · have h2' := zb (by simp at h2; omega)
          rw [h2'] at fin
          rw [z0]
          refine Calls.mono (Or_one hp hp) ?_
          rintro e w4 ⟨rfl, rfl⟩
          refine ⟨_, rfl, stF hf (by omega) (by omega) ?_⟩
          rw [et]
          intro w6 hf6
          exact fin hf6
    · have hj' : j = max la.length lb.length := by simp at hge; omega
      subst hj'
      have hv := bitOr.val (l := l) oa ob (by omega) (by omega) (fun i hi => hd i (by omega))
      refine Calls.mono (Fill.trimmed hf (by omega) ol) ?_
      rintro e w3 ⟨rfl, s, rfl, os⟩
      rw [hv] at os
      exact ⟨_, rfl, _, rfl, hf.base, _, rfl, os⟩

theorem Xor_one {w : World} {x y : Nat} (hx : x < B64) (hy : y < B64) : Calls pr nat_Xor_1_id #[.int .u64 (x : Int), .int .u64 (y : Int)] w fun e w' => w' = w ∧ e = .returned (.int .u64 ((x ^^^ y : Nat) : Int)) :=
  nat_Xor_1_vc _ _ w _ ⟨rfl, by rw [xorI_nat hx hy]⟩
theorem Xor_spec {w : World} {a b : Slc} {la lb : List Nat} (ha : Rd .u64 w a (nn la)) (hb : Rd .u64 w b (nn lb)) (oa : ok B64 la) (ob : ok B64 lb) (na : la.length ≤ 2 ^ 44) (nb : lb.length ≤ 2 ^ 44) :
    Calls pr nat_Xor_id #[a.v, b.v] w fun e w' => Ahead w w' ∧ ∃ s, e = .returned (Slc.v s) ∧ OwnNil w.heap.size w' s (digs B64 (val B64 la ^^^ val B64 lb)) := by
  have hB := B64v
  have hna : a.n = la.length := by rw [ha.n, nn_length]
  have hnb : b.n = lb.length := by rw [hb.n, nn_length]
  refine nat_Xor_vc a b w _ ?_
  refine nat_both__nat_Xor_1_vc a b w _ (fun p q c n i w' => p = a ∧ q = b ∧ n = ((max la.length lb.length : Nat) : Int) ∧ ∃ (l : List Nat) (j : Nat), i = (j : Int) ∧ j ≤ max la.length lb.length ∧
    Fill w w' c l (fun w' => Rd .u64 w' a (nn la) ∧ Rd .u64 w' b (nn lb)) ∧ l.length = max la.length lb.length ∧ ok B64 l ∧ ∀ i, i < j → l.getD i 0 = la.getD i 0 ^^^ lb.getD i 0) (fun _ _ _ n i _ => (n - i).toNat) ?_ ?_
  · have em : maxI (a.n : Int) (b.n : Int) = ((max la.length lb.length : Nat) : Int) := by unfold maxI; split <;> omega
    rw [em]
    refine mkF (w0 := w) (S := fun w' => Rd .u64 w' a (nn la) ∧ Rd .u64 w' b (nn lb)) (by omega) (by omega) (Ahead.refl _) ⟨ha, hb⟩ ?_
    intro s w1 hsn hf _
    exact ⟨rfl, rfl, by rw [hsn]; simp, _, 0, rfl, Nat.zero_le _, hf, by simp, ok_replicate (by omega) _, fun i hi => by omega⟩
  · rintro p q c n i w1 ⟨rfl, rfl, rfl, l, j, rfl, hj, hf, hl, ol, hd⟩
    have hS := hf.src (fun _ h hs => ⟨Rd.ahead hs.1 h, Rd.ahead hs.2 h⟩)
    refine br_intro (fun hlt => ?_) (fun hge => ?_)
    · have hj' : j < max la.length lb.length := by simp at hlt; omega
      have hx := ok_getD oa (by omega : 0 < B64) j
      have hy := ok_getD ob (by omega : 0 < B64) j
      have e8 : IntKind.i64.wrap ((j : Int) + 1) = ((j + 1 : Nat) : Int) := by rw [wrap_i64 (by omega) (by omega)]; omega
      have ho : la.getD j 0 ^^^ lb.getD j 0 < B64 := bitXor.lt (k := 64) hx hy
      have fin : ∀ {w6 : World}, Fill w w6 c (l.set j (la.getD j 0 ^^^ lb.getD j 0)) (fun w' => Rd .u64 w' p (nn la) ∧ Rd .u64 w' q (nn lb)) → _ := fun {w6} hf6 =>
        show (p = p ∧ q = q ∧ ((max la.length lb.length : Nat) : Int) = ((max la.length lb.length : Nat) : Int) ∧ ∃ (l : List Nat) (j' : Nat), IntKind.i64.wrap ((j : Int) + 1) = (j' : Int) ∧ j' ≤ max la.length lb.length ∧
          Fill w w6 c l (fun w' => Rd .u64 w' p (nn la) ∧ Rd .u64 w' q (nn lb)) ∧ l.length = max la.length lb.length ∧ ok B64 l ∧ ∀ i, i < j' → l.getD i 0 = la.getD i 0 ^^^ lb.getD i 0) ∧
          (((max la.length lb.length : Nat) : Int) - IntKind.i64.wrap ((j : Int) + 1)).toNat < (((max la.length lb.length : Nat) : Int) - (j : Int)).toNat from
        ⟨⟨rfl, rfl, rfl, _, j + 1, e8, by omega, hf6, by simpa using hl, ok_set ol ho, fun i hi => by
          rw [getD_set _ _ _ _ (by omega)]
          split
          · rename_i h; subst h; rfl
          · exact hd i (by omega)⟩, by rw [e8]; omega⟩
      have za : la.length ≤ j → la.getD j 0 = 0 := fun h => getD_ge la 0 h
      have zb : lb.length ≤ j → lb.getD j 0 = 0 := fun h => getD_ge lb 0 h
      have et : ((j : Int)).toNat = j := by omega
      have z0 : (0 : Int) = ((0 : Nat) : Int) := rfl
      have hp : (0 : Nat) < B64 := by omega
      refine br_intro (fun h1 => ?_) (fun h1 => ?_)
      · have h1' : j < la.length := by simp at h1; omega
        refine ldN hS.1 (by omega) (by omega) ?_
        refine br_intro (fun h2 => ?_) (fun h2 => ?_)
        · have h2' : j < lb.length := by simp at h2; omega
          refine ldN hS.2 (by omega) (by omega) ?_
          rw [et]
          refine Calls.mono (Xor_one hx hy) ?_
          rintro e w4 ⟨rfl, rfl⟩
          refine ⟨_, rfl, stF hf (by omega) (by omega) ?_⟩
          rw [et]
          intro w6 hf6
          exact fin hf6
        · have h2' := zb (by simp at h2; omega)
          rw [et, z0]
          refine Calls.mono (Xor_one hx hp) ?_
          rintro e w4 ⟨rfl, rfl⟩
          rw [h2'] at fin
          refine ⟨_, rfl, stF hf (by omega) (by omega) ?_⟩
          rw [et]
          intro w6 hf6
          exact fin hf6
      · have h1' := za (by simp at h1; omega)
        rw [h1'] at fin
        refine br_intro (fun h2 => ?_) (fun h2 => ?_)
        · have h2' : j < lb.length := by simp at h2; omega
          refine ldN hS.2 (by omega) (by omega) ?_
          rw [et, z0]
          refine Calls.mono (Xor_one hp hy) ?_
          rintro e w4 ⟨rfl, rfl⟩
          refine ⟨_, rfl, stF hf (by omega) (by omega) ?_⟩
          rw [et]
          intro w6 hf6
          exact fin hf6
        · have h2' := zb (by simp at h2; omega)
          rw [h2'] at fin
          rw [z0]
          refine Calls.mono (Xor_one hp hp) ?_
          rintro e w4 ⟨rfl, rfl⟩
          refine ⟨_, rfl, stF hf (by omega) (by omega) ?_⟩
          rw [et]
          intro w6 hf6
          exact fin hf6
    · have hj' : j = max la.length lb.length := by simp at hge; omega
      subst hj'
      have hv := bitXor.val (l := l) oa ob (by omega) (by omega) (fun i hi => hd i (by omega))
      refine Calls.mono (Fill.trimmed hf (by omega) ol) ?_
      rintro e w3 ⟨rfl, s, rfl, os⟩
      rw [hv] at os
      exact ⟨_, rfl, _, rfl, hf.base, _, rfl, os⟩

theorem Count_spec {w : World} {s : Slc} {l : List Nat} (h : Rd .u64 w s (nn l)) (hl : l.length ≤ 2 ^ 44) (ol : ok B64 l) :
    Calls pr nat_Count_id #[s.v] w fun e w' => w' = w ∧ e = .returned (.int .i64 (pcL l)) := by
  have hn : s.n = l.length := by rw [h.n, nn_length]
  refine nat_Count_vc s w _ (fun c t n i w' => t = s ∧ n = (l.length : Int) ∧ w' = w ∧ ∃ j : Nat, i = (j : Int) ∧ j ≤ l.length ∧ c = (pcL (l.take j) : Int)) (fun _ _ n i _ => (n - i).toNat) ⟨rfl, by rw [hn], rfl, 0, rfl, Nat.zero_le _, by simp [pcL]⟩ ?_
  rintro c t n i w1 ⟨rfl, rfl, rfl, j, rfl, hj, rfl⟩
  refine br_intro (fun hlt => ?_) (fun hge => ?_)
  · have hj' : j < l.length := by simp at hlt; omega
    refine ldN h (by omega) (by omega) ?_
    rw [Int.toNat_natCast]
    have e8 : IntKind.i64.wrap ((j : Int) + 1) = ((j + 1 : Nat) : Int) := by rw [wrap_i64 (by omega) (by omega)]; omega
    refine Calls.mono (OnesCount64_spec (ok_getD ol (by rw [B64v]; omega) j)) ?_
    rintro e w2 ⟨rfl, rfl⟩
    have h1 := pcL_le (l.take j)
    have h2 := pcF_le 64 (l.getD j 0)
    rw [List.length_take] at h1
    refine ⟨_, rfl, ⟨rfl, rfl, rfl, j + 1, e8, hj', ?_⟩, by rw [e8]; omega⟩
    rw [pcL_take_succ l j hj', wrap_i64 (by omega) (by omega)]; omega
  · have hj' : j = l.length := by simp at hge; omega
    subst hj'
    rw [List.take_length]
    exact ⟨rfl, rfl⟩

theorem bit_digit (U s : Nat) (hs : s < 32) : U % 2 ^ 32 / 2 ^ s % 2 = U / 2 ^ s % 2 := by
  have h : (2 : Nat) ^ 32 = 2 ^ s * (2 * 2 ^ (31 - s)) := by rw [← Nat.pow_succ', ← Nat.pow_add]; congr 1; omega
  rw [h, Nat.mod_mul_right_div_self, Nat.mod_mul_right_mod]
theorem rBit_spec {w : World} {s : Slc} {x : Nat} {i : Nat} (h : RN w s x) (hl : (digs B32 x).length ≤ 2 ^ 46) (hi : i ≤ 9223372036854775807) :
    Calls pr surdref01_Num_Bit_id #[s.v, .int .i64 (i : Int)] w fun e w' => w' = w ∧ e = .returned (.int .i64 ((x / 2 ^ i % 2 : Nat) : Int)) := by
  have hn := h.n
  have ox := ok_digs two32 x
  have vx := val_digs two32 x
  have hB := B32v
  have hp2 : B32 ^ (i / 32) * 2 ^ (i % 32) = 2 ^ i := (pow_split i 32).symm
  have hx : x / 2 ^ i % 2 = (digs B32 x).getD (i / 32) 0 / 2 ^ (i % 32) % 2 := by
    rw [digit (by omega : 0 < B32) _ ox (i / 32), vx, ← hp2, ← Nat.div_div_eq_div_mul, show B32 = 2 ^ 32 from rfl, bit_digit _ _ (Nat.mod_lt _ (by omega))]
  have e0 : ((i : Int)).toNat = i := by omega
  unfold RN at h
  refine surdref01_Num_Bit_vc s i w _ (br_false (by simp) ?_)
  rw [tdiv32 (by omega) (by omega), tmod32 (by omega), e0]
  refine br_intro (fun hb => ?_) (fun hb => ?_)
  · refine ⟨rfl, ?_⟩
    have hb' : (digs B32 x).length ≤ i / 32 := by simp at hb; omega
    rw [hx, getD_ge _ 0 hb']
    simp
  · have hb' : i / 32 < (digs B32 x).length := by simp at hb; omega
    refine ldN h (by omega) (by omega) ?_
    refine semShr (by omega) ?_
    rw [Int.toNat_natCast]
    have hlt := ok_getD ox (by omega : 0 < B32) (i / 32)
    generalize (digs B32 x).getD (i / 32) 0 = d at *
    have hd : d / 2 ^ (i % 32) < B64 := Nat.lt_of_le_of_lt (Nat.div_le_self _ _) (by rw [B64v]; omega)
    rw [show (1 : Int) = ((1 : Nat) : Int) from rfl, andI_nat hd (by rw [B64v]; omega), Nat.and_one_is_mod, hx, wrap_i64 (by omega) (by omega)]
    exact ⟨rfl, rfl⟩

theorem digs32_len_bl {n k : Nat} (h : bl n ≤ 32 * k) : (digs B32 n).length ≤ k := digs_length_le two32 (by rw [b32_pow]; exact bl_le_iff.1 h)

theorem NatBits_ok {w : World} {s0 s1 : Slc} {l0 l1 : List Nat} (r0 : Rd .u64 w s0 (nn l0)) (o0 : ok B64 l0) (n0 : l0.length * 8 ≤ 140737488351232)
    (r1 : Rd .u64 w s1 (nn l1)) (o1 : ok B64 l1) (n1 : l1.length * 8 ≤ 140737488351232) :
    Calls pr surdlaw01_NatBits_id #[s0.v, s1.v] w (Yes w) := by
  have hx := len32 o0
  have hy := len32 o1
  have hdx := len_le o0
  have hdy := len_le o1
  have bx := bl_len o0
  have by' := bl_len o1
  have pc0 := pcL_big o0 (F := 64 * 2 ^ 44) (by omega)
  have pc1 := pcL_big o1 (F := 64 * 2 ^ 44) (by omega)
  have ple0 := pcL_le l0
  have ple1 := pcL_le l1
  have hAO := pcF_and_or (64 * 2 ^ 44) (val B64 l0) (val B64 l1)
  have lenOp : ∀ {op : Nat → Nat → Nat}, BitOp op → (digs B64 (op (val B64 l0) (val B64 l1))).length ≤ 17592186043904 ∧ bl (op (val B64 l0) (val B64 l1)) ≤ max (bl (val B64 l0)) (bl (val B64 l1)) ∧ (digs B32 (op (val B64 l0) (val B64 l1))).length ≤ 35184372087808 := by
    intro op h
    have h1 := h.bl (x := val B64 l0) (y := val B64 l1) (n := 64 * 17592186043904) (by omega) (by omega)
    have h2 := h.bl (Nat.le_max_left (bl (val B64 l0)) (bl (val B64 l1))) (Nat.le_max_right (bl (val B64 l0)) (bl (val B64 l1)))
    exact ⟨digs_len_bl h1, h2, digs32_len_bl (by omega)⟩
  have cA : ∀ {w' : World}, Ahead w w' → Calls pr nat_And_id #[s0.v, s1.v] w' fun e w'' => Ahead w' w'' ∧ ∃ s, e = .returned (Slc.v s) ∧ OwnNil w'.heap.size w'' s (digs B64 (val B64 l0 &&& val B64 l1)) := fun ha => And_spec (r0.ahead ha) (r1.ahead ha) o0 o1 (by omega) (by omega)
  have cO : ∀ {w' : World}, Ahead w w' → Calls pr nat_Or_id #[s0.v, s1.v] w' fun e w'' => Ahead w' w'' ∧ ∃ s, e = .returned (Slc.v s) ∧ OwnNil w'.heap.size w'' s (digs B64 (val B64 l0 ||| val B64 l1)) := fun ha => Or_spec (r0.ahead ha) (r1.ahead ha) o0 o1 (by omega) (by omega)
  have cX : ∀ {w' : World}, Ahead w w' → Calls pr nat_Xor_id #[s0.v, s1.v] w' fun e w'' => Ahead w' w'' ∧ ∃ s, e = .returned (Slc.v s) ∧ OwnNil w'.heap.size w'' s (digs B64 (val B64 l0 ^^^ val B64 l1)) := fun ha => Xor_spec (r0.ahead ha) (r1.ahead ha) o0 o1 (by omega) (by omega)
  have cC0 : ∀ {w' : World}, Ahead w w' → Calls pr nat_Count_id #[s0.v] w' fun e w'' => w'' = w' ∧ e = .returned (.int .i64 (pcL l0)) := fun ha => Count_spec (r0.ahead ha) (by omega) o0
  have cC1 : ∀ {w' : World}, Ahead w w' → Calls pr nat_Count_id #[s1.v] w' fun e w'' => w'' = w' ∧ e = .returned (.int .i64 (pcL l1)) := fun ha => Count_spec (r1.ahead ha) (by omega) o1
  have cX0 : ∀ {w' : World}, Ahead w w' → Calls pr surdref01_Of_id #[s0.v] w' fun e w'' => Ahead w' w'' ∧ ∃ s', e = .returned (Slc.v s') ∧ RN w'' s' (val B64 l0) := fun ha => Of_spec (r0.ahead ha) n0 o0
  have cX1 : ∀ {w' : World}, Ahead w w' → Calls pr surdref01_Of_id #[s1.v] w' fun e w'' => Ahead w' w'' ∧ ∃ s', e = .returned (Slc.v s') ∧ RN w'' s' (val B64 l1) := fun ha => Of_spec (r1.ahead ha) n1 o1
  obtain ⟨lA, bA, tA⟩ := lenOp bitAnd
  obtain ⟨lO, _, tO⟩ := lenOp bitOr
  obtain ⟨lX, bX, tX⟩ := lenOp bitXor
  have bO := bl_or (val B64 l0) (val B64 l1)
  have fA := bit_and (val B64 l0) (val B64 l1)
  have fO := bit_or (val B64 l0) (val B64 l1)
  have fX := bit_xor (val B64 l0) (val B64 l1)
  clear lenOp
  generalize val B64 l0 = X at *
  generalize val B64 l1 = Y at *
  have pA := pcL_big (ok_digs two64 (X &&& Y)) (F := 64 * 2 ^ 44) (by omega)
  have pO := pcL_big (ok_digs two64 (X ||| Y)) (F := 64 * 2 ^ 44) (by omega)
  rw [val_digs two64] at pA pO
  rw [pc0, pc1, pA, pO] at hAO
  generalize hAv : X &&& Y = A at *
  generalize hOv : X ||| Y = O at *
  generalize hXv : X ^^^ Y = E at *
  have pleA := pcL_le (digs B64 A)
  have pleO := pcL_le (digs B64 O)
  refine surdlaw01_NatBits_vc s0 s1 w _ (fun t0 t1 t5 t6 t7 t8 t9 t10 t11 t12 t13 t14 w' => t0 = s0 ∧ t1 = s1 ∧ t10 = ((max (bl X) (bl Y) : Nat) : Int) ∧ ∃ (j : Nat) (wb wa wo : World), t14 = (j : Int) ∧ j ≤ max (bl X) (bl Y) ∧ Ahead w wb ∧ Ahead wb w' ∧ Ahead wa wo ∧
      OwnNil w.heap.size wa t5 (digs B64 A) ∧ OwnNil wa.heap.size wo t6 (digs B64 O) ∧ OwnNil wo.heap.size wb t7 (digs B64 E) ∧ Ahead wo wb ∧ Ahead w wa ∧
      RN wb t8 X ∧ RN wb t9 Y ∧ RN wb t11 A ∧ RN wb t12 O ∧ RN wb t13 E) (fun _ _ _ _ _ _ _ n _ _ _ i _ => (n - i).toNat) ?_ ?_
  · refine Calls.mono (cA (Ahead.refl _)) ?_
    rintro e w1 ⟨h1, sa, rfl, oa⟩
    refine ⟨_, rfl, Calls.mono (cO h1) ?_⟩
    rintro e w2 ⟨h2, so, rfl, oo⟩
    have h02 := h1.trans h2
    refine ⟨_, rfl, Calls.mono (cX h02) ?_⟩
    rintro e w3 ⟨h3, sx, rfl, ox⟩
    have h03 := h02.trans h3
    refine ⟨_, rfl, Calls.mono (cX0 h03) ?_⟩
    rintro e w4 ⟨h4, x, rfl, rx⟩
    refine ⟨_, rfl, Calls.mono (cX1 (h03.trans h4)) ?_⟩
    rintro e w5 ⟨h5, y, rfl, ry⟩
    have h35 := h4.trans h5
    have h05 := h03.trans h35
    have rx5 := rx.ahead h5
    have oa5 := ((oa.ahead h2).ahead h3).ahead h35
    have oo5 := (oo.ahead h3).ahead h35
    have ox5 := ox.ahead h35
    have ofOf : ∀ {s : Slc} {v b : Nat} {w' : World}, OwnNil b w5 s (digs B64 v) → (digs B64 v).length ≤ 17592186043904 → Ahead w5 w' → Calls pr surdref01_Of_id #[s.v] w' fun e w'' => Ahead w' w'' ∧ ∃ s', e = .returned (Slc.v s') ∧ RN w'' s' v := by
      intro s v b w' ho hl ha
      have := Of_spec (ho.rd.ahead ha) (by omega) (ok_digs two64 v)
      rwa [val_digs two64] at this
    have lenOf : ∀ {s : Slc} {v b : Nat} {w' : World}, OwnNil b w5 s (digs B64 v) → (digs B64 v).length ≤ 17592186043904 → Ahead w5 w' → Calls pr nat_Length_id #[s.v] w' fun e w'' => w'' = w' ∧ e = .returned (.int .i64 (bl v)) := by
      intro s v b w' ho hl ha
      have := Length_spec (ho.rd.ahead ha) (by omega) (ok_digs two64 v)
      rwa [val_digs two64] at this
    refine ⟨_, rfl, Calls.mono (Len_spec rx5 (by omega)) ?_⟩
    rintro e w6 ⟨rfl, rfl⟩
    refine ⟨_, rfl, Calls.mono (Len_spec ry (by omega)) ?_⟩
    rintro e w7 ⟨rfl, rfl⟩
    have last : ∀ {n : Int}, n = ((max (bl X) (bl Y) : Nat) : Int) → Calls pr nat_Length_id #[sa.v] w7 fun e9 w9 => ∃ x4 : Int, e9 = .returned (Value.int .i64 x4) ∧
        (br (decide (x4 > n)) (Yes w (.returned (Value.bool false)) w9)
          (Calls pr nat_Length_id #[so.v] w9 fun e10 w10 => ∃ x5 : Int, e10 = .returned (Value.int .i64 x5) ∧
            (br (x5 != n) (Yes w (.returned (Value.bool false)) w10)
              (Calls pr nat_Length_id #[sx.v] w10 fun e11 w11 => ∃ x6 : Int, e11 = .returned (Value.int .i64 x6) ∧
                (br (decide (x6 > n)) (Yes w (.returned (Value.bool false)) w11)
                  (Calls pr surdref01_Of_id #[sa.v] w11 fun e12 w12 => ∃ s6 : Slc, e12 = .returned s6.v ∧
                    (Calls pr surdref01_Of_id #[so.v] w12 fun e13 w13 => ∃ s7 : Slc, e13 = .returned s7.v ∧
                      (Calls pr surdref01_Of_id #[sx.v] w13 fun e14 w14 => ∃ s8 : Slc, e14 = .returned s8.v ∧
                        (s0 = s0 ∧ s1 = s1 ∧ n = ((max (bl X) (bl Y) : Nat) : Int) ∧ ∃ (j : Nat) (wb wa wo : World), (0 : Int) = (j : Int) ∧ j ≤ max (bl X) (bl Y) ∧ Ahead w wb ∧ Ahead wb w14 ∧ Ahead wa wo ∧
                          OwnNil w.heap.size wa sa (digs B64 A) ∧ OwnNil wa.heap.size wo so (digs B64 O) ∧ OwnNil wo.heap.size wb sx (digs B64 E) ∧ Ahead wo wb ∧ Ahead w wa ∧
                          RN wb x X ∧ RN wb y Y ∧ RN wb s6 A ∧ RN wb s7 O ∧ RN wb s8 E))))))))) := by
      rintro n rfl
      refine Calls.mono (lenOf oa5 lA (Ahead.refl _)) ?_
      rintro e w9 ⟨rfl, rfl⟩
      refine ⟨_, rfl, br_false (by simp; omega) (Calls.mono (lenOf oo5 lO (Ahead.refl _)) ?_)⟩
      rintro e w10 ⟨rfl, rfl⟩
      refine ⟨_, rfl, br_false (by rw [bO]; simp) (Calls.mono (lenOf ox5 lX (Ahead.refl _)) ?_)⟩
      rintro e w11 ⟨rfl, rfl⟩
      refine ⟨_, rfl, br_false (by simp; omega) (Calls.mono (ofOf oa5 lA (Ahead.refl _)) ?_)⟩
      rintro e w12 ⟨h12, p, rfl, rp⟩
      refine ⟨_, rfl, Calls.mono (ofOf oo5 lO h12) ?_⟩
      rintro e w13 ⟨h13, q, rfl, rq⟩
      refine ⟨_, rfl, Calls.mono (ofOf ox5 lX (h12.trans h13)) ?_⟩
      rintro e w14 ⟨h14, r, rfl, rr⟩
      have h514 := (h12.trans h13).trans h14
      exact ⟨_, rfl, rfl, rfl, rfl, 0, w14, w1, w2, rfl, Nat.zero_le _, h05.trans h514, Ahead.refl _, h2, oa, oo, ox.ahead (h35.trans h514), h3.trans (h35.trans h514), h1,
        rx5.ahead h514, ry.ahead h514, (rp.ahead h13).ahead h14, rq.ahead h14, rr⟩
    refine ⟨_, rfl, br_intro (fun hgt => ?_) (fun hle => ?_)⟩
    · refine Calls.mono (Len_spec ry (by omega)) ?_
      rintro e w8 ⟨rfl, rfl⟩
      exact ⟨_, rfl, last (by simp at hgt; omega)⟩
    · exact last (by simp at hle; omega)
  · rintro t0 t1 t5 t6 t7 t8 t9 t10 t11 t12 t13 t14 w1 ⟨rfl, rfl, rfl, j, wb, wa, wo, rfl, hj, hwb, hb1, hao, oa, oo, ox, hob, hwa, rx, ry, rp, rq, rr⟩
    have h01 := hwb.trans hb1
    refine br_intro (fun hlt => ?_) (fun hge => ?_)
    · have hj' : j < max (bl X) (bl Y) := by simp at hlt; omega
      have e8 : IntKind.i64.wrap ((j : Int) + 1) = ((j + 1 : Nat) : Int) := by rw [wrap_i64 (by omega) (by omega)]; omega
      have gA := fA j
      have gO := fO j
      have gX := fX j
      refine Calls.mono (rBit_spec (rx.ahead hb1) (by omega) (by omega)) ?_
      rintro e w2 ⟨rfl, rfl⟩
      refine ⟨_, rfl, Calls.mono (rBit_spec (ry.ahead hb1) (by omega) (by omega)) ?_⟩
      rintro e w3 ⟨rfl, rfl⟩
      refine ⟨_, rfl, Calls.mono (rBit_spec (rp.ahead hb1) (by omega) (by omega)) ?_⟩
      rintro e w4 ⟨rfl, rfl⟩
      have q1 := Nat.mod_lt (X / 2 ^ j) (show 2 > 0 by omega)
      have q2 := Nat.mod_lt (Y / 2 ^ j) (show 2 > 0 by omega)
      generalize X / 2 ^ j % 2 = u at *
      generalize Y / 2 ^ j % 2 = v at *
      have e1 : IntKind.i64.wrap ((u : Int) + (v : Int)) = ((u + v : Nat) : Int) := by rw [wrap_i64 (by omega) (by omega)]; omega
      have e2 : IntKind.i64.wrap (Int.tdiv ((u + v : Nat) : Int) 2) = (((u + v) / 2 : Nat) : Int) := by
        have : Int.tdiv ((u + v : Nat) : Int) 2 = (((u + v) / 2 : Nat) : Int) := by rw [Int.tdiv_eq_ediv_of_nonneg (by omega)]; omega
        rw [this, wrap_i64 (by omega) (by omega)]
      have e3 : IntKind.i64.wrap (Int.tdiv (IntKind.i64.wrap (((u + v : Nat) : Int) + 1)) 2) = (((u + v + 1) / 2 : Nat) : Int) := by
        rw [wrap_i64 (x := ((u + v : Nat) : Int) + 1) (by omega) (by omega)]
        have : Int.tdiv (((u + v : Nat) : Int) + 1) 2 = (((u + v + 1) / 2 : Nat) : Int) := by rw [Int.tdiv_eq_ediv_of_nonneg (by omega)]; omega
        rw [this, wrap_i64 (by omega) (by omega)]
      have e4 : Int.tmod ((u + v : Nat) : Int) 2 = (((u + v) % 2 : Nat) : Int) := by rw [Int.tmod_eq_emod_of_nonneg (by omega)]; omega
      rw [e1, e2, e3, e4]
      refine ⟨_, rfl, br_false (by rw [gA]; simp) (Calls.mono (rBit_spec (rq.ahead hb1) (by omega) (by omega)) ?_)⟩
      rintro e w5 ⟨rfl, rfl⟩
      refine ⟨_, rfl, br_false (by rw [gO]; simp) (Calls.mono (rBit_spec (rr.ahead hb1) (by omega) (by omega)) ?_)⟩
      rintro e w6 ⟨rfl, rfl⟩
      refine ⟨_, rfl, br_false (by rw [gX]; simp) ⟨⟨rfl, rfl, rfl, j + 1, wb, wa, wo, e8, by omega, hwb, hb1, hao, oa, oo, ox, hob, hwa, rx, ry, rp, rq, rr⟩, by rw [e8]; omega⟩⟩
    · have oab := (oa.ahead hao).ahead hob
      have oob := oo.ahead hob
      refine Calls.mono (Is_spec (rp.ahead hb1) (oab.ahead hb1).rd (by omega)) ?_
      rintro e w20 ⟨h20, rfl⟩
      have hb20 := hb1.trans h20
      refine ⟨_, rfl, br_true rfl (Calls.mono (Is_spec (rq.ahead hb20) (oob.ahead hb20).rd (by omega)) ?_)⟩
      rintro e w21 ⟨h21, rfl⟩
      have hb21 := hb20.trans h21
      refine ⟨_, rfl, br_true rfl (Calls.mono (Is_spec (rr.ahead hb21) (ox.ahead hb21).rd (by omega)) ?_)⟩
      rintro e w22 ⟨h22, rfl⟩
      have hb22 := hb21.trans h22
      have h022 := hwb.trans hb22
      refine ⟨_, rfl, br_true rfl (Calls.mono (cC0 h022) ?_)⟩
      rintro e w23 ⟨rfl, rfl⟩
      refine ⟨_, rfl, Calls.mono (cC1 h022) ?_⟩
      rintro e w24 ⟨rfl, rfl⟩
      refine ⟨_, rfl, Calls.mono (Count_spec (oab.ahead hb22).rd (by omega) (ok_digs two64 _)) ?_⟩
      rintro e w25 ⟨rfl, rfl⟩
      refine ⟨_, rfl, Calls.mono (Count_spec (oob.ahead hb22).rd (by omega) (ok_digs two64 _)) ?_⟩
      rintro e w26 ⟨rfl, rfl⟩
      refine ⟨_, rfl, br_true ?_ ?_⟩
      · rw [wrap_i64 (by omega) (by omega), wrap_i64 (by omega) (by omega)]
        simp only [beq_iff_eq]
        omega
      refine Calls.mono (own_list (base := w.heap.size) [(t5, digs B64 A), (t6, digs B64 O), (t7, digs B64 E)] h022.size ?_ ?_ (by simp) rfl rfl) ?_
      · intro z hz
        simp only [List.mem_cons, List.not_mem_nil, or_false] at hz
        rcases hz with rfl | rfl | rfl
        · exact ⟨oab.ahead hb22, by simp only; omega⟩
        · exact ⟨(oob.ahead hb22).mono hwa.size, by simp only; omega⟩
        · exact ⟨(ox.ahead hb22).mono (hwa.trans hao).size, by simp only; omega⟩
      · simp only [List.pairwise_cons, List.mem_cons, List.not_mem_nil, or_false, forall_eq_or_imp, forall_eq, List.Pairwise.nil, and_true, false_implies, implies_true]
        exact ⟨⟨fun k => old_new oa (Nat.le_refl _) oo k, fun k => old_new oa hao.size ox k⟩, fun k => old_new oo (Nat.le_refl _) ox k⟩
      rintro e w28 ⟨rfl, hb28⟩
      have h028 : Ahead w w28 := low_ahead h022 (Nat.le_refl _) hb28
      exact ⟨_, rfl, br_true rfl (end_lives h028)⟩

end Nat
end Go.Proofs.Ytaflfjbhlgbmdaa
