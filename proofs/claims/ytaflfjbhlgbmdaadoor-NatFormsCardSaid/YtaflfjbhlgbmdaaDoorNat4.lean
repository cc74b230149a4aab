/- nat's And, Or, Xor, Count; the document's Bit; the law NatBits. No condition. -/
import Derived.Test.YtaflfjbhlgbmdaaDoorPc
import Derived.Test.YtaflfjbhlgbmdaaDoorVcBits
import Derived.Test.YtaflfjbhlgbmdaaDoorLaw3
namespace Go.Proofs.YtaflfjbhlgbmdaaDoor
open Go Go.RowKit Eng Sp Dg
set_option linter.unusedVariables false
set_option linter.unusedSimpArgs false
set_option maxRecDepth 100000
namespace Dg
/-- What goes bit by bit. -/
structure BitOp (op : Nat → Nat → Nat) : Prop where
  lt : ∀ {x y k : Nat}, x < 2 ^ k → y < 2 ^ k → op x y < 2 ^ k
  div : ∀ x y k, op x y / 2 ^ k = op (x / 2 ^ k) (y / 2 ^ k)
  mod : ∀ x y k, op x y % 2 ^ k = op (x % 2 ^ k) (y % 2 ^ k)
theorem bitAnd : BitOp fun x y => x &&& y := ⟨fun h1 h2 => Nat.and_lt_two_pow _ h2, fun x y k => Nat.and_div_two_pow, fun x y k => Nat.and_mod_two_pow⟩
theorem bitOr : BitOp fun x y => x ||| y := ⟨fun h1 h2 => Nat.or_lt_two_pow h1 h2, fun x y k => Nat.or_div_two_pow, fun x y k => Nat.or_mod_two_pow⟩
theorem bitXor : BitOp fun x y => x ^^^ y := ⟨fun h1 h2 => Nat.xor_lt_two_pow h1 h2, fun x y k => Nat.xor_div_two_pow, fun x y k => Nat.xor_mod_two_pow⟩
theorem BitOp.digit {op : Nat → Nat → Nat} (h : BitOp op) {la lb : List Nat} (oa : ok B64 la) (ob : ok B64 lb) (i : Nat) : op (la.getD i 0) (lb.getD i 0) = op (val B64 la) (val B64 lb) / B64 ^ i % B64 := by
  rw [b64_pow, h.div, ← b64_pow, show B64 = 2 ^ 64 from rfl, h.mod, ← show B64 = 2 ^ 64 from rfl, ← Dg.digit (by rw [B64v]; omega) la oa i, ← Dg.digit (by rw [B64v]; omega) lb ob i]
theorem BitOp.val {op : Nat → Nat → Nat} (h : BitOp op) {la lb l : List Nat} (oa : ok B64 la) (ob : ok B64 lb) (n1 : la.length ≤ l.length) (n2 : lb.length ≤ l.length) (hd : ∀ i, i < l.length → l.getD i 0 = op (la.getD i 0) (lb.getD i 0)) :
    Dg.val B64 l = op (Dg.val B64 la) (Dg.val B64 lb) := by
  refine val_of_digits (by rw [B64v]; omega) l _ ?_ fun i hi => (hd i hi).trans (h.digit oa ob i)
  rw [b64_pow]
  refine h.lt ?_ ?_
  · rw [← b64_pow]; exact Nat.lt_of_lt_of_le (val_lt oa) (Nat.pow_le_pow_right (by rw [B64v]; omega) n1)
  · rw [← b64_pow]; exact Nat.lt_of_lt_of_le (val_lt ob) (Nat.pow_le_pow_right (by rw [B64v]; omega) n2)
theorem BitOp.bl {op : Nat → Nat → Nat} (h : BitOp op) {x y n : Nat} (hx : Dg.bl x ≤ n) (hy : Dg.bl y ≤ n) : Dg.bl (op x y) ≤ n := bl_le (h.lt (bl_le_iff.1 hx) (bl_le_iff.1 hy))
theorem bl_or (x y : Nat) : Dg.bl (x ||| y) = max (Dg.bl x) (Dg.bl y) := by
  refine Nat.le_antisymm (bitOr.bl (Nat.le_max_left _ _) (Nat.le_max_right _ _)) (Nat.max_le.2 ⟨bl_mono Nat.left_le_or, bl_mono Nat.right_le_or⟩)
theorem bit_and (x y i : Nat) : (x &&& y) / 2 ^ i % 2 = (x / 2 ^ i % 2 + y / 2 ^ i % 2) / 2 := by
  have h1 : (x &&& y) / 2 ^ i = x / 2 ^ i &&& y / 2 ^ i := bitAnd.div x y i
  have h2 : (x / 2 ^ i &&& y / 2 ^ i) % 2 ^ 1 = (x / 2 ^ i) % 2 ^ 1 &&& (y / 2 ^ i) % 2 ^ 1 := bitAnd.mod (x / 2 ^ i) (y / 2 ^ i) 1
  rw [Nat.pow_one] at h2

  rw [h1, h2]
  rcases Nat.mod_two_eq_zero_or_one (x / 2 ^ i) with h | h <;> rcases Nat.mod_two_eq_zero_or_one (y / 2 ^ i) with h' | h' <;> rw [h, h'] <;> rfl
theorem bit_or (x y i : Nat) : (x ||| y) / 2 ^ i % 2 = (x / 2 ^ i % 2 + y / 2 ^ i % 2 + 1) / 2 := by
  have h1 : (x ||| y) / 2 ^ i = x / 2 ^ i ||| y / 2 ^ i := bitOr.div x y i
  have h2 : (x / 2 ^ i ||| y / 2 ^ i) % 2 ^ 1 = (x / 2 ^ i) % 2 ^ 1 ||| (y / 2 ^ i) % 2 ^ 1 := bitOr.mod (x / 2 ^ i) (y / 2 ^ i) 1
  rw [Nat.pow_one] at h2

  rw [h1, h2]
  rcases Nat.mod_two_eq_zero_or_one (x / 2 ^ i) with h | h <;> rcases Nat.mod_two_eq_zero_or_one (y / 2 ^ i) with h' | h' <;> rw [h, h'] <;> rfl
theorem bit_xor (x y i : Nat) : (x ^^^ y) / 2 ^ i % 2 = (x / 2 ^ i % 2 + y / 2 ^ i % 2) % 2 := by
  have h1 : (x ^^^ y) / 2 ^ i = x / 2 ^ i ^^^ y / 2 ^ i := bitXor.div x y i
  have h2 : (x / 2 ^ i ^^^ y / 2 ^ i) % 2 ^ 1 = (x / 2 ^ i) % 2 ^ 1 ^^^ (y / 2 ^ i) % 2 ^ 1 := bitXor.mod (x / 2 ^ i) (y / 2 ^ i) 1
  rw [Nat.pow_one] at h2

  rw [h1, h2]
  rcases Nat.mod_two_eq_zero_or_one (x / 2 ^ i) with h | h <;> rcases Nat.mod_two_eq_zero_or_one (y / 2 ^ i) with h' | h' <;> rw [h, h'] <;> rfl
/-- How many bits of a list of limbs are 1. -/
def pcL (l : List Nat) : Nat := (l.map (pcF 64)).foldr (fun x s => x + s) 0
theorem pcL_cons (x : Nat) (l : List Nat) : pcL (x :: l) = pcF 64 x + pcL l := rfl
theorem pcL_le : ∀ l : List Nat, pcL l ≤ 64 * l.length
  | [] => by simp [pcL]
  | x :: l => by have := pcL_le l; have := pcF_le 64 x; rw [pcL_cons, List.length_cons]; omega
theorem pcF_ext {f n : Nat} (k : Nat) (h : n < 2 ^ f) : pcF (f + k) n = pcF f n := by
  rw [pcF_split, Nat.mod_eq_of_lt h, Nat.div_eq_of_lt h, pcF_zero, Nat.add_zero]
theorem pcL_val : ∀ (l : List Nat), ok B64 l → pcF (64 * l.length) (val B64 l) = pcL l
  | [], _ => rfl
  | x :: l, h => by
    have hx := (ok_cons.1 h).1
    have ho := (ok_cons.1 h).2
    have h64 : B64 = 2 ^ 64 := rfl
    rw [List.length_cons, show 64 * (l.length + 1) = 64 + 64 * l.length by omega, pcF_split, pcL_cons, ← pcL_val l ho]
    have e : val B64 (x :: l) = x + 2 ^ 64 * val B64 l := rfl
    rw [e, Nat.add_mul_mod_self_left, Nat.mod_eq_of_lt (h64 ▸ hx), Nat.add_mul_div_left _ _ (Nat.pow_pos (by omega)), Nat.div_eq_of_lt (h64 ▸ hx), Nat.zero_add]
theorem pcL_big {l : List Nat} (h : ok B64 l) {F : Nat} (hF : 64 * l.length ≤ F) : pcF F (val B64 l) = pcL l := by
  rw [← pcL_val l h, show F = 64 * l.length + (F - 64 * l.length) by omega]
  exact pcF_ext _ (by rw [← b64_pow]; exact val_lt h)
theorem pcL_take_succ (l : List Nat) (j : Nat) (h : j < l.length) : pcL (l.take (j + 1)) = pcL (l.take j) + pcF 64 (l.getD j 0) := by
  induction l generalizing j with
  | nil => simp at h
  | cons x l ih =>
    cases j with
    | zero => simp [pcL_cons, pcL]
    | succ j =>
      have := ih j (by simpa using h)
      simp only [List.take_succ_cons, pcL_cons, List.getD_cons_succ] at this ⊢
      omega
end Dg
namespace Nat
open _root_.Go.Proofs.YtaflfjbhlgbmdaaDoor.Ref (RN Of_spec Is_spec Len_spec own_list old_new low_ahead Bk tdiv32 tmod32 len32 len_mono)

theorem Fill.trimmed {w0 w : World} {c : Slc} {l : List Nat} {S : World → Prop} (h : Fill w0 w c l S) (hl : l.length ≤ 2 ^ 46) (hok : ok B64 l) :
    Calls pr nat_trim_id #[c.v] w fun e w' => w' = w ∧ ∃ s, e = .returned (Slc.v s) ∧ OwnNil w0.heap.size w s (digs B64 (val B64 l)) := by
  obtain ⟨b, w1, h1, h2, h3, h4, _⟩ := h
  refine Calls.mono (trim_spec h1.rd hl hok) ?_
  rintro e w' ⟨rfl, m, hm, hd, rfl⟩
  refine ⟨rfl, _, rfl, .inr ⟨b, h3, h2, ?_⟩⟩
  have := h1.take (m := m) (by simpa using hm)
  rw [hd, ← nn_take]
  exact this

theorem xorI_nat {x y : Nat} (hx : x < B64) (hy : y < B64) : xorI .u64 (x : Int) (y : Int) = ((x ^^^ y : Nat) : Int) := by
  have hB := B64v
  unfold xorI
  have e : (BitVec.ofInt IntKind.u64.bits (x : Int) ^^^ BitVec.ofInt IntKind.u64.bits (y : Int)).toNat = x ^^^ y := by
    rw [BitVec.toNat_xor, BitVec.ofInt_natCast, BitVec.ofInt_natCast, BitVec.toNat_ofNat, BitVec.toNat_ofNat]
    show x % 2 ^ 64 ^^^ y % 2 ^ 64 = _
    rw [Nat.mod_eq_of_lt (by omega), Nat.mod_eq_of_lt (by omega)]
  rw [e]
  refine wrap_u64' (by omega) ?_
  have : x ^^^ y < 2 ^ 64 := Nat.xor_lt_two_pow (by omega) (by omega)
  omega




theorem Count_spec {w : World} {s : Slc} {l : List Nat} (h : Rd .u64 w s (nn l)) (hl : l.length ≤ 2 ^ 44) (ol : ok B64 l) :
    Calls pr nat_Count_id #[s.v] w fun e w' => w' = w ∧ e = .returned (.int .i64 (pcL l)) := by
  have hn : s.n = l.length := by rw [h.n, nn_length]
  refine nat_Count_vc s w _ (fun c t n i w' => t = s ∧ n = (l.length : Int) ∧ w' = w ∧ ∃ j : Nat, i = (j : Int) ∧ j ≤ l.length ∧ c = (pcL (l.take j) : Int)) (fun _ _ n i _ => (n - i).toNat) ⟨rfl, by rw [hn], rfl, 0, rfl, Nat.zero_le _, by simp [pcL]⟩ ?_
  rintro c t n i w1 ⟨rfl, rfl, rfl, j, rfl, hj, rfl⟩
  refine br_intro (fun hlt => ?_) (fun hge => ?_)
  · have hj' : j < l.length := by simp at hlt; omega
    refine ldN h (by omega) (by omega) ?_
    rw [Int.toNat_natCast]
    have e8 : IntKind.i64.wrap ((j : Int) + 1) = ((j + 1 : Nat) : Int) := by rw [wrap_i64 (by omega) (by omega)]; omega
    refine Calls.mono (OnesCount64_spec (ok_getD ol (by rw [B64v]; omega) j)) ?_
    rintro e w2 ⟨rfl, rfl⟩
    have h1 := pcL_le (l.take j)
    have h2 := pcF_le 64 (l.getD j 0)
    rw [List.length_take] at h1
    refine ⟨_, rfl, ⟨rfl, rfl, rfl, j + 1, e8, hj', ?_⟩, by rw [e8]; omega⟩
    rw [pcL_take_succ l j hj', wrap_i64 (by omega) (by omega)]; omega
  · have hj' : j = l.length := by simp at hge; omega
    subst hj'
    rw [List.take_length]
    exact ⟨rfl, rfl⟩

theorem bit_digit (U s : Nat) (hs : s < 32) : U % 2 ^ 32 / 2 ^ s % 2 = U / 2 ^ s % 2 := by
  have h : (2 : Nat) ^ 32 = 2 ^ s * (2 * 2 ^ (31 - s)) := by rw [← Nat.pow_succ', ← Nat.pow_add]; congr 1; omega
  rw [h, Nat.mod_mul_right_div_self, Nat.mod_mul_right_mod]
theorem rBit_spec {w : World} {s : Slc} {x : Nat} {i : Nat} (h : RN w s x) (hl : (digs B32 x).length ≤ 2 ^ 46) (hi : i ≤ 9223372036854775807) :
    Calls pr surdref01_Num_Bit_id #[s.v, .int .i64 (i : Int)] w fun e w' => w' = w ∧ e = .returned (.int .i64 ((x / 2 ^ i % 2 : Nat) : Int)) := by
  have hn := h.n
  have ox := ok_digs two32 x
  have vx := val_digs two32 x
  have hB := B32v
  have hp2 : B32 ^ (i / 32) * 2 ^ (i % 32) = 2 ^ i := (pow_split i 32).symm
  have hx : x / 2 ^ i % 2 = (digs B32 x).getD (i / 32) 0 / 2 ^ (i % 32) % 2 := by
    rw [digit (by omega : 0 < B32) _ ox (i / 32), vx, ← hp2, ← Nat.div_div_eq_div_mul, show B32 = 2 ^ 32 from rfl, bit_digit _ _ (Nat.mod_lt _ (by omega))]
  have e0 : ((i : Int)).toNat = i := by omega
  unfold RN at h
  refine surdref01_Num_Bit_vc s i w _ (br_false (by simp) ?_)
  rw [tdiv32 (by omega) (by omega), tmod32 (by omega), e0]
  refine br_intro (fun hb => ?_) (fun hb => ?_)
  · refine ⟨rfl, ?_⟩
    have hb' : (digs B32 x).length ≤ i / 32 := by simp at hb; omega
    rw [hx, getD_ge _ 0 hb']
    simp
  · have hb' : i / 32 < (digs B32 x).length := by simp at hb; omega
    refine ldN h (by omega) (by omega) ?_
    refine semShr (by omega) ?_
    rw [Int.toNat_natCast]
    have hlt := ok_getD ox (by omega : 0 < B32) (i / 32)
    generalize (digs B32 x).getD (i / 32) 0 = d at *
    have hd : d / 2 ^ (i % 32) < B64 := Nat.lt_of_le_of_lt (Nat.div_le_self _ _) (by rw [B64v]; omega)
    rw [show (1 : Int) = ((1 : Nat) : Int) from rfl, andI_nat hd (by rw [B64v]; omega), Nat.and_one_is_mod, hx, wrap_i64 (by omega) (by omega)]
    exact ⟨rfl, rfl⟩

theorem digs32_len_bl {n k : Nat} (h : bl n ≤ 32 * k) : (digs B32 n).length ≤ k := digs_length_le two32 (by rw [b32_pow]; exact bl_le_iff.1 h)


end Nat
end Go.Proofs.YtaflfjbhlgbmdaaDoor
