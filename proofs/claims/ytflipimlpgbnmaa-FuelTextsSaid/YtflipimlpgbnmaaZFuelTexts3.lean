/- What the law leans on, part 3. No condition. -/
import Derived.Test.YtflipimlpgbnmaaZFuelTexts2
namespace Go.Proofs.Ytflipimlpgbnmaa
open Go Go.RowKit Eng Sp Dg
set_option linter.unusedVariables false
set_option linter.unusedSimpArgs false
set_option maxRecDepth 100000
namespace Bd
open _root_.Go.Proofs.Ytflipimlpgbnmaa.Nat (Num Num.ahead OwnNil OwnNil.ahead OwnNil.mono OwnNil.nil Ret)
open Sb

theorem ahead_mp {w0 w w' : World} {m : Nat} (h : Ahead w0 w) (a : Mp m w w') (hm : w0.heap.size ≤ m) : Ahead w0 w' :=
  ⟨a.os.trans h.os, a.tape.trans h.tape, a.output.trans h.output, Nat.le_trans h.size a.size, fun k hk => (a.block k (Nat.lt_of_lt_of_le hk h.size) (by omega)).trans (h.block k hk)⟩

theorem build_tail {B : Nat} {w0 w : World} {s : Slc} {l : List Nat} {b0 : Nat} {t1 t2 t3 t4 : TypeId} (hB : 2 ≤ B) (hB2 : B ≤ 36) (ol : ok B l) (hl : l.length ≤ 1048576) (hw : Ahead w0 w)
    (hc : w.cell? ⟨b0, 0, none⟩ = some (.int .i64 (B : Int))) (hr : Rd .i64 w s (nn l)) :
    Sem.wp pr (Instr.makeMap t1 none) (fun v1 w4 => ∃ m1 : Option Nat, v1 = Value.map m1 ∧
      (newC w4 #[Value.map none] t2 fun ad3 w5 => stC ad3 (Value.map m1) w5 fun w6 => newC w6 #[Value.nilFunc] t3 fun ad4 w7 =>
       stC ad4 (Value.func (Fn.func numeral_build_1_id) #[] #[Value.pointer (some ad3), Value.pointer (some ⟨b0, 0, none⟩)]) w7 fun w8 => newC w8 #[Value.nilFunc] t4 fun ad5 w9 =>
       stC ad5 (Value.func (Fn.func numeral_build_2_id) #[] #[Value.pointer (some ⟨b0, 0, none⟩), Value.pointer (some ad5), Value.pointer (some ad4)]) w9 fun w10 =>
       ldV ad5 w10 fun v2 => callX pr v2 #[s.v] w10 fun e1 w11 => ∃ s2 : Slc, ∃ x2 : Int, e1 = .returned (Value.tuple #[s2.v, Value.int .i64 x2]) ∧
       Ret w0 0 (hv B l) (.returned (Value.tuple #[s2.v, Value.int .i64 x2])) w11)) (fun _ _ => False) w := by
  rw [Sem.wp_iff_run, run_makeMap]
  refine ⟨_, rfl, ?_⟩
  have M4 : MapOk (w.alloc (.map #[] 0)) w.heap.size (fun n => B ^ n) := MapOk.made w _
  have h4 : Ahead w (w.alloc (.map #[] 0)) := Ahead.alloc _ _
  generalize hw4 : w.alloc (.map #[] 0) = w4 at M4 h4
  have z4 : w.heap.size < w4.heap.size := M4.lt
  refine newC_b fun b3 w5 hb3 h5 hs5 B5 => stC_b 0 B5 (by simp) rfl fun w6 u6 B6 => ?_
  have h46 : Ahead w4 w6 := u6.ahead h5 (by omega)
  have z6 := u6.size
  refine newC_b fun b4 w7 hb4 h7 hs7 B7 => stC_b 0 B7 (by simp) rfl fun w8 u8 B8 => ?_
  have h68 : Ahead w6 w8 := u8.ahead h7 (by omega)
  have z8 := u8.size
  refine newC_b fun b5 w9 hb5 h9 hs9 B9 => stC_b 0 B9 (by simp) rfl fun w10 u10 B10 => ?_
  have h810 : Ahead w8 w10 := u10.ahead h9 (by omega)
  have h410 := (h46.trans h68).trans h810
  have h10 := h4.trans h410
  have E : Env w10 B w.heap.size ⟨b0, 0, none⟩ ⟨b3, 0, none⟩ ⟨b4, 0, none⟩ ⟨b5, 0, none⟩ :=
    ⟨h10.cell hc, (B6.ahead (h68.trans h810)).cell rfl, (B8.ahead h810).cell rfl, B10.cell rfl, M4.ahead h410⟩
  refine ⟨_, E.q, callX_intro (by kernel_rfl) (Calls.mono (part_spec hB hB2 l.length l w10 s rfl hl ol E (hr.ahead h10)) ?_)⟩
  rintro e w11 ⟨a11, _, t, rfl, ot⟩
  have h010 := hw.trans h10
  exact ⟨_, _, rfl, ahead_mp h010 a11 hw.size, t, rfl, by rw [if_pos rfl]; exact ot.mono h010.size⟩

theorem Build_spec {w : World} {s : Slc} {l : List Nat} {B : Nat} (hB : 2 ≤ B) (hB2 : B ≤ 36) (hr : Rd .i64 w s (nn l)) (ol : ok B l) (hl : l.length ≤ 1048576) :
    Calls pr numeral_build_id #[s.v, .int .i64 (B : Int)] w (Ret w 0 (hv B l)) := by
  refine numeral_build_vc s (B : Int) w _ (fun t0 t3 w' => ∃ j, j ≤ l.length ∧ hv B (l.drop j) = hv B l ∧ Rd .i64 w' t0 (nn (l.drop j)) ∧ Ahead w w' ∧ t3 = ⟨w.heap.size, 0, none⟩ ∧ w'.cell? ⟨w.heap.size, 0, none⟩ = some (.int .i64 (B : Int)))
    (fun t0 _ _ => t0.n) (newC_b fun b w1 hb h1 _ B1 => ?_) ?_
  · subst hb
    exact ⟨0, Nat.zero_le _, by simp, by simpa using hr.ahead h1, h1, rfl, B1.cell rfl⟩
  · rintro t0 t3 w1 ⟨j, hj, hv1, r1, h1, rfl, hc⟩
    have hn : t0.n = l.length - j := by rw [r1.n, nn_length]; simp
    refine br_intro (fun h => ?_) (fun h => ?_)
    · have hj' : j < l.length := by have := of_decide_eq_true h; omega
      refine ix_ld (k := .i64) (e := tInt) (by kernel_rfl) r1 (by omega) (by rw [nn_length]; simp; omega) ?_
      have e0 : (nn (l.drop j)).getD (0 : Int).toNat 0 = ((l.getD j 0 : Nat) : Int) := by
        rw [nn_getD, getD_drop]; simp
      rw [e0]
      refine br_intro (fun hz => ?_) (fun hz => ?_)
      · have hz' : l.getD j 0 = 0 := by have := eq_of_beq hz; omega
        have hd : l.drop j = 0 :: l.drop (j + 1) := by
          rw [List.drop_eq_getElem_cons hj', ← getD_lt l 0 hj', hz']
        refine Fuel.cutLoG (k := .i64) (e := tInt) (by kernel_rfl) (by omega) (by omega) ?_
        have r2 := r1.drop (m := 1) (by rw [nn_length]; simp; omega)
        rw [nn_drop, List.drop_drop] at r2
        exact ⟨⟨j + 1, hj', by rw [← hv1, hd, hv_cons0], r2, h1, rfl, hc⟩, by show t0.n - 1 < t0.n; omega⟩
      · refine br_false (decide_eq_false (by omega)) ?_
        rw [← hv1]
        exact build_tail hB hB2 (ok_drop ol j) (by simp; omega) h1 hc r1
    · refine br_false (decide_eq_false (by omega)) ?_
      rw [← hv1]
      exact build_tail hB hB2 (ok_drop ol j) (by simp; omega) h1 hc r1

/-- A text's bytes. -/
def bs (s : ByteArray) : List Nat := s.data.toList.map UInt8.toNat
theorem bs_length (s : ByteArray) : (bs s).length = s.size := by simp [bs]
theorem bs_lt {s : ByteArray} {i : Nat} : (bs s).getD i 0 < 256 := by
  rcases Nat.lt_or_ge i (bs s).length with h | h
  · rw [getD_lt _ _ h]
    simp only [bs, List.getElem_map]
    exact UInt8.toNat_lt _
  · rw [getD_ge _ _ h]; omega
theorem run_byte {P : Program} {t : TypeId} (hT : P.underlying t = some .string) (w : World) (s : ByteArray) {i : Nat} (h : i < s.size) :
    (Instr.index t (.string s) (.int .i64 (i : Int))).run P w = .ok (.int .u8 (((bs s).getD i 0 : Nat) : Int)) w := by
  have e : s[i]? = some s[i] := by simp [h]
  have e2 : (s[i]).toNat = (bs s).getD i 0 := by
    rw [getD_lt _ _ (by rw [bs_length]; exact h)]
    simp [bs]; rfl
  simp [Instr.index, asIntOf, run_underlying hT, Result.andThen, e, e2]
theorem ix_byte {P : Program} {t : TypeId} (hT : P.underlying t = some .string) {w : World} {s : ByteArray} {i : Nat} (h : i < s.size) {K : Int → World → Prop} (hk : K (((bs s).getD i 0 : Nat) : Int) w) :
    semI P .u8 (Instr.index t (.string s) (.int .i64 (i : Int))) w fun x w1 => K x w1 := by
  unfold semI
  rw [Sem.wp_iff_run, run_byte hT w s h]
  exact ⟨_, rfl, hk⟩

/-- What a byte says as a digit; 36: nothing. -/
def dg (c : Nat) : Nat := if 48 ≤ c ∧ c ≤ 57 then c - 48 else if 97 ≤ c ∧ c ≤ 122 then c - 97 + 10 else 36
def dl (s : ByteArray) : List Nat := (bs s).map dg
theorem dl_length (s : ByteArray) : (dl s).length = s.size := by rw [dl, List.length_map, bs_length]
theorem dl_getD {s : ByteArray} {i : Nat} (h : i < s.size) : (dl s).getD i 0 = dg ((bs s).getD i 0) := by
  rw [getD_lt _ _ (by rw [dl_length]; exact h), getD_lt _ _ (by rw [bs_length]; exact h)]
  simp [dl]
/-- Digits of the base alone, one or more. -/
def GoodT (B : Nat) (s : ByteArray) : Prop := 0 < s.size ∧ ok B (dl s)
instance (B : Nat) (s : ByteArray) : Decidable (GoodT B s) := by unfold GoodT ok; exact inferInstance
def goodC (B : Nat) (s : ByteArray) : Int := if GoodT B s then 0 else 51
theorem not_good {B : Nat} {s : ByteArray} {i : Nat} (hi : i < s.size) (h : B ≤ dg ((bs s).getD i 0)) : ¬ GoodT B s := fun hg => by
  have h1 := ok_getD hg.2 (by rcases Nat.eq_zero_or_pos B with h0 | h0; · subst h0; have := hg.2 ((dl s)[i]'(by rw [dl_length]; exact hi)) (List.getElem_mem _); omega
                              · exact h0) i
  rw [dl_getD hi] at h1; omega

theorem good_spec {w : World} {B : Nat} (hB : 2 ≤ B) (hB2 : B ≤ 36) : Calls pr numeral_good_id #[.int .i64 (B : Int)] w fun e w' => w' = w ∧ e = .returned (.bool true) :=
  numeral_good_vc _ w _ (br_true (decide_eq_true (by omega)) ⟨rfl, by simp; omega⟩)

def PJ (w : World) (s : ByteArray) (B : Nat) (t0 : ByteArray) (t1 : Int) (t6 : Slc) (t19 t20 : Int) (w' : World) : Prop :=
  t0 = s ∧ t1 = (B : Int) ∧ t19 = (s.size : Int) ∧ 0 < s.size ∧ Ahead w w' ∧ ∃ i : Nat, t20 = (i : Int) ∧ i ≤ s.size ∧ ok B ((dl s).take i) ∧ ∃ b, w.heap.size ≤ b ∧ Owr .i64 tInt w' t6 (nn ((dl s).take i ++ List.replicate (s.size - i) 0)) b
theorem wrap_u8 {x : Int} (h0 : 0 ≤ x) (h1 : x < 256) : IntKind.u8.wrap x = x := by
  unfold IntKind.wrap; simp [IntKind.bits, IntKind.signed]; omega
theorem Parse_spec {w : World} {s : ByteArray} {B : Nat} (hB : 2 ≤ B) (hB2 : B ≤ 36) (hs : s.size ≤ 1048576) :
    Calls pr numeral_Parse_id #[.string s, .int .i64 (B : Int)] w (Ret w (goodC B s) (hv B (dl s))) := by
  have bad : ∀ w', Ahead w w' → ¬ GoodT B s → Ret w (goodC B s) (hv B (dl s)) (.returned (Value.tuple #[(⟨none, 0, 0⟩ : Slc).v, Value.int .i64 51])) w' := fun w' h hg =>
    ⟨h, ⟨none, 0, 0⟩, by rw [goodC, if_neg hg], by rw [goodC, if_neg hg, if_neg (by omega)]; exact OwnNil.nil⟩
  refine numeral_Parse_vc s (B : Int) w _ (PJ w s B) (fun _ _ _ t19 t20 _ => (t19 - t20).toNat) (Calls.mono (good_spec hB hB2) ?_) ?_
  · rintro e w1 ⟨rfl, rfl⟩
    refine ⟨_, rfl, br_false rfl (br_intro (fun h => ?_) (fun h => ?_))⟩
    · refine bad _ (Ahead.refl _) fun hg => ?_
      have h1 := eq_of_beq h
      have h2 : s.size = 0 := by
        have h3 : s.data = #[] := by
          have h4 := h1
          simp [ByteArray.toList_eq] at h4 
          exact h4
        show s.data.size = 0
        rw [h3]; rfl
      have := hg.1; omega
    · have hpos : 0 < s.size := by
        rcases Nat.eq_zero_or_pos s.size with h0 | h0
        · have h2 : s = ⟨#[]⟩ := by
            obtain ⟨d⟩ := s
            have : d = #[] := Array.eq_empty_of_size_eq_zero h0
            rw [this]
          rw [h2] at h; simp at h
        · exact h0
      refine mk (k := .i64) (e := tInt) (by kernel_rfl) (by omega) (Int.le_refl _) (by omega) fun t w2 _ o2 h2 _ => ?_
      rw [Int.toNat_natCast, nn_replicate] at o2
      exact ⟨rfl, rfl, rfl, hpos, h2, 0, rfl, Nat.zero_le _, by simpa using ok_nil, _, Nat.le_refl _, by simpa using o2⟩
  · rintro t0 t1 t6 t19 t20 w1 ⟨rfl, rfl, rfl, h0, h1, i, rfl, hi, hok, b, hb, ho⟩
    refine br_intro (fun h => ?_) (fun h => ?_)
    · have hi' : i < t0.size := by have := of_decide_eq_true h; omega
      have hlt := bs_lt (s := t0) (i := i)
      have leaf : ∀ d : Int, d = ((dg ((bs t0).getD i 0) : Nat) : Int) → br (decide (d ≥ (B : Int))) (Ret w (goodC B t0) (hv B (dl t0)) (.returned (Value.tuple #[(⟨none, 0, 0⟩ : Slc).v, Value.int .i64 51])) w1)
          (semA pr (Instr.indexAt tInts t6.v (.int .i64 (i : Int))) w1 fun ad w4 => stC ad (Value.int .i64 d) w4 fun w5 => PJ w t0 B t0 (B : Int) t6 (t0.size : Int) (IntKind.i64.wrap ((i : Int) + 1)) w5 ∧ ((t0.size : Int) - IntKind.i64.wrap ((i : Int) + 1)).toNat < ((t0.size : Int) - (i : Int)).toNat) := by
        rintro d rfl
        rw [wrap_i64 (x := (i : Int) + 1) (by omega) (by omega)]
        refine br_intro (fun hd => bad _ h1 (not_good hi' (by have h9 := of_decide_eq_true hd; exact Int.ofNat_le.1 h9))) (fun hd => ?_)
        have hd' : dg ((bs t0).getD i 0) < B := by have := of_decide_eq_false hd; omega
        have hlen : ((dl t0).take i).length = i := by rw [List.length_take, dl_length]; omega
        refine ix_st (k := .i64) (e := tInt) (by kernel_rfl) ho (by omega) (by rw [nn_length, List.length_append, hlen, List.length_replicate]; omega) fun w5 o5 a5 _ => ?_
        rw [Int.toNat_natCast, nn_set, List.set_append, if_neg (by omega), hlen, Nat.sub_self, show t0.size - i = (t0.size - (i + 1)) + 1 by omega, List.replicate_succ, List.set_cons_zero] at o5
        have etk : (dl t0).take (i + 1) = (dl t0).take i ++ [dg ((bs t0).getD i 0)] := by
          rw [List.take_succ_eq_append_getElem (by rw [dl_length]; exact hi'), ← dl_getD hi', getD_lt _ _ (by rw [dl_length]; exact hi')]
        refine ⟨⟨rfl, rfl, rfl, h0, a5 w h1 hb, i + 1, by omega, by omega, ?_, b, hb, ?_⟩, by omega⟩
        · rw [etk, ok_append]
          exact ⟨hok, fun y hy => by rw [List.mem_singleton.1 hy]; exact hd'⟩
        · rw [etk, List.append_assoc]; exact o5
      refine ix_byte (by kernel_rfl) hi' ?_
      generalize hc : (bs t0).getD i 0 = c at hlt leaf
      refine br_intro (fun q1 => br_intro (fun q2 => ?_) (fun q2 => br_intro (fun q3 => br_intro (fun q4 => ?_) (fun q4 => ?_)) (fun q3 => ?_))) (fun q1 => br_intro (fun q3 => br_intro (fun q4 => ?_) (fun q4 => ?_)) (fun q3 => ?_))
      all_goals (first | (have p1 := of_decide_eq_true q1) | (have p1 := of_decide_eq_false q1))
      all_goals (try first | (have p2 := of_decide_eq_true q2) | (have p2 := of_decide_eq_false q2))
      all_goals (try first | (have p3 := of_decide_eq_true q3) | (have p3 := of_decide_eq_false q3))
      all_goals (try first | (have p4 := of_decide_eq_true q4) | (have p4 := of_decide_eq_false q4))
      · refine leaf _ ?_
        rw [wrap_u8 (by omega) (by omega), wrap_i64 (by omega) (by omega), dg, if_pos (by omega)]; omega
      · refine leaf _ ?_
        rw [wrap_u8 (by omega) (by omega), wrap_i64 (x := (c : Int) - 97) (by omega) (by omega), wrap_i64 (by omega) (by omega), dg, if_neg (by omega), if_pos (by omega)]; omega
      · refine leaf _ ?_
        rw [dg, if_neg (by omega), if_neg (by omega)]; rfl
      · refine leaf _ ?_
        rw [dg, if_neg (by omega), if_neg (by omega)]; rfl
      · omega
      · refine leaf _ ?_
        rw [dg, if_neg (by omega), if_neg (by omega)]; rfl
      · refine leaf _ ?_
        rw [dg, if_neg (by omega), if_neg (by omega)]; rfl
    · have hi' : i = t0.size := by have := of_decide_eq_false h; omega
      subst hi'
      rw [List.take_of_length_le (by rw [dl_length]; exact Nat.le_refl _)] at hok ho
      rw [Nat.sub_self, List.replicate_zero, List.append_nil] at ho
      have hgood : GoodT B t0 := ⟨h0, hok⟩
      refine Calls.mono (Build_spec hB hB2 ho.rd hok (by rw [dl_length]; exact hs)) ?_
      rintro e w2 hr
      obtain ⟨h2, u, rfl, ou⟩ := hr.base h1
      exact ⟨_, _, rfl, h2, u, by rw [goodC, if_pos hgood], by rw [goodC, if_pos hgood]; exact ou⟩
end Bd
end Go.Proofs.Ytflipimlpgbnmaa
namespace Go.Proofs.Ytflipimlpgbnmaa
open Go Go.RowKit Eng Sp Dg
set_option linter.unusedVariables false
set_option linter.unusedSimpArgs false
set_option maxRecDepth 100000
namespace Bd
open _root_.Go.Proofs.Ytflipimlpgbnmaa.Nat (Yes num_spec end_awake Num Num.ahead OwnNil OwnNil.rd OwnNil.ahead OwnNil.mono OwnNil.nil Ret digs_len_bl)
open _root_.Go.Proofs.Ytflipimlpgbnmaa.Ref (RN RN.ahead RN.nil Is_spec Add_spec)

theorem len32_bl {N m : Nat} (h : bl N ≤ 32 * m) : (digs B32 N).length ≤ m := by
  refine digs_length_le two32 ?_
  rw [b32_pow]
  exact bl_le_iff.1 h

/-- What a text says as a fuel: its code and its number. -/
def fpC (s : ByteArray) : Int := if 1048576 < s.size then 1 else goodC 10 s
theorem fParse_spec {w : World} {s : ByteArray} : Calls pr fuel_Parse_id #[.string s] w (Ret w (fpC s) (hv 10 (dl s))) := by
  refine fuel_Parse_vc s w _ (br_intro (fun h => ?_) (fun h => ?_))
  · have h' := of_decide_eq_true h
    have hc : fpC s = 1 := by rw [fpC, if_pos (by omega)]
    exact ⟨Ahead.refl _, ⟨none, 0, 0⟩, by rw [hc], by rw [hc, if_neg (by omega)]; exact OwnNil.nil⟩
  · have h' := of_decide_eq_false h
    have hc : fpC s = goodC 10 s := by rw [fpC, if_neg (by omega)]
    rw [hc]
    refine Calls.mono (Parse_spec (B := 10) (by omega) (by omega) (by omega)) ?_
    rintro e w1 ⟨h1, t, rfl, ot⟩
    exact ⟨_, _, rfl, h1, t, rfl, ot⟩

end Bd
end Go.Proofs.Ytflipimlpgbnmaa
namespace Go.Proofs.Ytflipimlpgbnmaa
open Go Go.RowKit Eng Sp Dg
set_option linter.unusedVariables false
set_option linter.unusedSimpArgs false
set_option maxRecDepth 100000
namespace Ref
open _root_.Go.Proofs.Ytflipimlpgbnmaa.Nat (ldN ldNf mkN semShl one_rd)
open _root_.Go.Proofs.Ytflipimlpgbnmaa.Mul (Only Off stO Only.rd)

def DivJ0 (w : World) (p q : Slc) (x y : Nat) (t0 t1 rest out : Slc) (i : Int) (w' : World) : Prop :=
  t0 = p ∧ t1 = q ∧ Ahead w w' ∧ ∃ (l : List Nat) (j r : Nat), i = (j : Int) - 1 ∧ j ≤ (digs B32 x).length ∧ Owr .u64 tU64 w' out (nn l) w.heap.size ∧ l.length = (digs B32 x).length ∧ ok B32 l ∧
    val B32 ((digs B32 x).drop j) = val B32 (l.drop j) * y + r ∧ r < y ∧ RN w' rest r ∧ ∀ ad, rest.A = some ad → w.heap.size < ad.block
def DivJ2 (w : World) (p q : Slc) (x y : Nat) (o : Slc) (io : Int) (t0 t1 rest out : Slc) (i t9 t10 : Int) (w' : World) : Prop :=
  t0 = p ∧ t1 = q ∧ out = o ∧ i = io ∧ Ahead w w' ∧ ∃ (l : List Nat) (j r Q S r' : Nat), i = (j : Int) ∧ j < (digs B32 x).length ∧ Owr .u64 tU64 w' out (nn l) w.heap.size ∧ l.length = (digs B32 x).length ∧ ok B32 l ∧
    val B32 ((digs B32 x).drop (j + 1)) = val B32 (l.drop (j + 1)) * y + r ∧ t9 = (Q : Int) ∧ t10 = (S : Int) - 1 ∧ S ≤ 32 ∧ r * B32 + (digs B32 x).getD j 0 = Q * y + r' ∧ r' < y * 2 ^ S ∧ Q + 2 ^ S ≤ 2 ^ 32 ∧
    RN w' rest r' ∧ ∀ ad, rest.A = some ad → w.heap.size < ad.block

theorem len_lt_of {B x y k : Nat} (hB : 2 ≤ B) (h : x < y * B ^ k) : (digs B x).length ≤ (digs B y).length + k := by
  refine digs_length_le hB (Nat.lt_of_lt_of_le h ?_)
  rw [Nat.pow_add]
  refine Nat.mul_le_mul_right _ ?_
  have := val_lt (ok_digs hB y)
  rw [val_digs hB] at this
  omega
theorem drop_set_self (l : List Nat) (i q : Nat) (h : i < l.length) : (l.set i q).drop i = q :: l.drop (i + 1) := by
  apply List.ext_getElem?
  intro k
  rw [List.getElem?_drop]
  cases k with
  | zero => simp [h]
  | succ k =>
    rw [List.getElem?_set_ne (by omega)]
    simp; congr 1; omega

theorem rDiv_spec {w : World} {p q : Slc} {x y : Nat} (hp : RN w p x) (hq : RN w q y) (hy : 0 < y) (la : (digs B32 x).length ≤ 2 ^ 45) (lb : (digs B32 y).length + 2 ≤ 2 ^ 45) :
    Calls pr surdref01_Div_id #[p.v, q.v] w fun e w' => Ahead w w' ∧ ∃ s t, e = .returned (.tuple #[Slc.v s, Slc.v t]) ∧ RN w' s (x / y) ∧ RN w' t (x % y) := by
  have hB32 := B32v
  have hB := B64v
  have hna := hp.n
  have oa := ok_digs two32 x
  have vx := val_digs two32 x
  have step : ∀ {t1 : Slc} {l : List Nat} {out rest : Slc} {j Q r r' : Nat} {w' : World}, Ahead w w' → j < (digs B32 x).length → Owr .u64 tU64 w' out (nn l) w.heap.size → l.length = (digs B32 x).length → ok B32 l →
      val B32 ((digs B32 x).drop (j + 1)) = val B32 (l.drop (j + 1)) * y + r → r * B32 + (digs B32 x).getD j 0 = Q * y + r' → r' < y → Q < B32 → RN w' rest r' → (∀ ad, rest.A = some ad → w.heap.size < ad.block) →
      semA pr (Instr.indexAt 29 out.v (.int .i64 (j : Int))) w' fun ad w1 => stC ad (.int .u64 (Q : Int)) w1 fun w2 =>
        DivJ0 w p q x y p q rest out (IntKind.i64.wrap ((j : Int) - 1)) w2 ∧ (IntKind.i64.wrap ((j : Int) - 1) + 1).toNat < ((j : Int) + 1).toNat := by
    intro t1 l out rest j Q r r' w' ha hj ho hl ol hv hR hr' hQ hrest hfr
    refine stO ho (by omega) (by omega) ?_
    intro w2 ho2 hon
    rw [Int.toNat_natCast] at ho2
    rw [wrap_i64 (by omega) (by omega)]
    refine ⟨⟨rfl, rfl, hon.ahead ha (Nat.le_refl _), _, j, r', rfl, by omega, ho2, by simpa using hl, ok_set ol hQ, ?_, hr', hon.rd hrest (fun ad e _ => by have := hfr ad e; omega), hfr⟩, by omega⟩
    rw [drop_set_self _ _ _ (by omega), List.drop_eq_getElem_cons hj, ← getD_lt _ 0 hj]
    simp only [val]
    rw [hv, Nat.mul_add, Nat.add_mul, ← Nat.mul_assoc, Nat.mul_comm B32 r]
    omega
  refine surdref01_Div_vc p q w _ (DivJ0 w p q x y) (fun _ _ _ _ i _ => (i + 1).toNat) (fun _ _ _ o i _ => DivJ2 w p q x y o i) (fun _ _ _ _ _ _ _ _ _ _ _ _ s _ => (s + 1).toNat) ?_ ?_ ?_
  · rw [hna]
    refine mkN (by omega) (by omega) ?_
    intro c w1 hc ho h1 hs1
    rw [wrap_i64 (by omega) (by omega)]
    refine ⟨rfl, rfl, h1, _, (digs B32 x).length, 0, rfl, Nat.le_refl _, ho, by simp, ok_replicate (by omega) _, ?_, hy, RN.nil, fun ad h => by cases h⟩
    rw [List.drop_eq_nil_of_le (Nat.le_refl _), List.drop_eq_nil_of_le (by simp)]; simp [val]
  · rintro t0 t1 rest out i w1 ⟨rfl, rfl, h1, l, j, r, rfl, hj, ho, hl, ol, hv, hr, hrest, hfr⟩
    refine br_intro (fun hge => ?_) (fun hlt => ?_)
    · have hj1 : 1 ≤ j := by simp at hge; omega
      obtain ⟨k, rfl⟩ : ∃ k, j = k + 1 := ⟨j - 1, by omega⟩
      have ei : (((k + 1 : Nat) : Int) - 1) = (k : Int) := by omega
      rw [ei]
      have hx := ok_getD oa (by omega : 0 < B32) k
      have hd := Ahead.drew w1
      have lr : (digs B32 r).length ≤ (digs B32 y).length := len_mono two32 (Nat.le_of_lt hr)
      have l2 : (digs B32 (r * 2 ^ 32)).length ≤ (digs B32 y).length + 1 := len_lt_of two32 (by rw [hB32, Nat.pow_one]; omega)
      obtain ⟨R, hR⟩ : ∃ R, R = r * 2 ^ 32 + (digs B32 x).getD k 0 := ⟨_, rfl⟩
      have hRy : R < y * 4294967296 := by
        have : (r + 1) * 4294967296 ≤ y * 4294967296 := Nat.mul_le_mul_right _ hr
        omega
      have l3 : (digs B32 R).length ≤ (digs B32 y).length + 1 := len_lt_of two32 (by rw [Nat.pow_one]; exact hRy)
      have lx : (digs B32 ((digs B32 x).getD k 0)).length ≤ 1 := digs_length_le two32 (by rw [Nat.pow_one]; exact hx)
      have okx : ok B32 [(digs B32 x).getD k 0] := by intro z hz; rw [List.mem_singleton.1 hz]; exact hx
      have vxk : val B32 [(digs B32 x).getD k 0] = (digs B32 x).getD k 0 := by simp only [val]; omega
      -- behind the addition
      have key : ∀ (s4 : Slc) (w5 : World), Ahead w1 w5 → RN w5 s4 R → (∀ ad, s4.A = some ad → w.heap.size < ad.block) →
          Calls pr surdref01_Cmp_id #[s4.v, t1.v] w5 fun e4 w6 => ∃ x2 : Int, e4 = .returned (Value.int .i64 x2) ∧ (br (decide (x2 ≥ 0)) (DivJ2 w t0 t1 x y out (k : Int) t0 t1 s4 out (k : Int) 0 31 w6)
            (semA pr (Instr.indexAt 29 out.v (.int .i64 (k : Int))) w6 fun ad4 w13 => stC ad4 (Value.int .u64 0) w13 fun w14 =>
              DivJ0 w t0 t1 x y t0 t1 s4 out (IntKind.i64.wrap ((k : Int) - 1)) w14 ∧ (IntKind.i64.wrap ((k : Int) - 1) + 1).toNat < ((k : Int) + 1).toNat)) := by
        intro s4 w5 h5 r4 f4
        have h05 := h1.trans h5
        refine Calls.mono (Cmp_spec r4 (RN.ahead hq h05) (by omega) (by omega)) ?_
        rintro e w6 ⟨h6, rfl⟩
        have h06 := h05.trans h6
        have ho6 := ho.ahead (h5.trans h6)
        refine ⟨_, rfl, br_intro (fun hc => ?_) (fun hc => ?_)⟩
        · refine ⟨rfl, rfl, rfl, rfl, h06, l, k, r, 0, 32, R, rfl, by omega, ho6, hl, ol, hv, rfl, rfl, Nat.le_refl _, by rw [hR, hB32]; omega, hRy, by omega, r4.ahead h6, f4⟩
        · have hlt : R < y := by
            have := cmpI_neg (m := R) (n := y)
            have hc' := of_decide_eq_false hc
            exact this.1 (by omega)
          exact step (t1 := t1) (Q := 0) h06 (by omega) ho6 hl ol hv (by rw [hR, hB32]; omega) hlt (by omega) (r4.ahead h6) f4
      refine ldNf (RN.ahead (RN.ahead hp h1) hd) (by omega) (by omega) ?_
      rw [Int.toNat_natCast]
      refine ⟨?_, ?_⟩
      · refine Calls.mono (Shl_spec (RN.ahead hrest hd) (by omega) (by omega) (by simp; omega)) ?_
        rintro e w2 ⟨h2, s2, rfl, r2⟩
        replace r2 : RN w2 s2 (r * 2 ^ 32) := r2
        refine ⟨_, rfl, h2, Ahead.alloc _ _, ?_⟩
        refine Calls.mono (norm_spec (one_rd w2 _) (by simp) okx) ?_
        rw [vxk]
        rintro e w4 ⟨rfl, s3, rfl, r3⟩
        refine ⟨_, rfl, Ahead.refl _, ?_⟩
        refine Calls.mono (Add_specN (RN.ahead r2 (Ahead.alloc _ _)) r3 (by omega) (by omega)) ?_
        rw [← hR]
        rintro e w5 ⟨h5, s4, rfl, r4, f4⟩
        have h25 := ((hd.trans h2).trans (Ahead.alloc _ _)).trans h5
        refine ⟨_, rfl, h5, key s4 w5 h25 r4 fun ad e => ?_⟩
        have q1 := f4 ad e
        rw [size_alloc] at q1
        have := ho.lt
        have := (hd.trans h2).size
        omega
      · refine ⟨Ahead.alloc _ _, ?_⟩
        have ha := (hd.trans (Ahead.alloc w1.drew (.cells #[.int .u64 (((digs B32 x).getD k 0 : Nat) : Int)] tU64 (0, 0))))
        refine Calls.mono (Shl_spec (RN.ahead hrest ha) (by omega) (by omega) (by simp; omega)) ?_
        rintro e w2 ⟨h2, s2, rfl, r2⟩
        replace r2 : RN w2 s2 (r * 2 ^ 32) := r2
        refine ⟨_, rfl, h2, ?_⟩
        refine Calls.mono (norm_spec ((one_rd w1.drew _).ahead h2) (by simp) okx) ?_
        rw [vxk]
        rintro e w4 ⟨rfl, s3, rfl, r3⟩
        refine ⟨_, rfl, Ahead.refl _, ?_⟩
        refine Calls.mono (Add_specN r2 r3 (by omega) (by omega)) ?_
        rw [← hR]
        rintro e w5 ⟨h5, s4, rfl, r4, f4⟩
        refine ⟨_, rfl, h5, key s4 w5 ((ha.trans h2).trans h5) r4 fun ad e => ?_⟩
        have q1 := f4 ad e
        have := ho.lt
        have q2 := h2.size
        rw [size_alloc] at q2
        have := hd.size
        omega
    · have hj0 : j = 0 := by simp at hlt; omega
      subst hj0
      rw [List.drop_zero, List.drop_zero, vx] at hv
      have hq' : val B32 l = x / y := by rw [hv, Nat.add_comm, Nat.add_mul_div_right _ _ hy, Nat.div_eq_of_lt hr]; omega
      have hm' : r = x % y := by rw [hv, Nat.add_comm, Nat.add_mul_mod_self_right, Nat.mod_eq_of_lt hr]
      refine Calls.mono (norm_spec ho.rd (by omega) ol) ?_
      rw [hq']
      rintro e w3 ⟨rfl, s', rfl, hr'⟩
      rw [hm'] at hrest
      exact ⟨_, rfl, h1, _, _, rfl, hr', hrest⟩
  · rintro o0 o1 orest oout oi ow _ t0 t1 rest out i t9 t10 w1 ⟨rfl, rfl, rfl, rfl, h1, l, j, r, Q, S, r', rfl, hj, ho, hl, ol, hv, rfl, rfl, hS, hR, hr', hQ, hrest, hfr⟩
    refine br_intro (fun hge => ?_) (fun hlt => ?_)
    · have hS1 : 1 ≤ S := by simp at hge; omega
      obtain ⟨s, rfl⟩ : ∃ s, S = s + 1 := ⟨S - 1, by omega⟩
      have es : (((s + 1 : Nat) : Int) - 1) = (s : Int) := by omega
      rw [es]
      have hp2 : 2 ^ (s + 1) = 2 * 2 ^ s := by rw [Nat.pow_succ]; omega
      have hpos : 0 < 2 ^ s := Nat.pow_pos (by omega)
      have hle32 : 2 ^ s ≤ 2 ^ 31 := Nat.pow_le_pow_right (by omega) (by omega)
      have hys : y * 2 ^ s < y * B32 ^ 1 := by
        rw [Nat.pow_one]; exact Nat.mul_lt_mul_of_pos_left (by omega) hy
      have ly := len_lt_of two32 hys
      have lr : (digs B32 r').length ≤ (digs B32 y).length + 1 := len_lt_of two32 (by
        rw [Nat.pow_one]
        exact Nat.lt_of_lt_of_le hr' (Nat.mul_le_mul_left _ (by omega)))
      refine Calls.mono (Shl_spec (RN.ahead hq h1) (by omega) (by omega) (by
        have : ((s : Int)).toNat / 32 = 0 := by omega
        omega)) ?_
      rw [Int.toNat_natCast]
      rintro e w7 ⟨h7, s5, rfl, r5⟩
      have h07 := h1.trans h7
      refine ⟨_, rfl, Calls.mono (Cmp_spec (hrest.ahead h7) r5 (by omega) (by omega)) ?_⟩
      rintro e w8 ⟨h8, rfl⟩
      have h08 := h07.trans h8
      have h18 := h7.trans h8
      rw [wrap_i64 (by omega) (by omega)]
      have hcm := cmpI_neg (m := r') (n := y * 2 ^ s)
      refine ⟨_, rfl, br_intro (fun hc => ?_) (fun hc => ?_)⟩
      · have hle : y * 2 ^ s ≤ r' := by
          rcases Nat.lt_or_ge r' (y * 2 ^ s) with h | h
          · have := hcm.2 h; have hc' := of_decide_eq_true hc; omega
          · exact h
        refine Calls.mono (Sub_specN (hrest.ahead h18) (r5.ahead h8) hle (by omega)) ?_
        rintro e w9 ⟨h9, s6, rfl, r6, f6⟩
        refine ⟨_, rfl, semShl (x := 1) (by omega) ?_⟩
        rw [Nat.one_mul, Nat.mod_eq_of_lt (by omega), wrap_u64' (by omega) (by omega), show (Q : Int) + ((2 ^ s : Nat) : Int) = ((Q + 2 ^ s : Nat) : Int) by omega]
        refine ⟨⟨rfl, rfl, rfl, rfl, h08.trans h9, l, j, r, Q + 2 ^ s, s, _, rfl, hj, ho.ahead (h18.trans h9), hl, ol, hv, rfl, rfl, by omega, ?_, ?_, by omega, r6, fun ad e => ?_⟩, by omega⟩
        · rw [hR, Nat.add_mul, Nat.mul_comm y]; rw [Nat.mul_comm y] at hle; omega
        · rw [hp2] at hr'
          have : y * (2 * 2 ^ s) = y * 2 ^ s + y * 2 ^ s := by rw [← Nat.mul_add]; congr 1; omega
          omega
        · have := f6 ad e
          have := ho.lt
          have := h18.size
          omega
      · have hlt' : r' < y * 2 ^ s := by
          have hc' := of_decide_eq_false hc
          exact hcm.1 (by omega)
        exact ⟨⟨rfl, rfl, rfl, rfl, h08, l, j, r, Q, s, _, rfl, hj, ho.ahead h18, hl, ol, hv, rfl, rfl, by omega, hR, hlt', by omega, hrest.ahead h18, hfr⟩, by omega⟩
    · have hS0 : S = 0 := by simp at hlt; omega
      subst hS0
      rw [Nat.pow_zero, Nat.mul_one] at hr'
      exact step (t1 := t1) h1 hj ho hl ol hv hR hr' (by rw [hB32]; omega) hrest hfr

end Ref
end Go.Proofs.Ytflipimlpgbnmaa
namespace Go.Proofs.Ytflipimlpgbnmaa
open Go Go.RowKit Eng
set_option linter.unusedVariables false

def surdref06_Print_cut (J0 : Addr → ByteArray → Slc → Slc → World → Prop) (m0 : Addr → ByteArray → Slc → Slc → World → Nat) (J2 : Addr → ByteArray → Slc → Slc → World → Addr → ByteArray → Slc → Slc → Int → ByteArray → Int → World → Prop) (m2 : Addr → ByteArray → Slc → Slc → World → Addr → ByteArray → Slc → Slc → Int → ByteArray → Int → World → Nat) : Nat → Option ((Act → World → Prop) × (Act → World → Nat))
  | 0 => some (fun a_ w_ => atSz a_ 66 (atA a_ 1 fun t1 => atN a_ 3 fun t3 => atS a_ 4 fun t4 => atS a_ 5 fun t5 => J0 t1 t3 t4 t5 w_), fun a_ w_ => mA a_ 1 fun t1 => mN a_ 3 fun t3 => mS a_ 4 fun t4 => mS a_ 5 fun t5 => m0 t1 t3 t4 t5 w_)
  | _ => none

def surdref06_Print_cut_0 (J0 : Addr → ByteArray → Slc → Slc → World → Prop) (m0 : Addr → ByteArray → Slc → Slc → World → Nat) (J2 : Addr → ByteArray → Slc → Slc → World → Addr → ByteArray → Slc → Slc → Int → ByteArray → Int → World → Prop) (m2 : Addr → ByteArray → Slc → Slc → World → Addr → ByteArray → Slc → Slc → Int → ByteArray → Int → World → Nat) (o_t1 : Addr) (o_t3 : ByteArray) (o_t4 : Slc) (o_t5 : Slc) (o_w_ : World) : Nat → Option ((Act → World → Prop) × (Act → World → Nat))
  | 2 => some (fun a_ w_ => atSz a_ 66 (atA a_ 1 fun t1 => atN a_ 3 fun t3 => atS a_ 4 fun t4 => atS a_ 6 fun t6 => atI .i64 a_ 8 fun t8 => atN a_ 9 fun t9 => atI .i64 a_ 10 fun t10 => J2 o_t1 o_t3 o_t4 o_t5 o_w_ t1 t3 t4 t6 t8 t9 t10 w_), fun a_ w_ => mA a_ 1 fun t1 => mN a_ 3 fun t3 => mS a_ 4 fun t4 => mS a_ 6 fun t6 => mI a_ 8 fun t8 => mN a_ 9 fun t9 => mI a_ 10 fun t10 => m2 o_t1 o_t3 o_t4 o_t5 o_w_ t1 t3 t4 t6 t8 t9 t10 w_)
  | _ => none

set_option maxRecDepth 100000 in
/-- surd/surdref06.Print: function 46. -/
theorem surdref06_Print_vc (a0_0 : Bool) (a0_1 : Slc) (w : World) (R : Ending → World → Prop)
    (J0 : Addr → ByteArray → Slc → Slc → World → Prop) (m0 : Addr → ByteArray → Slc → Slc → World → Nat) (J2 : Addr → ByteArray → Slc → Slc → World → Addr → ByteArray → Slc → Slc → Int → ByteArray → Int → World → Prop) (m2 : Addr → ByteArray → Slc → Slc → World → Addr → ByteArray → Slc → Slc → Int → ByteArray → Int → World → Nat)
    (h : newC w #[Value.bool a0_0, a0_1.v] 86 fun ad1 w1 =>
    ldS (ad1.add 1) w1 fun s1 =>
    Calls Try.prog 29 #[s1.v] w1 fun e1 w2 =>
    ∃ b1 : Bool, e1 = .returned (Value.bool b1) ∧
    (br b1
     (R (.returned (Value.string (⟨#[48]⟩ : ByteArray))) w2)
     (newC w2 #[Value.int .u64 1000000000] 49 fun ad2 w3 =>
      Calls Try.prog 18 #[(⟨some ad2, 1, 1⟩ : Slc).v] w3 fun e2 w4 =>
      ∃ s2 : Slc, e2 = .returned s2.v ∧
      (ldS (ad1.add 1) w4 fun s3 =>
       J0 ad1 (⟨#[]⟩ : ByteArray) s2 s3 w4))))
    (h0 : ∀ (t1 : Addr) (t3 : ByteArray) (t4 : Slc) (t5 : Slc) (w_ : World), J0 t1 t3 t4 t5 w_ → 
    Calls Try.prog 29 #[t5.v] w_ fun e3 w5 =>
    ∃ b2 : Bool, e3 = .returned (Value.bool b2) ∧
    (br (!b2)
     (Calls Try.prog 62 #[t5.v, t4.v] w5 fun e4 w6 =>
      ∃ s4 : Slc, ∃ s5 : Slc, e4 = .returned (Value.tuple #[s4.v, s5.v]) ∧
      (Calls Try.prog 29 #[s5.v] w6 fun e5 w7 =>
       ∃ b3 : Bool, e5 = .returned (Value.bool b3) ∧
       (br (!b3)
        (semA Try.prog (Instr.indexAt 29 s5.v (Value.int .i64 0)) w7 fun ad3 w8 =>
         ldI .u64 ad3 w8 fun x1 =>
         J2 t1 t3 t4 t5 w_ t1 t3 t4 s4 (IntKind.i64.wrap x1) (⟨#[]⟩ : ByteArray) 0 w8)
        (J2 t1 t3 t4 t5 w_ t1 t3 t4 s4 0 (⟨#[]⟩ : ByteArray) 0 w7))))
     (ldB t1 w5 fun b5 =>
      br b5
      (semN Try.prog (binOp .add 9 (Value.string (⟨#[45]⟩ : ByteArray)) (Value.string t3)) w5 fun n7 w16 =>
       R (.returned (Value.string n7)) w16)
      (R (.returned (Value.string t3)) w5))))
    (h2 : ∀ (t1 : Addr) (t3 : ByteArray) (t4 : Slc) (t5 : Slc) (w_ : World), J0 t1 t3 t4 t5 w_ → ∀ (t1' : Addr) (t3' : ByteArray) (t4' : Slc) (t6' : Slc) (t8' : Int) (t9' : ByteArray) (t10' : Int) (w__ : World), J2 t1 t3 t4 t5 w_ t1' t3' t4' t6' t8' t9' t10' w__ → 
    br (decide (t10' < 9))
    (br (decide (t8' > 0))
     (semN Try.prog (Instr.sliceAt 9 (Value.string (⟨#[48, 49, 50, 51, 52, 53, 54, 55, 56, 57]⟩ : ByteArray)) (some (Value.int .i64 (Int.tmod t8' 10))) (some (Value.int .i64 (IntKind.i64.wrap ((Int.tmod t8' 10) + 1)))) none) w__ fun n1 w9 =>
      semN Try.prog (binOp .add 9 (Value.string n1) (Value.string t9')) w9 fun n2 w10 =>
      J2 t1 t3 t4 t5 w_ t1' t3' t4' t6' (IntKind.i64.wrap (Int.tdiv t8' 10)) n2 (IntKind.i64.wrap (t10' + 1)) w10 ∧
      m2 t1 t3 t4 t5 w_ t1' t3' t4' t6' (IntKind.i64.wrap (Int.tdiv t8' 10)) n2 (IntKind.i64.wrap (t10' + 1)) w10 < m2 t1 t3 t4 t5 w_ t1' t3' t4' t6' t8' t9' t10' w__)
     (Calls Try.prog 29 #[t6'.v] w__ fun e6 w11 =>
      ∃ b4 : Bool, e6 = .returned (Value.bool b4) ∧
      (br (!b4)
       (semN Try.prog (Instr.sliceAt 9 (Value.string (⟨#[48, 49, 50, 51, 52, 53, 54, 55, 56, 57]⟩ : ByteArray)) (some (Value.int .i64 (Int.tmod t8' 10))) (some (Value.int .i64 (IntKind.i64.wrap ((Int.tmod t8' 10) + 1)))) none) w11 fun n3 w12 =>
        semN Try.prog (binOp .add 9 (Value.string n3) (Value.string t9')) w12 fun n4 w13 =>
        J2 t1 t3 t4 t5 w_ t1' t3' t4' t6' (IntKind.i64.wrap (Int.tdiv t8' 10)) n4 (IntKind.i64.wrap (t10' + 1)) w13 ∧
        m2 t1 t3 t4 t5 w_ t1' t3' t4' t6' (IntKind.i64.wrap (Int.tdiv t8' 10)) n4 (IntKind.i64.wrap (t10' + 1)) w13 < m2 t1 t3 t4 t5 w_ t1' t3' t4' t6' t8' t9' t10' w__)
       (semN Try.prog (binOp .add 9 (Value.string t9') (Value.string t3')) w11 fun n5 w14 =>
        J0 t1' n5 t4' t6' w14 ∧
        m0 t1' n5 t4' t6' w14 < m0 t1 t3 t4 t5 w_))))
    (semN Try.prog (binOp .add 9 (Value.string t9') (Value.string t3')) w__ fun n6 w15 =>
     J0 t1' n6 t4' t6' w15 ∧
     m0 t1' n6 t4' t6' w15 < m0 t1 t3 t4 t5 w_)) :
    Calls Try.prog 46 #[Value.agg #[Value.bool a0_0, a0_1.v]] w R := by
  refine calls_of_vc (surdref06_Print_cut J0 m0 J2 m2) (by kernel_rfl) Try.func46 rfl ?_ ?_
  · refine kcast h ?_; kernel_rfl
  · exact (obl_seq rfl (obl_reg (obl_seq rfl (obl_seq rfl (obl_reg (obl_cond (obl_seq rfl (obl_reg (obl_ret (obl_skip (obl_seq rfl (obl_reg (obl_seq rfl (obl_reg (obl_seq rfl (obl_reg (obl_seq rfl (obl_loop _ rfl (fun a_ w_ hL_ => (by
    obtain ⟨hz_, hd_, hL_⟩ := atSz_out hL_
    obtain ⟨t1, h1_, hL_⟩ := atA_out hL_
    obtain ⟨t3, h3_, hL_⟩ := atN_out hL_
    obtain ⟨t4, h4_, hL_⟩ := atS_out hL_
    obtain ⟨t5, h5_, hL_⟩ := atS_out hL_
    obtain ⟨g0, rfl⟩ : ∃ g, a_ = Fr 66 [(1, Value.pointer (some t1)), (3, Value.string t3), (4, t4.v), (5, t5.v)] g := ⟨_, fr_of hz_ hd_ [(1, Value.pointer (some t1)), (3, Value.string t3), (4, t4.v), (5, t5.v)] (sel_cons h1_ (sel_cons h3_ (sel_cons h4_ (sel_cons h5_ sel_nil))))⟩
    clear hz_ hd_ h1_ h3_ h4_ h5_
    have hJ0_ := hL_
    refine ⟨(surdref06_Print_cut_0 J0 m0 J2 m2 t1 t3 t4 t5 w_), kcast (h0 t1 t3 t4 t5 w_ hJ0_) ?_, ?_⟩
    · kernel_rfl
    · exact (obl_seq rfl (obl_seq rfl (obl_reg (obl_cond (obl_skip (obl_exit (obl_blk rfl (obl_seq rfl (obl_reg (obl_seq rfl (obl_reg (obl_seq rfl (obl_seq rfl (obl_reg (obl_cond (obl_reg (obl_skip (obl_seq rfl (obl_reg (obl_seq rfl (obl_seq rfl (obl_reg (obl_loop _ rfl (fun a_ w__ hL_ => (by
      obtain ⟨hz_, hd_, hL_⟩ := atSz_out hL_
      obtain ⟨t1', h1_, hL_⟩ := atA_out hL_
      obtain ⟨t3', h3_, hL_⟩ := atN_out hL_
      obtain ⟨t4', h4_, hL_⟩ := atS_out hL_
      obtain ⟨t6', h6_, hL_⟩ := atS_out hL_
      obtain ⟨t8', h8_, hL_⟩ := atI_out hL_
      obtain ⟨t9', h9_, hL_⟩ := atN_out hL_
      obtain ⟨t10', h10_, hL_⟩ := atI_out hL_
      obtain ⟨g2, rfl⟩ : ∃ g, a_ = Fr 66 [(1, Value.pointer (some t1')), (3, Value.string t3'), (4, t4'.v), (6, t6'.v), (8, Value.int .i64 t8'), (9, Value.string t9'), (10, Value.int .i64 t10')] g := ⟨_, fr_of hz_ hd_ [(1, Value.pointer (some t1')), (3, Value.string t3'), (4, t4'.v), (6, t6'.v), (8, Value.int .i64 t8'), (9, Value.string t9'), (10, Value.int .i64 t10')] (sel_cons h1_ (sel_cons h3_ (sel_cons h4_ (sel_cons h6_ (sel_cons h8_ (sel_cons h9_ (sel_cons h10_ sel_nil)))))))⟩
      clear hz_ hd_ h1_ h3_ h4_ h6_ h8_ h9_ h10_
      have hJ2_ := hL_
      refine ⟨(fun _ => none), kcast (h2 t1 t3 t4 t5 w_ hJ0_ t1' t3' t4' t6' t8' t9' t10' w__ hJ2_) ?_, ?_⟩
      · kernel_rfl
      · exact (obl_seq rfl (obl_seq rfl (obl_reg (obl_cond (obl_skip (obl_exit (obl_seq rfl (obl_blk rfl (obl_seq rfl (obl_reg (obl_reg (obl_reg trivial)))))))))))))) (obl_seq rfl (obl_reg (obl_reg trivial)))))))))))))))))))))))))))) (obl_seq rfl (obl_seq rfl (obl_reg (obl_cond (obl_seq rfl (obl_reg (obl_ret (obl_skip (obl_seq rfl (obl_reg (obl_ret trivial)))))))))))))))))))))))))))))

end Go.Proofs.Ytflipimlpgbnmaa
namespace Go.Proofs.Ytflipimlpgbnmaa
open Go Go.RowKit Eng Sp Dg
set_option linter.unusedVariables false
set_option linter.unusedSimpArgs false
set_option maxRecDepth 100000
namespace Bd
open _root_.Go.Proofs.Ytflipimlpgbnmaa.Nat (Yes num_spec end_awake Num Num.ahead OwnNil OwnNil.rd OwnNil.ahead OwnNil.mono OwnNil.nil Ret digs_len_bl ldN num_of own_num Num.bl Attempts_spec alike_spec OwnI.rd OwnI.ahead tw_length atts_le)
open _root_.Go.Proofs.Ytflipimlpgbnmaa.Ref (RN RN.ahead RN.nil Is_spec Of_spec zero_spec rDiv_spec)
open Sb

theorem bs_append (a b : ByteArray) : bs (a ++ b) = bs a ++ bs b := by simp [bs]
theorem dl_append (a b : ByteArray) : dl (a ++ b) = dl a ++ dl b := by simp [dl, bs_append]
/-- Texts joined. -/
theorem add_str {P : Program} {t : TypeId} (hT : P.underlying t = some .string) {w : World} {a b : ByteArray} (h : a.size + b.size ≤ 9223372036854775807) {K : ByteArray → World → Prop} (hk : K (a ++ b) w) :
    semN P (binOp .add t (.string a) (.string b)) w fun x w' => K x w' := by
  have hr : (binOp .add t (.string a) (.string b)).run P w = .ok (.string (a ++ b)) w := by
    have h1 : ¬ ((a.size + b.size : Nat) : Int) > IntKind.i64.max := by
      have : IntKind.i64.max = 9223372036854775807 := by decide
      rw [this]; omega
    have h2 : ¬ IntKind.i64.max < (a.size : Int) + (b.size : Int) := by
      have : IntKind.i64.max = 9223372036854775807 := by decide
      rw [this]; omega
    simp [binOp, Op.stringOp, run_underlying hT, Result.andThen, h1, h2]
    omega
  unfold semN
  rw [Sem.wp_iff_run, hr]
  exact ⟨_, rfl, hk⟩
theorem size_one (d : Nat) : (⟨#[UInt8.ofNat (48 + d)]⟩ : ByteArray).size = 1 := rfl
theorem dl_one {d : Nat} (h : d < 10) : dl ⟨#[UInt8.ofNat (48 + d)]⟩ = [d] := by
  have e : (UInt8.ofNat (48 + d)).toNat = 48 + d := by simp; omega
  simp only [dl, bs, List.map_cons, List.map_nil, e]
  rw [dg, if_pos (by omega)]; congr 1; omega
/-- One letter of the ten. -/
theorem run_digit (w : World) : ∀ d : Nat, d < 10 → (Instr.sliceAt 9 (Value.string (⟨#[48, 49, 50, 51, 52, 53, 54, 55, 56, 57]⟩ : ByteArray)) (some (Value.int .i64 (d : Int))) (some (Value.int .i64 ((d + 1 : Nat) : Int))) none).run pr w = .ok (.string ⟨#[UInt8.ofNat (48 + d)]⟩) w
  | 0, _ => by kernel_rfl
  | 1, _ => by kernel_rfl
  | 2, _ => by kernel_rfl
  | 3, _ => by kernel_rfl
  | 4, _ => by kernel_rfl
  | 5, _ => by kernel_rfl
  | 6, _ => by kernel_rfl
  | 7, _ => by kernel_rfl
  | 8, _ => by kernel_rfl
  | 9, _ => by kernel_rfl
  | n + 10, h => by omega
theorem digit {w : World} {d : Nat} (h : d < 10) {K : ByteArray → World → Prop} (hk : K ⟨#[UInt8.ofNat (48 + d)]⟩ w) :
    semN pr (Instr.sliceAt 9 (Value.string (⟨#[48, 49, 50, 51, 52, 53, 54, 55, 56, 57]⟩ : ByteArray)) (some (Value.int .i64 (d : Int))) (some (Value.int .i64 ((d + 1 : Nat) : Int))) none) w fun x w' => K x w' := by
  unfold semN
  rw [Sem.wp_iff_run, run_digit w d h]
  exact ⟨_, rfl, hk⟩

/-- The number that a slice reads as. -/
noncomputable def rv (w : World) (s : Slc) : Nat := by
  classical
  exact if h : ∃ m, RN w s m then Classical.choose h else 0
theorem rd_inj {k : IntKind} {w : World} {s : Slc} {l m : List Int} (h1 : Rd k w s l) (h2 : Rd k w s m) : l = m := by
  have hl : l.length = m.length := by rw [← h1.n, h2.n]
  refine List.ext_getElem hl fun i q1 q2 => ?_
  obtain ⟨a, e1, c1⟩ := h1.get i q1
  obtain ⟨b, e2, c2⟩ := h2.get i q2
  rw [e1] at e2
  obtain rfl := Option.some.inj e2
  rw [c1] at c2
  injection c2 with c2
  injection c2 with _ c2
  rw [getD_lt _ _ q1, getD_lt _ _ q2] at c2
  exact c2
theorem rv_eq {w : World} {s : Slc} {m : Nat} (h : RN w s m) : rv w s = m := by
  have hx : ∃ m, RN w s m := ⟨m, h⟩
  unfold rv
  rw [dif_pos hx]
  exact digs_inj two32 (nn_inj (rd_inj (Classical.choose_spec hx) h))

theorem pow10_lt {k n : Nat} (h : 10 ^ k ≤ n) : k < bl n := by
  have h1 : 2 ^ k ≤ 10 ^ k := Nat.pow_le_pow_left (by omega) k
  have h2 := lt_bl n
  exact (Nat.pow_lt_pow_iff_right (by omega : 1 < 2)).1 (by omega)

def PrJ (w : World) (n : Nat) (b0 : Nat) (s0 : Slc) (t1 : Addr) (t3 : ByteArray) (t4 t5 : Slc) (w' : World) : Prop :=
  t1 = ⟨b0, 0, none⟩ ∧ Ahead w w' ∧ Blk w' b0 #[Value.bool false, s0.v] ∧ RN w' t4 1000000000 ∧ 0 < n ∧ ∃ m : Nat, RN w' t5 m ∧ m ≤ n ∧ n = m * 10 ^ (dl t3).length + hv 10 (dl t3) ∧ ok 10 (dl t3)
def PrK (w : World) (n : Nat) (b0 : Nat) (s0 : Slc) (t1 : Addr) (t3 : ByteArray) (t4 t5 : Slc) (w0 : World) (t1' : Addr) (t3' : ByteArray) (t4' t6 : Slc) (t8 : Int) (t9 : ByteArray) (t10 : Int) (w' : World) : Prop :=
  t1' = ⟨b0, 0, none⟩ ∧ t3' = t3 ∧ Ahead w w' ∧ Blk w' b0 #[Value.bool false, s0.v] ∧ RN w' t4' 1000000000 ∧ ∃ m v i : Nat, rv w0 t5 = m ∧ 0 < m ∧ m ≤ n ∧ n = m * 10 ^ (dl t3).length + hv 10 (dl t3) ∧ ok 10 (dl t3) ∧
    RN w' t6 (m / 1000000000) ∧ t8 = (v : Int) ∧ t10 = (i : Int) ∧ i ≤ 9 ∧ (dl t9).length = i ∧ ok 10 (dl t9) ∧ m % 1000000000 = v * 10 ^ i + hv 10 (dl t9)

theorem Print_spec {w : World} {s : Slc} {n : Nat} (hs : RN w s n) (hl : (digs B32 n).length ≤ 2 ^ 45) (hb : bl n ≤ 2 ^ 51) :
    Calls pr surdref06_Print_id #[.agg #[.bool false, s.v]] w fun e w' => Ahead w w' ∧ ∃ t : ByteArray, e = .returned (.string t) ∧ GoodT 10 t ∧ hv 10 (dl t) = n := by
  have hB := B64v
  have hB32 := B32v
  refine surdref06_Print_vc false s w _ (PrJ w n w.heap.size s) (fun _ _ _ t5 w' => rv w' t5) (PrK w n w.heap.size s) (fun _ _ _ _ _ _ _ _ _ _ _ t10 _ => (9 - t10).toNat) (newC_b fun b w1 hb1 h1 hs1 B1 => ?_) ?_ ?_
  · subst hb1
    refine ldS_b 1 B1 rfl (Calls.mono (zero_spec (hs.ahead h1)) ?_)
    rintro e w2 ⟨rfl, rfl⟩
    refine ⟨_, rfl, br_intro (fun h0 => ?_) (fun h0 => ?_)⟩
    · have hn := of_decide_eq_true h0
      subst hn
      have e1 : dl ⟨#[48]⟩ = [0] := by kernel_rfl
      exact ⟨h1, _, rfl, ⟨by show 0 < 1; omega, by rw [e1]; intro y hy; simp at hy; omega⟩, by rw [e1]; rfl⟩
    · have hn := of_decide_eq_false h0
      have hal := Ahead.alloc w2 (.cells #[Value.int .u64 ((1000000000 : Nat) : Int)] tU64 (0, 0))
      have hlit : Rd .u64 (w2.alloc (.cells #[Value.int .u64 ((1000000000 : Nat) : Int)] tU64 (0, 0))) ⟨some ⟨w2.heap.size, 0, none⟩, 1, 1⟩ (nn [1000000000]) := Owr.rd (t := tU64) (b := w2.heap.size) ⟨rfl, [], rfl, by rw [get_alloc]; rfl⟩
      refine Calls.mono (Of_spec hlit (by simp) (by intro y hy; simp at hy; omega)) ?_
      rintro e w3 ⟨h3, u, rfl, ru⟩
      have h13 := hal.trans h3
      have ru' : RN w3 u 1000000000 := by simpa [val] using ru
      refine ⟨_, rfl, ldS_b 1 (B1.ahead h13) rfl ⟨rfl, h1.trans h13, B1.ahead h13, ru', by omega, n, (hs.ahead h1).ahead h13, Nat.le_refl _, ?_, ?_⟩⟩
      · show n = n * 10 ^ (dl ⟨#[]⟩).length + hv 10 (dl ⟨#[]⟩)
        have e1 : dl ⟨#[]⟩ = [] := rfl
        rw [e1]; simp [hv_nil]
      · have e1 : dl ⟨#[]⟩ = [] := rfl
        rw [e1]; exact ok_nil
  · rintro t1 t3 t4 t5 w1 ⟨rfl, h1, B1, r4, hn0, m, r5, hmn, hnm, hok⟩
    have lm : (digs B32 m).length ≤ 2 ^ 45 := Nat.le_trans (Ref.len_mono two32 hmn) hl
    refine Calls.mono (zero_spec r5) ?_
    rintro e w5 ⟨rfl, rfl⟩
    refine ⟨_, rfl, br_intro (fun h0 => ?_) (fun h0 => ?_)⟩
    · have hm : m ≠ 0 := by
        intro h; subst h; simp at h0
      have l9 := len32_bl (N := 1000000000) (m := 1) (bl_le (by omega))
      refine Calls.mono (rDiv_spec r5 r4 (by omega) lm (by omega)) ?_
      rintro e w6 ⟨h6, q, r, rfl, rq, rr⟩
      have h06 := h1.trans h6
      have hmod : m % 1000000000 < 1000000000 := Nat.mod_lt _ (by omega)
      refine ⟨_, _, rfl, Calls.mono (zero_spec rr) ?_⟩
      rintro e w7 ⟨rfl, rfl⟩
      have e1 : dl ⟨#[]⟩ = [] := rfl
      have hrv := rv_eq r5
      refine ⟨_, rfl, br_intro (fun hz => ?_) (fun hz => ?_)⟩
      · have hz' : m % 1000000000 ≠ 0 := by intro h; rw [h] at hz; simp at hz
        have hd : digs B32 (m % 1000000000) = [m % 1000000000] := by
          rw [digs_pos two32 hz', Nat.mod_eq_of_lt (by omega), Nat.div_eq_of_lt (by omega), digs_zero]
        have rr2 : Rd .u64 w7 r (nn [m % 1000000000]) := by have h := rr; unfold RN at h; rwa [hd] at h
        refine ldN rr2 (by omega) (by simp) ?_
        have e0 : [m % 1000000000].getD (0 : Int).toNat 0 = m % 1000000000 := rfl
        rw [e0, wrap_i64 (by omega) (by omega)]
        exact ⟨rfl, rfl, h06, B1.ahead h6, r4.ahead h6, m, _, 0, hrv, by omega, hmn, hnm, hok, rq, rfl, rfl, by omega, by rw [e1]; rfl, by rw [e1]; exact ok_nil, by rw [e1]; simp [hv_nil]⟩
      · have hz' : m % 1000000000 = 0 := by simpa using hz
        exact ⟨rfl, rfl, h06, B1.ahead h6, r4.ahead h6, m, 0, 0, hrv, by omega, hmn, hnm, hok, rq, rfl, rfl, by omega, by rw [e1]; rfl, by rw [e1]; exact ok_nil, by rw [e1, hz']; simp [hv_nil]⟩
    · have hm : m = 0 := by simpa using h0
      subst hm
      refine ldB_b 0 B1 rfl (br_false rfl ⟨h1, _, rfl, ⟨?_, hok⟩, by omega⟩)
      rcases Nat.eq_zero_or_pos t3.size with hz | hz
      · have hd : dl t3 = [] := List.length_eq_zero_iff.1 (by rw [dl_length]; exact hz)
        rw [hd] at hnm; simp [hv_nil] at hnm; omega
      · exact hz
  · rintro t1 t3 t4 t5 w1 hJ t1' t3' t4' t6 t8 t9 t10 w2 ⟨rfl, rfl, h2, B2, r4, m, v, i, hrv, hm0, hmn, hnm, hok, r6, rfl, rfl, hi, hlen, hok9, hmod⟩
    have hsz : (dl t3').length < bl n := pow10_lt (Nat.le_trans (Nat.le_mul_of_pos_left _ hm0) (by omega))
    have hs3 := dl_length t3'
    have hs9 := dl_length t9
    have lq : (digs B32 (m / 1000000000)).length ≤ 2 ^ 45 := Nat.le_trans (Ref.len_mono two32 (Nat.le_trans (Nat.div_le_self _ _) hmn)) hl
    have hmlt : m % 1000000000 < 1000000000 := Nat.mod_lt _ (by omega)
    have hv1 : v * 10 ^ i ≤ m % 1000000000 := by omega
    have hv2 : v ≤ m % 1000000000 := Nat.le_trans (Nat.le_mul_of_pos_right v (Nat.pow_pos (by omega))) hv1
    -- one more digit
    have more : i < 9 → semN pr (Instr.sliceAt 9 (Value.string (⟨#[48, 49, 50, 51, 52, 53, 54, 55, 56, 57]⟩ : ByteArray)) (some (Value.int .i64 (Int.tmod (v : Int) 10))) (some (Value.int .i64 (IntKind.i64.wrap ((Int.tmod (v : Int) 10) + 1)))) none) w2 fun n1 w9 =>
        semN pr (binOp .add 9 (Value.string n1) (Value.string t9)) w9 fun n2 w10 =>
        PrK w n w.heap.size s t1 t3' t4 t5 w1 ⟨w.heap.size, 0, none⟩ t3' t4' t6 (IntKind.i64.wrap (Int.tdiv (v : Int) 10)) n2 (IntKind.i64.wrap ((i : Int) + 1)) w10 ∧ (9 - IntKind.i64.wrap ((i : Int) + 1)).toNat < (9 - (i : Int)).toNat := by
      intro hi9
      have e1 : Int.tmod (v : Int) 10 = ((v % 10 : Nat) : Int) := by rw [Int.tmod_eq_emod_of_nonneg (by omega)]; omega
      have e2 : Int.tdiv (v : Int) 10 = ((v / 10 : Nat) : Int) := by rw [Int.tdiv_eq_ediv_of_nonneg (by omega)]; omega
      rw [e1, e2, wrap_i64 (x := ((v % 10 : Nat) : Int) + 1) (by omega) (by omega), wrap_i64 (x := ((v / 10 : Nat) : Int)) (by omega) (by omega), wrap_i64 (x := (i : Int) + 1) (by omega) (by omega), show ((v % 10 : Nat) : Int) + 1 = ((v % 10 + 1 : Nat) : Int) by omega]
      have hd : v % 10 < 10 := Nat.mod_lt _ (by omega)
      refine digit hd (add_str (by kernel_rfl) (by rw [size_one]; omega) ?_)
      refine ⟨⟨rfl, rfl, h2, B2, r4, m, v / 10, i + 1, hrv, hm0, hmn, hnm, hok, r6, rfl, by omega, by omega, ?_, ?_, ?_⟩, by omega⟩
      · rw [dl_append, dl_one hd]; simp; exact hlen
      · rw [dl_append, dl_one hd, ok_append]
        exact ⟨fun y hy => by rw [List.mem_singleton.1 hy]; exact hd, hok9⟩
      · rw [dl_append, dl_one hd, hv_append, hv_one, hlen, hmod]
        have : v = v / 10 * 10 + v % 10 := by omega
        have h3 : v * 10 ^ i = v / 10 * (10 ^ i * 10) + v % 10 * 10 ^ i := by
          conv => lhs; rw [this]
          rw [Nat.add_mul, Nat.mul_assoc, Nat.mul_comm 10 (10 ^ i)]
        rw [Nat.pow_succ]; omega
    -- the part is told
    have done : (i = 9 ∨ (v = 0 ∧ m / 1000000000 = 0)) → semN pr (binOp .add 9 (Value.string t9) (Value.string t3')) w2 fun n5 w14 =>
        PrJ w n w.heap.size s ⟨w.heap.size, 0, none⟩ n5 t4' t6 w14 ∧ rv w14 t6 < rv w1 t5 := by
      intro hcase
      refine add_str (by kernel_rfl) (by omega) ?_
      have hq : m / 1000000000 < m := Nat.div_lt_self hm0 (by omega)
      refine ⟨⟨rfl, h2, B2, r4, by omega, m / 1000000000, r6, by omega, ?_, by rw [dl_append, ok_append]; exact ⟨hok9, hok⟩⟩, by rw [rv_eq r6, hrv]; exact hq⟩
      have hv0 : v = 0 := by
        rcases hcase with h | h
        · subst h
          rcases Nat.eq_zero_or_pos v with h | h
          · exact h
          · have := Nat.le_mul_of_pos_left (10 ^ 9) h
            omega
        · exact h.1
      rw [dl_append, hv_append, List.length_append, hlen]
      have hmm : m = m / 1000000000 * 10 ^ i + hv 10 (dl t9) := by
        rw [hv0, Nat.zero_mul, Nat.zero_add] at hmod
        rcases hcase with h | h
        · subst h; omega
        · rw [h.2, Nat.zero_mul, Nat.zero_add]; omega
      rw [hnm]
      conv => lhs; rw [hmm]
      rw [Nat.add_mul, Nat.pow_add, Nat.mul_assoc]
      omega
    refine br_intro (fun q1 => br_intro (fun q2 => more (by have := of_decide_eq_true q1; omega)) (fun q2 => Calls.mono (zero_spec r6) ?_)) (fun q1 => done (.inl (by have := of_decide_eq_false q1; omega)))
    rintro e w11 ⟨rfl, rfl⟩
    refine ⟨_, rfl, br_intro (fun q3 => more (by have := of_decide_eq_true q1; omega)) (fun q3 => done (.inr ⟨by have := of_decide_eq_false q2; omega, by simpa using q3⟩))⟩
theorem FuelTexts_ok {w : World} {s0 : Slc} {l0 : List Nat} (h0 : Rd .u64 w s0 (nn l0)) (o0 : ok B64 l0) (y0 : l0.length * 8 ≤ 140737488351232) : Calls pr surdlaw18_FuelTexts_id #[s0.v] w (Yes w) := by
  have nf : Num w s0 (val B64 l0) := num_of h0 o0 y0
  refine surdlaw18_FuelTexts_vc s0 w _ (Calls.mono (Of_spec h0 y0 o0) ?_)
  rintro e w1 ⟨h1, n, rfl, rn⟩
  have hbl := Num.bl nf
  refine ⟨_, rfl, Calls.mono (Print_spec rn (len32_bl (m := 2 ^ 45) (by omega)) (by omega)) ?_⟩
  rintro e w2 ⟨h2, t, rfl, hg, hv⟩
  have h02 := h1.trans h2
  refine ⟨_, rfl, br_intro (fun hl => end_awake h02) (fun hl => ?_)⟩
  have hsz : t.size ≤ 1048576 := by have := of_decide_eq_false hl; omega
  have hc : fpC t = 0 := by rw [fpC, if_neg (by omega), goodC, if_pos hg]
  refine Calls.mono fParse_spec ?_
  rw [hc, hv]
  rintro e w3 ⟨h3, g, rfl, og⟩
  rw [if_pos rfl] at og
  have b1 := bl_hv (B := 10) (by omega) hg.2
  rw [dl_length, hv] at b1
  have l1 := digs_len_bl (N := val B64 l0) (m := 2 ^ 20) (by omega)
  refine ⟨_, _, rfl, Calls.mono num_spec ?_⟩
  rintro e w4 ⟨rfl, rfl⟩
  refine ⟨_, rfl, br_true rfl (Calls.mono (Is_spec ((rn.ahead h2).ahead h3) og.rd (by omega)) ?_)⟩
  rintro e w6 ⟨h6, rfl⟩
  refine ⟨_, rfl, br_true rfl ?_⟩
  have ng : Num w6 g (val B64 l0) := own_num (og.ahead h6) (by omega)
  have h06 := (h02.trans h3).trans h6
  refine Calls.mono (Attempts_spec ng) ?_
  rintro e w7 ⟨h7, a, rfl, oa⟩
  refine ⟨_, rfl, Calls.mono (Attempts_spec ((nf.ahead h06).ahead h7)) ?_⟩
  rintro e w8 ⟨h8, b, rfl, ob⟩
  have hat := atts_le (val B64 l0)
  refine ⟨_, rfl, Calls.mono (alike_spec (oa.ahead h8).rd ob.rd (by rw [tw_length]; omega)) ?_⟩
  rintro e w9 ⟨h9, rfl⟩
  exact ⟨_, rfl, br_true rfl (end_awake (((h06.trans h7).trans h8).trans h9))⟩
end Bd
end Go.Proofs.Ytflipimlpgbnmaa
