/- The document's Div: the quotient and the rest. No condition but a divisor above 0. -/
import Derived.Test.YthhbjhdnaopcnaaDoorLaw1
import Derived.Test.YthhbjhdnaopcnaaDoorRef3
import Derived.Test.YthhbjhdnaopcnaaDoorMul1
import Derived.Test.YthhbjhdnaopcnaaDoorVcDiv
namespace Go.Proofs.YthhbjhdnaopcnaaDoor
open Go Go.RowKit Eng Sp Dg
set_option linter.unusedVariables false
set_option linter.unusedSimpArgs false
set_option maxRecDepth 100000
namespace Ref
open _root_.Go.Proofs.YthhbjhdnaopcnaaDoor.Nat (ldN ldNf mkN semShl one_rd)
open _root_.Go.Proofs.YthhbjhdnaopcnaaDoor.Mul (Only Off stO Only.rd)

def DivJ0 (w : World) (p q : Slc) (x y : Nat) (t0 t1 rest out : Slc) (i : Int) (w' : World) : Prop :=
  t0 = p ∧ t1 = q ∧ Ahead w w' ∧ ∃ (l : List Nat) (j r : Nat), i = (j : Int) - 1 ∧ j ≤ (digs B32 x).length ∧ Own .u64 tU64 w' out (nn l) w.heap.size ∧ l.length = (digs B32 x).length ∧ ok B32 l ∧
    val B32 ((digs B32 x).drop j) = val B32 (l.drop j) * y + r ∧ r < y ∧ RN w' rest r ∧ ∀ ad, rest.A = some ad → w.heap.size < ad.block
def DivJ2 (w : World) (p q : Slc) (x y : Nat) (o : Slc) (io : Int) (t0 t1 rest out : Slc) (i t9 t10 : Int) (w' : World) : Prop :=
  t0 = p ∧ t1 = q ∧ out = o ∧ i = io ∧ Ahead w w' ∧ ∃ (l : List Nat) (j r Q S r' : Nat), i = (j : Int) ∧ j < (digs B32 x).length ∧ Own .u64 tU64 w' out (nn l) w.heap.size ∧ l.length = (digs B32 x).length ∧ ok B32 l ∧
    val B32 ((digs B32 x).drop (j + 1)) = val B32 (l.drop (j + 1)) * y + r ∧ t9 = (Q : Int) ∧ t10 = (S : Int) - 1 ∧ S ≤ 32 ∧ r * B32 + (digs B32 x).getD j 0 = Q * y + r' ∧ r' < y * 2 ^ S ∧ Q + 2 ^ S ≤ 2 ^ 32 ∧
    RN w' rest r' ∧ ∀ ad, rest.A = some ad → w.heap.size < ad.block

theorem len_lt_of {B x y k : Nat} (hB : 2 ≤ B) (h : x < y * B ^ k) : (digs B x).length ≤ (digs B y).length + k := by
  refine digs_length_le hB (Nat.lt_of_lt_of_le h ?_)
  rw [Nat.pow_add]
  refine Nat.mul_le_mul_right _ ?_
  have := val_lt (ok_digs hB y)
  rw [val_digs hB] at this
  omega
theorem drop_set_self (l : List Nat) (i q : Nat) (h : i < l.length) : (l.set i q).drop i = q :: l.drop (i + 1) := by
  apply List.ext_getElem?
  intro k
  rw [List.getElem?_drop]
  cases k with
  | zero => simp [h]
  | succ k =>
    rw [List.getElem?_set_ne (by omega)]
    simp; congr 1; omega

theorem rDiv_spec {w : World} {p q : Slc} {x y : Nat} (hp : RN w p x) (hq : RN w q y) (hy : 0 < y) (la : (digs B32 x).length ≤ 2 ^ 45) (lb : (digs B32 y).length + 2 ≤ 2 ^ 45) :
    Calls pr surdref01_Div_id #[p.v, q.v] w fun e w' => Ahead w w' ∧ ∃ s t, e = .returned (.tuple #[Slc.v s, Slc.v t]) ∧ RN w' s (x / y) ∧ RN w' t (x % y) := by
  have hB32 := B32v
  have hB := B64v
  have hna := hp.n
  have oa := ok_digs two32 x
  have vx := val_digs two32 x
  have step : ∀ {t1 : Slc} {l : List Nat} {out rest : Slc} {j Q r r' : Nat} {w' : World}, Ahead w w' → j < (digs B32 x).length → Own .u64 tU64 w' out (nn l) w.heap.size → l.length = (digs B32 x).length → ok B32 l →
      val B32 ((digs B32 x).drop (j + 1)) = val B32 (l.drop (j + 1)) * y + r → r * B32 + (digs B32 x).getD j 0 = Q * y + r' → r' < y → Q < B32 → RN w' rest r' → (∀ ad, rest.A = some ad → w.heap.size < ad.block) →
      semA pr (Instr.indexAt 42 out.v (.int .i64 (j : Int))) w' fun ad w1 => stC ad (.int .u64 (Q : Int)) w1 fun w2 =>
        DivJ0 w p q x y p q rest out (IntKind.i64.wrap ((j : Int) - 1)) w2 ∧ (IntKind.i64.wrap ((j : Int) - 1) + 1).toNat < ((j : Int) + 1).toNat := by
    intro t1 l out rest j Q r r' w' ha hj ho hl ol hv hR hr' hQ hrest hfr
    refine stO ho (by omega) (by omega) ?_
    intro w2 ho2 hon
    rw [Int.toNat_natCast] at ho2
    rw [wrap_i64 (by omega) (by omega)]
    refine ⟨⟨rfl, rfl, hon.ahead ha (Nat.le_refl _), _, j, r', rfl, by omega, ho2, by simpa using hl, ok_set ol hQ, ?_, hr', hon.rd hrest (fun ad e _ => by have := hfr ad e; omega), hfr⟩, by omega⟩
    rw [drop_set_self _ _ _ (by omega), List.drop_eq_getElem_cons hj, ← getD_lt _ 0 hj]
    simp only [val]
    rw [hv, Nat.mul_add, Nat.add_mul, ← Nat.mul_assoc, Nat.mul_comm B32 r]
    omega
  refine surdref01_Div_vc p q w _ (DivJ0 w p q x y) (fun _ _ _ _ i _ => (i + 1).toNat) (fun _ _ _ o i _ => DivJ2 w p q x y o i) (fun _ _ _ _ _ _ _ _ _ _ _ _ s _ => (s + 1).toNat) ?_ ?_ ?_
  · rw [hna]
    refine mkN (by omega) (by omega) ?_
    intro c w1 hc ho h1 hs1
    rw [wrap_i64 (by omega) (by omega)]
    refine ⟨rfl, rfl, h1, _, (digs B32 x).length, 0, rfl, Nat.le_refl _, ho, by simp, ok_replicate (by omega) _, ?_, hy, RN.nil, fun ad h => by cases h⟩
    rw [List.drop_eq_nil_of_le (Nat.le_refl _), List.drop_eq_nil_of_le (by simp)]; simp [val]
  · rintro t0 t1 rest out i w1 ⟨rfl, rfl, h1, l, j, r, rfl, hj, ho, hl, ol, hv, hr, hrest, hfr⟩
    refine br_intro (fun hge => ?_) (fun hlt => ?_)
    · have hj1 : 1 ≤ j := by simp at hge; omega
      obtain ⟨k, rfl⟩ : ∃ k, j = k + 1 := ⟨j - 1, by omega⟩
      have ei : (((k + 1 : Nat) : Int) - 1) = (k : Int) := by omega
      rw [ei]
      have hx := ok_getD oa (by omega : 0 < B32) k
      have hd := Ahead.drew w1
      have lr : (digs B32 r).length ≤ (digs B32 y).length := len_mono two32 (Nat.le_of_lt hr)
      have l2 : (digs B32 (r * 2 ^ 32)).length ≤ (digs B32 y).length + 1 := len_lt_of two32 (by rw [hB32, Nat.pow_one]; omega)
      obtain ⟨R, hR⟩ : ∃ R, R = r * 2 ^ 32 + (digs B32 x).getD k 0 := ⟨_, rfl⟩
      have hRy : R < y * 4294967296 := by
        have : (r + 1) * 4294967296 ≤ y * 4294967296 := Nat.mul_le_mul_right _ hr
        omega
      have l3 : (digs B32 R).length ≤ (digs B32 y).length + 1 := len_lt_of two32 (by rw [Nat.pow_one]; exact hRy)
      have lx : (digs B32 ((digs B32 x).getD k 0)).length ≤ 1 := digs_length_le two32 (by rw [Nat.pow_one]; exact hx)
      have okx : ok B32 [(digs B32 x).getD k 0] := by intro z hz; rw [List.mem_singleton.1 hz]; exact hx
      have vxk : val B32 [(digs B32 x).getD k 0] = (digs B32 x).getD k 0 := by simp only [val]; omega
      -- behind the addition
      have key : ∀ (s4 : Slc) (w5 : World), Ahead w1 w5 → RN w5 s4 R → (∀ ad, s4.A = some ad → w.heap.size < ad.block) →
          Calls pr surdref01_Cmp_id #[s4.v, t1.v] w5 fun e4 w6 => ∃ x2 : Int, e4 = .returned (Value.int .i64 x2) ∧ (br (decide (x2 ≥ 0)) (DivJ2 w t0 t1 x y out (k : Int) t0 t1 s4 out (k : Int) 0 31 w6)
            (semA pr (Instr.indexAt 42 out.v (.int .i64 (k : Int))) w6 fun ad4 w13 => stC ad4 (Value.int .u64 0) w13 fun w14 =>
              DivJ0 w t0 t1 x y t0 t1 s4 out (IntKind.i64.wrap ((k : Int) - 1)) w14 ∧ (IntKind.i64.wrap ((k : Int) - 1) + 1).toNat < ((k : Int) + 1).toNat)) := by
        intro s4 w5 h5 r4 f4
        have h05 := h1.trans h5
        refine Calls.mono (Cmp_spec r4 (RN.ahead hq h05) (by omega) (by omega)) ?_
        rintro e w6 ⟨h6, rfl⟩
        have h06 := h05.trans h6
        have ho6 := ho.ahead (h5.trans h6)
        refine ⟨_, rfl, br_intro (fun hc => ?_) (fun hc => ?_)⟩
        · refine ⟨rfl, rfl, rfl, rfl, h06, l, k, r, 0, 32, R, rfl, by omega, ho6, hl, ol, hv, rfl, rfl, Nat.le_refl _, by rw [hR, hB32]; omega, hRy, by omega, r4.ahead h6, f4⟩
        · have hlt : R < y := by
            have := cmpI_neg (m := R) (n := y)
            have hc' := of_decide_eq_false hc
            exact this.1 (by omega)
          exact step (t1 := t1) (Q := 0) h06 (by omega) ho6 hl ol hv (by rw [hR, hB32]; omega) hlt (by omega) (r4.ahead h6) f4
      refine ldNf (RN.ahead (RN.ahead hp h1) hd) (by omega) (by omega) ?_
      rw [Int.toNat_natCast]
      refine ⟨?_, ?_⟩
      · refine Calls.mono (Shl_spec (RN.ahead hrest hd) (by omega) (by omega) (by simp; omega)) ?_
        rintro e w2 ⟨h2, s2, rfl, r2⟩
        replace r2 : RN w2 s2 (r * 2 ^ 32) := r2
        refine ⟨_, rfl, h2, Ahead.alloc _ _, ?_⟩
        refine Calls.mono (norm_spec (one_rd w2 _) (by simp) okx) ?_
        rw [vxk]
        rintro e w4 ⟨rfl, s3, rfl, r3⟩
        refine ⟨_, rfl, Ahead.refl _, ?_⟩
        refine Calls.mono (Add_specN (RN.ahead r2 (Ahead.alloc _ _)) r3 (by omega) (by omega)) ?_
        rw [← hR]
        rintro e w5 ⟨h5, s4, rfl, r4, f4⟩
        have h25 := ((hd.trans h2).trans (Ahead.alloc _ _)).trans h5
        refine ⟨_, rfl, h5, key s4 w5 h25 r4 fun ad e => ?_⟩
        have q1 := f4 ad e
        rw [size_alloc] at q1
        have := ho.lt
        have := (hd.trans h2).size
        omega
      · refine ⟨Ahead.alloc _ _, ?_⟩
        have ha := (hd.trans (Ahead.alloc w1.drew (.cells #[.int .u64 (((digs B32 x).getD k 0 : Nat) : Int)] tU64 (0, 0))))
        refine Calls.mono (Shl_spec (RN.ahead hrest ha) (by omega) (by omega) (by simp; omega)) ?_
        rintro e w2 ⟨h2, s2, rfl, r2⟩
        replace r2 : RN w2 s2 (r * 2 ^ 32) := r2
        refine ⟨_, rfl, h2, ?_⟩
        refine Calls.mono (norm_spec ((one_rd w1.drew _).ahead h2) (by simp) okx) ?_
        rw [vxk]
        rintro e w4 ⟨rfl, s3, rfl, r3⟩
        refine ⟨_, rfl, Ahead.refl _, ?_⟩
        refine Calls.mono (Add_specN r2 r3 (by omega) (by omega)) ?_
        rw [← hR]
        rintro e w5 ⟨h5, s4, rfl, r4, f4⟩
        refine ⟨_, rfl, h5, key s4 w5 ((ha.trans h2).trans h5) r4 fun ad e => ?_⟩
        have q1 := f4 ad e
        have := ho.lt
        have q2 := h2.size
        rw [size_alloc] at q2
        have := hd.size
        omega
    · have hj0 : j = 0 := by simp at hlt; omega
      subst hj0
      rw [List.drop_zero, List.drop_zero, vx] at hv
      have hq' : val B32 l = x / y := by rw [hv, Nat.add_comm, Nat.add_mul_div_right _ _ hy, Nat.div_eq_of_lt hr]; omega
      have hm' : r = x % y := by rw [hv, Nat.add_comm, Nat.add_mul_mod_self_right, Nat.mod_eq_of_lt hr]
      refine Calls.mono (norm_spec ho.rd (by omega) ol) ?_
      rw [hq']
      rintro e w3 ⟨rfl, s', rfl, hr'⟩
      rw [hm'] at hrest
      exact ⟨_, rfl, h1, _, _, rfl, hr', hrest⟩
  · rintro o0 o1 orest oout oi ow _ t0 t1 rest out i t9 t10 w1 ⟨rfl, rfl, rfl, rfl, h1, l, j, r, Q, S, r', rfl, hj, ho, hl, ol, hv, rfl, rfl, hS, hR, hr', hQ, hrest, hfr⟩
    refine br_intro (fun hge => ?_) (fun hlt => ?_)
    · have hS1 : 1 ≤ S := by simp at hge; omega
      obtain ⟨s, rfl⟩ : ∃ s, S = s + 1 := ⟨S - 1, by omega⟩
      have es : (((s + 1 : Nat) : Int) - 1) = (s : Int) := by omega
      rw [es]
      have hp2 : 2 ^ (s + 1) = 2 * 2 ^ s := by rw [Nat.pow_succ]; omega
      have hpos : 0 < 2 ^ s := Nat.pow_pos (by omega)
      have hle32 : 2 ^ s ≤ 2 ^ 31 := Nat.pow_le_pow_right (by omega) (by omega)
      have hys : y * 2 ^ s < y * B32 ^ 1 := by
        rw [Nat.pow_one]; exact Nat.mul_lt_mul_of_pos_left (by omega) hy
      have ly := len_lt_of two32 hys
      have lr : (digs B32 r').length ≤ (digs B32 y).length + 1 := len_lt_of two32 (by
        rw [Nat.pow_one]
        exact Nat.lt_of_lt_of_le hr' (Nat.mul_le_mul_left _ (by omega)))
      refine Calls.mono (Shl_spec (RN.ahead hq h1) (by omega) (by omega) (by
        have : ((s : Int)).toNat / 32 = 0 := by omega
        omega)) ?_
      rw [Int.toNat_natCast]
      rintro e w7 ⟨h7, s5, rfl, r5⟩
      have h07 := h1.trans h7
      refine ⟨_, rfl, Calls.mono (Cmp_spec (hrest.ahead h7) r5 (by omega) (by omega)) ?_⟩
      rintro e w8 ⟨h8, rfl⟩
      have h08 := h07.trans h8
      have h18 := h7.trans h8
      rw [wrap_i64 (by omega) (by omega)]
      have hcm := cmpI_neg (m := r') (n := y * 2 ^ s)
      refine ⟨_, rfl, br_intro (fun hc => ?_) (fun hc => ?_)⟩
      · have hle : y * 2 ^ s ≤ r' := by
          rcases Nat.lt_or_ge r' (y * 2 ^ s) with h | h
          · have := hcm.2 h; have hc' := of_decide_eq_true hc; omega
          · exact h
        refine Calls.mono (Sub_specN (hrest.ahead h18) (r5.ahead h8) hle (by omega)) ?_
        rintro e w9 ⟨h9, s6, rfl, r6, f6⟩
        refine ⟨_, rfl, semShl (x := 1) (by omega) ?_⟩
        rw [Nat.one_mul, Nat.mod_eq_of_lt (by omega), wrap_u64' (by omega) (by omega), show (Q : Int) + ((2 ^ s : Nat) : Int) = ((Q + 2 ^ s : Nat) : Int) by omega]
        refine ⟨⟨rfl, rfl, rfl, rfl, h08.trans h9, l, j, r, Q + 2 ^ s, s, _, rfl, hj, ho.ahead (h18.trans h9), hl, ol, hv, rfl, rfl, by omega, ?_, ?_, by omega, r6, fun ad e => ?_⟩, by omega⟩
        · rw [hR, Nat.add_mul, Nat.mul_comm y]; rw [Nat.mul_comm y] at hle; omega
        · rw [hp2] at hr'
          have : y * (2 * 2 ^ s) = y * 2 ^ s + y * 2 ^ s := by rw [← Nat.mul_add]; congr 1; omega
          omega
        · have := f6 ad e
          have := ho.lt
          have := h18.size
          omega
      · have hlt' : r' < y * 2 ^ s := by
          have hc' := of_decide_eq_false hc
          exact hcm.1 (by omega)
        exact ⟨⟨rfl, rfl, rfl, rfl, h08, l, j, r, Q, s, _, rfl, hj, ho.ahead h18, hl, ol, hv, rfl, rfl, by omega, hR, hlt', by omega, hrest.ahead h18, hfr⟩, by omega⟩
    · have hS0 : S = 0 := by simp at hlt; omega
      subst hS0
      rw [Nat.pow_zero, Nat.mul_one] at hr'
      exact step (t1 := t1) h1 hj ho hl ol hv hR hr' (by rw [hB32]; omega) hrest hfr

end Ref
end Go.Proofs.YthhbjhdnaopcnaaDoor
