/- The contracts of the reference's naturals: norm, Of, at, Zero, Len, Cmp, Limbs, Is. No condition. -/
import Derived.Test.YthhbjhdnaopcnaaDoorNatC
import Derived.Test.YthhbjhdnaopcnaaDoorVcRef
namespace Go.Proofs.YthhbjhdnaopcnaaDoor
open Go Go.RowKit Eng Sp Dg
set_option linter.unusedVariables false
set_option linter.unusedSimpArgs false
set_option maxRecDepth 100000
namespace Sp
section
variable {P : Program} {t e : TypeId} {k : IntKind}
/-- append of what reads as ys, onto a row of the call's own that has room for it. -/
theorem appRoom (hT : isSl P t k = some e) {w : World} {s x : Slc} {l ys : List Int} {ty : TypeId} {b : Nat} (hx : Rd k w x ys) (hy : 0 < ys.length)
    (hs : Own k e w s l b) (hroom : l.length + ys.length ≤ s.c) {K : Slc → World → Prop}
    (hk : ∀ s' w', s'.c = s.c → Own k e w' s' (l ++ ys) b → (∀ w0, Ahead w0 w → w0.heap.size ≤ b → Ahead w0 w') → K s' w') :
    semS P (Builtin.append_ #[t, t] ty #[s.v, x.v]) w fun s' w' => K s' w' := by
  obtain ⟨hu, he, inf, hi, hs1, hb8, hz⟩ := isSl_out hT
  obtain ⟨ad, hA, _⟩ := hx.get 0 hy
  obtain ⟨sp, hc, hh⟩ := hs.mem
  have hr := run_append_room (P := P) w t ty e inf hu hi b l.length s.c (ints k l ++ sp).toArray hh ad ys.length x.c (ints k ys) (by simp [ints, hs1])
    (fun j u hj => by
      have hj' : j < ys.length := by
        have := (List.getElem?_eq_some_iff.1 hj).1
        simpa [ints] using this
      obtain ⟨ad', e', hcc⟩ := hx.get j hj'
      rw [hA] at e'
      obtain rfl := Option.some.inj e'
      rw [ints_get hj'] at hj
      obtain rfl := Option.some.inj hj
      exact hcc) (by simp [ints, Value.oneCell']) hroom (by simp [ints, hs1]; omega)
  have hxv : x.v = .slice (some ad) ys.length x.c := by rw [Slc.v, hA, hx.n]
  have hsv : s.v = .slice (some ⟨b, 0, none⟩) l.length s.c := by rw [Slc.v, hs.A, hs.n]
  unfold semS
  rw [Sem.wp_iff_run, hxv, hsv, hr]
  refine ⟨⟨some ⟨b, 0, none⟩, l.length + ys.length, s.c⟩, rfl, hk _ _ rfl ⟨by simp, sp.drop ys.length, by simp; omega, ?_⟩ fun w0 ha hb => Below.trans ha ⟨rfl, rfl, rfl, by simp [World.setRow], fun k hk => setRow_other w b k _ (by omega)⟩⟩
  rw [setRow_heap w b _ _ e (0, 0) hh]
  simp [hs1, ints]
  rw [List.drop_append]
  simp
end
end Sp
namespace Ref
open _root_.Go.Proofs.YthhbjhdnaopcnaaDoor.Nat (ldN ldNf stN mkN cutHi cutLo cutCap Fill mkF stF stFf Num)

/-- The slice reads as the number's digits of 32 bits. -/
def RN (w : World) (s : Slc) (n : Nat) : Prop := Rd .u64 w s (nn (digs B32 n))
theorem RN.ahead {w w' : World} {s : Slc} {n : Nat} (h : RN w s n) (ha : Ahead w w') : RN w' s n := Rd.ahead h ha
theorem RN.n {w : World} {s : Slc} {n : Nat} (h : RN w s n) : s.n = (digs B32 n).length := by rw [Rd.n h, nn_length]
theorem RN.nil {w : World} {A : Option Addr} {c : Nat} : RN w ⟨A, 0, c⟩ 0 := by unfold RN; rw [digs_zero]; exact Rd.nil

theorem norm_specA {w : World} {s : Slc} {l : List Nat} (h : Rd .u64 w s (nn l)) (hl : l.length ≤ 2 ^ 46) (hok : ok B32 l) :
    Calls pr surdref01_norm_id #[s.v] w fun e w' => w' = w ∧ ∃ s', e = .returned (Slc.v s') ∧ RN w s' (val B32 l) ∧ s'.A = s.A := by
  have hn : s.n = l.length := by rw [h.n, nn_length]
  have hc := h.c
  refine surdref01_norm_vc s w _ (fun t n w' => w' = w ∧ t = s ∧ ∃ m : Nat, n = (m : Int) ∧ m ≤ l.length ∧ ∀ i, m ≤ i → i < l.length → l.getD i 0 = 0) (fun _ n _ => n.toNat)
    ⟨rfl, rfl, s.n, rfl, by omega, fun i h1 h2 => by omega⟩ ?_
  rintro t n w' ⟨rfl, rfl, m, rfl, hm, hz⟩
  have fin : (m = 0 ∨ l.getD (m - 1) 0 ≠ 0) → semS pr (Instr.sliceAt 42 t.v none (some (Value.int .i64 (m : Int))) (some (Value.int .i64 (m : Int)))) w' fun s2 w3 =>
      w3 = w' ∧ ∃ s', Ending.returned s2.v = .returned (Slc.v s') ∧ RN w' s' (val B32 l) ∧ s'.A = t.A := by
    intro hlast
    refine cutCap (by omega) (by omega) ?_
    refine ⟨rfl, _, rfl, ?_, rfl⟩
    unfold RN
    rw [digs_take two32 hok hm hz hlast, ← nn_take]
    simp only [Int.toNat_natCast]
    exact h.take (by simpa using hm) (Nat.le_refl _)
  refine br_intro (fun hp => ?_) (fun hp => ?_)
  · have hp' : 0 < m := by simp at hp; omega
    rw [wrap_i64 (x := (m : Int) - 1) (by omega) (by omega)]
    refine ldN h (by omega) (by omega) ?_
    have e2 : ((m : Int) - 1).toNat = m - 1 := by omega
    rw [e2]
    refine br_intro (fun hx => ?_) (fun hx => ?_)
    · refine ⟨⟨rfl, rfl, m - 1, by omega, by omega, fun i h1 h2 => ?_⟩, by omega⟩
      by_cases hi : i = m - 1
      · subst hi; simpa using hx
      · exact hz i (by omega) h2
    · exact fin (.inr (by simpa using hx))
  · exact fin (.inl (by simp at hp; omega))
theorem norm_spec {w : World} {s : Slc} {l : List Nat} (h : Rd .u64 w s (nn l)) (hl : l.length ≤ 2 ^ 46) (hok : ok B32 l) :
    Calls pr surdref01_norm_id #[s.v] w fun e w' => w' = w ∧ ∃ s', e = .returned (Slc.v s') ∧ RN w s' (val B32 l) :=
  Calls.mono (norm_specA h hl hok) fun e w' ⟨h1, s', h2, h3, _⟩ => ⟨h1, s', h2, h3⟩

theorem at_spec {w : World} {s : Slc} {l : List Nat} (h : Rd .u64 w s (nn l)) {i : Int} (h0 : 0 ≤ i) :
    Calls pr surdref01_Num_at_id #[s.v, .int .i64 i] w fun e w' => w' = w ∧ e = .returned (.int .u64 (l.getD i.toNat 0 : Nat)) := by
  have hn : s.n = l.length := by rw [h.n, nn_length]
  refine surdref01_Num_at_vc s i w _ (br_intro (fun hlt => ?_) (fun hge => ?_))
  · have hlt' : i < l.length := by simp at hlt; omega
    exact ldN h h0 hlt' ⟨rfl, rfl⟩
  · refine ⟨rfl, ?_⟩
    rw [getD_ge l 0 (by simp at hge; omega)]; rfl

theorem zero_spec {w : World} {s : Slc} {n : Nat} (h : RN w s n) :
    Calls pr surdref01_Num_Zero_id #[s.v] w fun e w' => w' = w ∧ e = .returned (.bool (decide (n = 0))) := by
  refine surdref01_Num_Zero_vc s w _ ⟨rfl, ?_⟩
  have := h.n
  congr 2
  by_cases hn : n = 0
  · subst hn; rw [digs_zero] at this; simp [this]
  · have h2 := List.length_pos_iff.2 (digs_ne_nil two32 hn)
    have : s.n ≠ 0 := by omega
    simp [hn, this]

/-- A base 2^32: the limbs' list as digits. -/
def split32 : List Nat → List Nat
  | [] => []
  | x :: l => x % B32 :: x / B32 :: split32 l
theorem split32_append (l m : List Nat) : split32 (l ++ m) = split32 l ++ split32 m := by
  induction l with
  | nil => rfl
  | cons x l ih => simp [split32, ih]
theorem split32_length (l : List Nat) : (split32 l).length = 2 * l.length := by
  induction l with
  | nil => rfl
  | cons x l ih => simp [split32, ih]; omega
theorem split32_ok {l : List Nat} (h : ok B64 l) : ok B32 (split32 l) := by
  have hB := B64v
  induction l with
  | nil => exact ok_nil
  | cons x l ih =>
    obtain ⟨h1, h2⟩ := ok_cons.1 h
    exact ok_cons.2 ⟨by simp only [B32v]; omega, ok_cons.2 ⟨by simp only [B32v]; omega, ih h2⟩⟩
theorem split32_val (l : List Nat) : val B32 (split32 l) = val B64 l := by
  have h64 : B64 = B32 * B32 := by decide
  induction l with
  | nil => rfl
  | cons x l ih =>
    show x % B32 + B32 * (x / B32 + B32 * val B32 (split32 l)) = x + B64 * val B64 l
    rw [ih, Nat.mul_add, ← Nat.mul_assoc, ← h64, ← Nat.add_assoc, Nat.mod_add_div]

theorem Of_spec {w : World} {s : Slc} {l : List Nat} (h : Rd .u64 w s (nn l)) (hl : l.length * 8 ≤ 140737488351232) (hok : ok B64 l) :
    Calls pr surdref01_Of_id #[s.v] w fun e w' => Ahead w w' ∧ ∃ s', e = .returned (Slc.v s') ∧ RN w' s' (val B64 l) := by
  have hB := B64v
  have hB32 := B32v
  have hn : s.n = l.length := by rw [h.n, nn_length]
  refine surdref01_Of_vc s w _ (fun out t10 n i w' => t10 = s ∧ n = (l.length : Int) ∧ Ahead w w' ∧ ∃ (j b : Nat), i = (j : Int) ∧ j ≤ l.length ∧ w.heap.size ≤ b ∧ out.c = 2 * l.length ∧
    Own .u64 tU64 w' out (nn (split32 (l.take j))) b) (fun _ _ n i _ => (n - i).toNat) ?_ ?_
  · rw [hn, wrap_i64 (by omega) (by omega)]
    refine mk (e := tU64) (k := .u64) (by kernel_rfl) (Int.le_refl 0) (by omega) (by omega) ?_
    intro s' w' hc ho ha hs
    exact ⟨rfl, rfl, ha, 0, w.heap.size, rfl, Nat.zero_le _, Nat.le_refl _, by rw [hc]; omega, ho⟩
  · rintro out t10 n i w1 ⟨rfl, rfl, ha, j, b, rfl, hj, hb, hoc, ho⟩
    refine br_intro (fun hlt => ?_) (fun hge => ?_)
    · have hj' : j < l.length := by simpa using hlt
      refine ldN (h.ahead ha) (by omega) (by omega) ?_
      have hx := ok_getD hok (by omega : 0 < B64) j
      simp only [Int.toNat_natCast]
      generalize hxe : l.getD j 0 = x at *
      have e1 : Int.tmod (x : Int) 4294967296 = ((x % B32 : Nat) : Int) := by rw [B32v, Int.tmod_eq_emod_of_nonneg (by omega)]; omega
      have e2 : IntKind.u64.wrap (Int.tdiv (x : Int) 4294967296) = ((x / B32 : Nat) : Int) := by
        have : Int.tdiv (x : Int) 4294967296 = ((x / 4294967296 : Nat) : Int) := by rw [Int.tdiv_eq_ediv_of_nonneg (by omega)]; omega
        rw [B32v, this, wrap_u64' (by omega) (by omega)]
      rw [e1, e2]
      have hal := Ahead.alloc w1 (.cells #[Value.int .u64 ((x % B32 : Nat) : Int), Value.int .u64 ((x / B32 : Nat) : Int)] tU64 (0, 0))
      have hlit : Rd .u64 (w1.alloc (.cells #[Value.int .u64 ((x % B32 : Nat) : Int), Value.int .u64 ((x / B32 : Nat) : Int)] tU64 (0, 0))) ⟨some ⟨w1.heap.size, 0, none⟩, 2, 2⟩ (nn [x % B32, x / B32]) :=
        Own.rd (t := tU64) (b := w1.heap.size) ⟨rfl, [], rfl, by rw [get_alloc]; rfl⟩
      refine appRoom (t := _) (e := tU64) (k := .u64) (by kernel_rfl) hlit (by simp) (ho.ahead hal) (by rw [hoc, nn_length, split32_length, nn_length]; simp; omega) ?_
      intro s' w4 hc' ho' hah
      have e8 : IntKind.i64.wrap ((j : Int) + 1) = ((j + 1 : Nat) : Int) := by rw [wrap_i64 (by omega) (by omega)]; omega
      refine ⟨⟨by trivial, by trivial, hah w (ha.trans hal) hb, j + 1, b, e8, hj', hb, by rw [hc', hoc], ?_⟩, by rw [e8]; omega⟩
      rw [List.take_succ_eq_append_getElem hj', split32_append, nn_append]
      have : l[j] = x := by rw [← hxe]; exact (getD_lt l 0 hj').symm
      rw [this]
      exact ho'
    · have hj' : j = l.length := by simp at hge; omega
      subst hj'
      rw [List.take_length] at ho
      refine Calls.mono (norm_spec ho.rd (by rw [split32_length]; omega) (split32_ok hok)) ?_
      rintro e w5 ⟨rfl, s', rfl, hr⟩
      rw [split32_val] at hr
      exact ⟨_, rfl, ha, _, rfl, hr⟩

theorem bl_len32 {l : List Nat} (h : ok B32 l) : bl (val B32 l) ≤ 32 * l.length := bl_le (by rw [← b32_pow]; exact val_lt h)

theorem Len_spec {w : World} {s : Slc} {n : Nat} (h : RN w s n) (hl : (digs B32 n).length ≤ 2 ^ 46) :
    Calls pr surdref01_Num_Len_id #[s.v] w fun e w' => w' = w ∧ e = .returned (.int .i64 (bl n)) := by
  have hB32 := B32v
  have hn := h.n
  have hok := ok_digs two32 n
  refine surdref01_Num_Len_vc s w _ (fun k v w' => w' = w ∧ ∃ (a x : Nat), k = (a : Int) ∧ v = (x : Int) ∧ x < B32 ∧ a ≤ 2 ^ 55 ∧ a + bl x = bl n) (fun _ v _ => v.toNat) ?_ ?_
  · refine br_intro (fun hz => ?_) (fun hz => ?_)
    · have hd : digs B32 n = [] := List.eq_nil_of_length_eq_zero (by simp at hz; omega)
      have hv : n = 0 := by rw [← val_digs two32 n, hd]; rfl
      refine ⟨rfl, ?_⟩
      rw [hv, bl_zero]; rfl
    · have hp : 0 < s.n := by simp at hz; omega
      rw [wrap_i64 (x := (s.n : Int) - 1) (by omega) (by omega)]
      refine ldN h (by omega) (by omega) ?_
      have e2 : ((s.n : Int) - 1).toNat = s.n - 1 := by omega
      rw [e2, wrap_i64 (by omega) (by omega)]
      have hne : n ≠ 0 := by intro h0; subst h0; rw [digs_zero] at hn; simp at hn; omega
      refine ⟨rfl, 32 * (s.n - 1), _, by omega, rfl, ok_getD hok (by omega) _, by omega, ?_⟩
      have hlen : (digs B32 n).length = (s.n - 1) + 1 := by omega
      have hval : n = val B32 ((digs B32 n).take (s.n - 1)) + 2 ^ (32 * (s.n - 1)) * (digs B32 n).getD (s.n - 1) 0 := by
        rw [← b32_pow, ← val_take_succ', List.take_of_length_le (by omega), val_digs two32]
      have hlt : val B32 ((digs B32 n).take (s.n - 1)) < 2 ^ (32 * (s.n - 1)) := by
        rw [← b32_pow]
        have := val_lt (ok_take hok (s.n - 1))
        rw [List.length_take, Nat.min_eq_left (by omega)] at this
        exact this
      have htop := digs_last two32 hne
      rw [show (digs B32 n).length - 1 = s.n - 1 by omega] at htop
      have := bl_add_pow htop hlt
      rw [← hval] at this
      omega
  · rintro k v w1 ⟨rfl, a, x, rfl, rfl, hx, ha, hbl⟩
    refine br_intro (fun hp => ?_) (fun hp => ?_)
    · have hp' : x ≠ 0 := by simp at hp; omega
      have e1 : IntKind.i64.wrap ((a : Int) + 1) = ((a + 1 : Nat) : Int) := by rw [wrap_i64 (by omega) (by omega)]; omega
      have e2 : IntKind.u64.wrap (Int.tdiv (x : Int) 2) = ((x / 2 : Nat) : Int) := by
        have : Int.tdiv (x : Int) 2 = ((x / 2 : Nat) : Int) := by rw [Int.tdiv_eq_ediv_of_nonneg (by omega)]; omega
        rw [this, wrap_u64' (by omega) (by omega)]
      have e3 : bl x = bl (x / 2) + 1 := by
        unfold bl; rw [digs_pos (by omega) hp']; simp
      have hbn : bl n ≤ 32 * (digs B32 n).length := by
        have := bl_len32 hok
        rw [val_digs two32] at this
        exact this
      have := bl_pos hp'
      rw [e1, e2]
      exact ⟨⟨rfl, a + 1, x / 2, rfl, rfl, by omega, by omega, by omega⟩, by omega⟩
    · have hp' : x = 0 := by simp at hp; omega
      subst hp'
      rw [bl_zero] at hbl
      exact ⟨rfl, by rw [← hbl]; rfl⟩

end Ref
end Go.Proofs.YthhbjhdnaopcnaaDoor
