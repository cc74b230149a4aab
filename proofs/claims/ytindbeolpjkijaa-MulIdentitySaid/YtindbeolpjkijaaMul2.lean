/- The contracts of mul's inner functions: copy, part, sum, less, school. No condition. -/
import Derived.Test.YtindbeolpjkijaaMul1
namespace Go.Proofs.Ytindbeolpjkijaa
open Go Go.RowKit Eng Sp Dg
set_option linter.unusedVariables false
set_option linter.unusedSimpArgs false
set_option maxRecDepth 100000
namespace Mul
open _root_.Go.Proofs.Ytindbeolpjkijaa.Nat (ldN ldNf stN mkN Fill mkF stF stFf Num OwnNil add64 sub64)

theorem rd_off {w : World} {s : Slc} {l : List Int} {kd : IntKind} (hr : Rd kd w s l) {k : Nat} (hk : w.heap.size ≤ k) : Off k s := by
  intro ad e hp
  obtain ⟨ad', e', hc⟩ := hr.get 0 (by have := hr.n; omega)
  rw [e] at e'
  obtain rfl := Option.some.inj e'
  intro hb
  have hnone : w.heap[k]? = none := by simp [hk]
  have : (ad.add 0).block = k := by rw [add_block]; exact hb
  simp [World.cell?, this, hnone] at hc

/-- copy, onto a row of the call's own, of what is no longer. -/
theorem cpO {t : TypeId} {w : World} {s x : Slc} {l ys : List Nat} {b : Nat} {ty : TypeId} (h : Own .u64 tU64 w s (nn l) b) (hx : Rd .u64 w x (nn ys)) (hle : ys.length ≤ l.length) {K : Int → World → Prop}
    (hk : ∀ n w', Own .u64 tU64 w' s (nn (ys ++ l.drop ys.length)) b → Only b w w' → K n w')
    (hT : isSl pr t .u64 = some tU64 := by kernel_rfl) : semI pr .i64 (Builtin.copy_ #[t, t] ty #[s.v, x.v]) w K := by
  obtain ⟨hu, he, inf, hi, hs1, hb8, hz⟩ := isSl_out hT
  obtain ⟨sp, hc, hh⟩ := h.mem
  have hsv : s.v = .slice (some ⟨b, 0, none⟩) l.length s.c := by rw [Slc.v, h.A, h.n, nn_length]
  have hxn : x.n = ys.length := by rw [hx.n, nn_length]
  unfold semI
  rw [Sem.wp_iff_run, hsv]
  obtain ⟨A, n, c⟩ := x
  simp only at hxn
  subst hxn
  cases A with
  | none =>
    have hnil : ys = [] := by
      cases ys with
      | nil => rfl
      | cons y ys =>
        obtain ⟨ad, e, _⟩ := hx.get 0 (by simp)
        cases e
    subst hnil
    have hr : (Builtin.copy_ #[t, t] ty #[.slice (some ⟨b, 0, none⟩) l.length s.c, Slc.v ⟨none, 0, c⟩]).run pr w = .ok (goInt 0) w := by
      simp [Builtin.copy_, Slc.v, run_underlying hu, Builtin.lenOf, Builtin.firstCells, sizeOf, typeInfo, hi, storeCells]
    simp only [List.length_nil]
    rw [hr]
    exact ⟨_, rfl, hk _ _ (by simpa using h) (Only.refl _ _)⟩
  | some ad =>
    have hr := run_copy_row (P := pr) w t t ty tU64 b 0 l.length s.c ad ys.length c (ints .u64 (nn l) ++ sp).toArray tU64 (ints .u64 (nn ys)) hu (by rw [hi]; simp [hs1]) hh (by simp [ints, Nat.min_eq_left hle])
      (fun j v hj => by
        have hj' : j < (nn ys).length := by
          have := (List.getElem?_eq_some_iff.1 hj).1
          simpa [ints] using this
        obtain ⟨ad', e', hcc⟩ := hx.get j hj'
        obtain rfl := Option.some.inj e'
        rw [ints_get hj'] at hj
        obtain rfl := Option.some.inj hj
        exact hcc) (by simp [ints]; omega) (by simp [ints, Value.oneCell'])
    have hxv : Slc.v ⟨some ad, ys.length, c⟩ = .slice (some ad) ys.length c := rfl
    rw [hxv, hr]
    refine ⟨_, rfl, hk _ _ ⟨?_, sp, ?_, ?_⟩ (Only.setRow _ _ _)⟩
    · rw [h.hd]; simp; omega
    · rw [hc]; simp; omega
    · rw [setRow_heap w b _ _ tU64 (0, 0) hh]
      congr 2
      simp [ints, nn, List.drop_append, show ys.length - l.length = 0 by omega]

theorem part_spec {w : World} {a : Slc} {l : List Nat} (h : Rd .u64 w a (nn l)) (ol : ok B64 l) (ll : l.length ≤ 2 ^ 46) {f t : Int} (hf : 0 ≤ f) (h0 : min f.toNat l.length ≤ min t.toNat l.length) (ht : 0 ≤ t) :
    Calls pr mul_part_id #[a.v, .int .i64 f, .int .i64 t] w fun e w' => w' = w ∧ ∃ s, e = .returned (Slc.v s) ∧
      Rd .u64 w s (nn (digs B64 (val B64 ((l.drop (min f.toNat l.length)).take (min t.toNat l.length - min f.toNat l.length))))) := by
  have hn : a.n = l.length := by rw [h.n, nn_length]
  have hc := h.c
  generalize hF : min f.toNat l.length = F at *
  generalize hT : min t.toNat l.length = T at *
  have hTl : T ≤ l.length := by omega
  have eF : minI f (a.n : Int) = (F : Int) := by unfold minI; split <;> omega
  have eT : minI t (a.n : Int) = (T : Int) := by unfold minI; split <;> omega
  refine mul_part_vc a f t w _ (fun t0 t1 t2 w' => t0 = a ∧ w' = w ∧ t1 = (F : Int) ∧ ∃ j : Nat, t2 = (j : Int) ∧ F ≤ j ∧ j ≤ T ∧ ∀ i, j ≤ i → i < T → l.getD i 0 = 0) (fun _ _ t2 _ => t2.toNat)
    ⟨rfl, rfl, eF, T, eT, h0, Nat.le_refl _, fun i h1 h2 => by omega⟩ ?_
  rintro t0 t1 t2 w1 ⟨rfl, rfl, rfl, j, rfl, hj1, hj2, hz⟩
  have fin : (j = F ∨ l.getD (j - 1) 0 ≠ 0) → semS pr (Instr.sliceAt 32 t0.v (some (.int .i64 (F : Int))) (some (.int .i64 (j : Int))) none) w1 fun s1 w2 =>
      w2 = w1 ∧ ∃ s, Ending.returned s1.v = .returned (Slc.v s) ∧ Rd .u64 w1 s (nn (digs B64 (val B64 ((l.drop F).take (T - F))))) := by
    intro hlast
    have e := run_slice_both (t := 32) (e := tU64) (k := .u64) (P := pr) (by kernel_rfl) w1 t0 (l := (F : Int)) (h := (j : Int)) (by omega) (by omega) (by omega)
    unfold semS
    rw [Sem.wp_iff_run, e]
    refine ⟨_, rfl, rfl, _, rfl, ?_⟩
    have hd : digs B64 (val B64 ((l.drop F).take (T - F))) = ((l.drop F).take (T - F)).take (j - F) := by
      refine digs_take two64 (ok_take (ok_drop ol F) _) (by simp; omega) (fun i h1 h2 => ?_) ?_
      · have h3 : i < T - F := by simp at h2; omega
        rw [getD_take _ h3, getD_drop]
        exact hz (F + i) (by omega) (by omega)
      · rcases hlast with h1 | h1
        · left; omega
        · by_cases hjF : j = F
          · left; omega
          · right
            rw [getD_take _ (by omega), getD_drop, show F + (j - F - 1) = j - 1 by omega]
            exact h1
    rw [hd, List.take_take, Nat.min_eq_left (by omega), ← nn_take, ← nn_drop]
    have h2 := (Rd.drop h (m := F) (by rw [nn_length]; omega)).take (m := j - F) (c := t0.c - F) (by simp; omega) (by omega)
    simp only [Int.toNat_natCast]
    exact h2
  refine br_intro (fun hp => ?_) (fun hp => ?_)
  · have hp' : F < j := by simp at hp; omega
    rw [wrap_i64 (x := (j : Int) - 1) (by omega) (by omega)]
    refine ldN h (by omega) (by omega) ?_
    rw [show ((j : Int) - 1).toNat = j - 1 by omega]
    refine br_intro (fun hx => ?_) (fun hx => ?_)
    · refine ⟨⟨rfl, rfl, rfl, j - 1, by omega, by omega, by omega, fun i h1 h2 => ?_⟩, by omega⟩
      by_cases hi : i = j - 1
      · subst hi; simpa using hx
      · exact hz i (by omega) h2
    · exact fin (.inr (by simpa using hx))
  · exact fin (.inl (by simp at hp; omega))

theorem val_append_zeros (l : List Nat) (n : Nat) : val B64 (l ++ List.replicate n 0) = val B64 l := by rw [val_append, val_replicate, Nat.mul_zero, Nat.add_zero]

theorem sum_spec {w : World} {a b : Slc} {la lb : List Nat} (ha : Rd .u64 w a (nn la)) (hb : Rd .u64 w b (nn lb)) (oa : ok B64 la) (ob : ok B64 lb) (na : la.length + 1 ≤ 2 ^ 45) (nb : lb.length + 1 ≤ 2 ^ 45) :
    Calls pr mul_sum_id #[a.v, b.v] w fun e w' => Ahead w w' ∧ ∃ s l, e = .returned (Slc.v s) ∧ OwnNil w.heap.size w' s l ∧ l.length = max la.length lb.length + 1 ∧ ok B64 l ∧ val B64 l = val B64 la + val B64 lb := by
  have hB := B64v
  have hna : a.n = la.length := by rw [ha.n, nn_length]
  have hnb : b.n = lb.length := by rw [hb.n, nn_length]
  have em : maxI (a.n : Int) (b.n : Int) = ((max la.length lb.length : Nat) : Int) := by unfold maxI; split <;> omega
  refine mul_sum_vc a b w _ ?_
  rw [em, wrap_i64 (x := ((max la.length lb.length : Nat) : Int) + 1) (by omega) (by omega)]
  refine mkN (by omega) (by omega) ?_
  intro c w1 hc ho h1 hs1
  have hr := ha.ahead h1
  refine cpO ho hr (by simp; omega) ?_
  intro n w2 ho2 hon2
  have hlen : (la ++ (List.replicate ((max la.length lb.length : Nat) + 1 : Int).toNat 0).drop la.length).length = max la.length lb.length + 1 := by simp; omega
  have hval : val B64 (la ++ (List.replicate ((max la.length lb.length : Nat) + 1 : Int).toNat 0).drop la.length) = val B64 la := by rw [List.drop_replicate]; exact val_append_zeros _ _
  have hok : ok B64 (la ++ (List.replicate ((max la.length lb.length : Nat) + 1 : Int).toNat 0).drop la.length) := ok_append.2 ⟨oa, ok_drop (ok_replicate (by omega) _) _⟩
  generalize la ++ (List.replicate ((max la.length lb.length : Nat) + 1 : Int).toNat 0).drop la.length = L at *
  have hfit : val B64 L + val B64 lb * B64 ^ 0 < B64 ^ L.length := by
    rw [hval, hlen, Nat.pow_zero, Nat.mul_one, Nat.pow_succ]
    have h2 := Nat.lt_of_lt_of_le (val_lt oa) (Nat.pow_le_pow_right (by omega) (Nat.le_max_left la.length lb.length))
    have h3 := Nat.lt_of_lt_of_le (val_lt ob) (Nat.pow_le_pow_right (by omega) (Nat.le_max_right la.length lb.length))
    have := Nat.mul_le_mul_left (B64 ^ max la.length lb.length) two64
    omega
  refine Calls.mono (addAt_spec (at_ := 0) ho2 (hon2.rd (hb.ahead h1) (rd_off hb (Nat.le_refl _))) (rd_off hb (Nat.le_refl _)) hok ob (by omega) (by omega) (Nat.zero_le _) hfit) ?_
  rintro e w3 ⟨rfl, hon3, l', ho3, hl', ol', hv'⟩
  refine ⟨rfl, (hon2.trans hon3).ahead h1 (Nat.le_refl _), c, l', rfl, .inr ⟨_, Nat.le_refl _, by rw [hc]; unfold maxLen; omega, ho3⟩, by rw [hl', hlen], ol', by rw [hv', hval, Nat.pow_zero, Nat.mul_one]⟩

theorem less_spec {w : World} {a b : Slc} {la lb : List Nat} (ha : Rd .u64 w a (nn la)) (hb : Rd .u64 w b (nn lb)) (oa : ok B64 la) (ob : ok B64 lb) (na : la.length + 1 ≤ 2 ^ 45) (nb : lb.length ≤ 2 ^ 46) (hle : val B64 lb ≤ val B64 la) :
    Calls pr mul_less_id #[a.v, b.v] w fun e w' => Ahead w w' ∧ ∃ s l, e = .returned (Slc.v s) ∧ OwnNil w.heap.size w' s l ∧ l.length = la.length ∧ ok B64 l ∧ val B64 l = val B64 la - val B64 lb := by
  have hB := B64v
  have hna : a.n = la.length := by rw [ha.n, nn_length]
  have hnb : b.n = lb.length := by rw [hb.n, nn_length]
  refine mul_less_vc a b w _ (fun t1 out t6 t16 t17 w' => t1 = b ∧ t16 = (la.length : Int) ∧ Ahead w w' ∧ ∃ (j cr : Nat) (l : List Nat), t17 = (j : Int) ∧ j ≤ la.length ∧ t6 = (cr : Int) ∧ cr ≤ 1 ∧ Own .u64 tU64 w' out (nn l) w.heap.size ∧ out.c ≤ maxLen ∧
    l.length = la.length ∧ ok B64 l ∧ l.drop j = la.drop j ∧ val B64 (l.take j) + val B64 (lb.take j) = val B64 (la.take j) + cr * B64 ^ j) (fun _ _ _ n i _ => (n - i).toNat) ?_ ?_
  · rw [hna]
    refine mkN (by omega) (by omega) ?_
    intro c w1 hc ho h1 hs1
    refine cpO ho (ha.ahead h1) (by simp) ?_
    intro n w2 ho2 hon2
    have e : la ++ (List.replicate ((la.length : Nat) : Int).toNat 0).drop la.length = la := by simp
    rw [e] at ho2
    exact ⟨rfl, by rw [ho2.n, nn_length], hon2.ahead h1 (Nat.le_refl _), 0, 0, la, rfl, Nat.zero_le _, rfl, by omega, ho2, by rw [hc]; unfold maxLen; omega, rfl, oa, rfl, by simp [val]⟩
  · rintro t1 out t6 t16 t17 w1 ⟨rfl, rfl, h1, j, cr, l, rfl, hj, rfl, hcr, ho, hoc, hl, ol, hdr, hv⟩
    have e8 : IntKind.i64.wrap ((j : Int) + 1) = ((j + 1 : Nat) : Int) := by rw [wrap_i64 (by omega) (by omega)]; omega
    rw [e8]
    have round : ∀ y : Nat, y < B64 → y = lb.getD j 0 → j < la.length → semA pr (Instr.indexAt 32 out.v (.int .i64 (j : Int))) w1 fun ad2 w4 => ldI .u64 ad2 w4 fun x3 =>
        Sem.wp pr (callFunc bits_Sub64_id #[.int .u64 x3, .int .u64 (y : Int), .int .u64 (cr : Int)]) (fun n1 w5 => ∃ x4 : Int, ∃ x5 : Int, n1 = .value (.tuple #[.int .u64 x4, .int .u64 x5]) ∧
          (semA pr (Instr.indexAt 32 out.v (.int .i64 (j : Int))) w5 fun ad3 w6 => stC ad3 (.int .u64 x4) w6 fun w7 =>
            (t1 = t1 ∧ (la.length : Int) = (la.length : Int) ∧ Ahead w w7 ∧ ∃ (j' cr : Nat) (l : List Nat), ((j + 1 : Nat) : Int) = (j' : Int) ∧ j' ≤ la.length ∧ x5 = (cr : Int) ∧ cr ≤ 1 ∧ Own .u64 tU64 w7 out (nn l) w.heap.size ∧ out.c ≤ maxLen ∧
    l.length = la.length ∧ ok B64 l ∧ l.drop j' = la.drop j' ∧ val B64 (l.take j') + val B64 (lb.take j') = val B64 (la.take j') + cr * B64 ^ j') ∧ ((la.length : Int) - ((j + 1 : Nat) : Int)).toNat < ((la.length : Int) - (j : Int)).toNat)) (fun _ _ => False) w4 := by
      intro y hy hyb hjl
      refine ldN ho.rd (by omega) (by omega) ?_
      rw [Int.toNat_natCast]
      have hx : l.getD j 0 = la.getD j 0 := by
        have e1 := getD_drop l 0 j
        have e2 := getD_drop la 0 j
        rw [Nat.add_zero] at e1 e2
        rw [← e1, hdr, e2]
      have hxB := ok_getD oa (by omega : 0 < B64) j
      rw [hx]
      refine sub64 hcr ?_
      refine stO ho (by omega) (by omega) ?_
      intro w7 ho7 hon7
      rw [Int.toNat_natCast] at ho7
      have hst : (la.getD j 0 + B64 - y - cr) % B64 + y + cr = la.getD j 0 + B64 * (if la.getD j 0 < y + cr then 1 else 0) := by
        generalize la.getD j 0 = x at *
        split
        · rename_i h
          rw [Nat.mod_eq_of_lt (by omega)]; omega
        · rename_i h
          have : x + B64 - y - cr = (x - y - cr) + B64 := by omega
          rw [this, Nat.add_mod_right, Nat.mod_eq_of_lt (by omega)]; omega
      refine ⟨⟨rfl, rfl, hon7.ahead h1 (Nat.le_refl _), j + 1, _, _, rfl, hjl, rfl, by split <;> omega, ho7, hoc, by simpa using hl, ok_set ol (Nat.mod_lt _ (by omega)), ?_, ?_⟩, by omega⟩
      · rw [List.drop_set_of_lt (by omega), ← List.drop_drop, ← List.drop_drop, hdr]
      · rw [val_take_set _ _ _ (by omega), val_take_succ', val_take_succ', Nat.pow_succ, ← hyb]
        exact sub_step hst hv
    refine br_intro (fun hlt => ?_) (fun hge => ?_)
    · have hjl : j < la.length := by simp at hlt; omega
      refine br_intro (fun hin => ?_) (fun hin => ?_)
      · have hin' : j < lb.length := by simp at hin; omega
        refine ldN (hb.ahead h1) (by omega) (by omega) ?_
        rw [Int.toNat_natCast]
        exact round _ (ok_getD ob (by omega) j) rfl hjl
      · have hin' : lb.length ≤ j := by simp at hin; omega
        exact round 0 (by omega) (getD_ge _ _ hin').symm hjl
    · have hjl : j = la.length := by simp at hge; omega
      subst hjl
      refine ⟨h1, out, l, rfl, .inr ⟨_, Nat.le_refl _, hoc, ho⟩, hl, ol, ?_⟩
      have hlt := val_lt ol
      rw [hl] at hlt
      rw [val_take_all l (by omega), val_take_all la (Nat.le_refl _)] at hv
      have hlb : val B64 (lb.take la.length) = val B64 lb := by
        rw [take_val (by omega) ob, Nat.mod_eq_of_lt (Nat.lt_of_le_of_lt hle (val_lt oa))]
      rw [hlb] at hv
      have h3 : cr = 0 := by
        rcases Nat.lt_or_ge cr 1 with h4 | h4
        · omega
        · have : cr = 1 := by omega
          subst this
          omega
      subst h3
      omega

end Mul
end Go.Proofs.Ytindbeolpjkijaa
