/- The laws NatSums and NatShifts. No condition. -/
import Derived.Test.YtaflfjbhlgbmdaaRef4
import Derived.Test.YtaflfjbhlgbmdaaLaw1
namespace Go.Proofs.Ytaflfjbhlgbmdaa
open Go Go.RowKit Eng Sp Dg
set_option linter.unusedVariables false
set_option linter.unusedSimpArgs false
set_option maxRecDepth 100000
namespace Ref
open _root_.Go.Proofs.Ytaflfjbhlgbmdaa.Nat (OwnNil Num Ret bigC subC Yes end_lives own_num num_of digs_len_bl bigC_ok)

theorem low_ahead {w0 w w' : World} {base : Nat} (ha : Ahead w0 w) (hb : w0.heap.size ≤ base) (h : Below base w w') : Ahead w0 w' := Below.trans ha (Below.mono h hb)

theorem own_listV {base : Nat} {w : World} (ss : List (Slc × List Nat)) (hb : base ≤ w.heap.size) (h : ∀ p ∈ ss, OwnNil base w p.1 p.2 ∧ (p.2.length + 5) * 8 ≤ 2 ^ 47) (hp : ss.Pairwise fun p q => ∀ k, Bk p.1 k → ¬ Bk q.1 k) (hn : ss.length ≤ 1000)
    {arr : Array Value} {n : Nat} (harr : arr = (ss.map fun p => p.1.v).toArray) (hnn : n = ss.length) :
    Calls pr surdref01_Own_id #[Slc.v ⟨some ⟨w.heap.size, 0, none⟩, n, n⟩] (w.alloc (.cells arr tU64s (0, 0))) fun e w' => e = .returned (.bool true) ∧ Below base w w' ∧ (w.alloc (.cells arr tU64s (0, 0))).heap.size ≤ w'.heap.size ∧ ∀ k, k < w.heap.size → (∀ p ∈ ss, ¬ Bk p.1 k) → w'.heap[k]? = w.heap[k]? := by
  subst harr hnn
  have hget : ∀ j, j < ss.length → ss.getD j (⟨none, 0, 0⟩, []) ∈ ss := fun j hj => by
    rw [List.getD_eq_getElem?_getD, List.getElem?_eq_getElem hj]; exact List.getElem_mem hj
  have hal : ∀ {arr : Array Value} {t : TypeId}, Below base w (w.alloc (.cells arr t (0, 0))) := Below.alloc (Below.refl _ _) hb _
  refine Calls.mono (Own_spec (V := fun k => w.heap.size ≤ k ∨ ∃ p ∈ ss, Bk p.1 k) (base := base) (w0 := w.alloc (.cells (ss.map fun p => p.1.v).toArray tU64s (0, 0))) (ab := w.heap.size) (n := ss.length) (S := fun j => (ss.getD j (⟨none, 0, 0⟩, [])).1) (L := fun j => (ss.getD j (⟨none, 0, 0⟩, [])).2) ⟨Below.refl _ _, hb, ?_, ?_, ?_, ?_, ?_, fun _ _ _ => rfl, .inl (Nat.le_refl _), fun k hk => .inl (by rw [size_alloc] at hk; omega), fun j k hj hbk => .inr ⟨_, hget j hj, hbk⟩⟩ hn fun j hj => (h _ (hget j hj)).2) fun e w' ⟨⟨h1, h3⟩, h2⟩ => ⟨h2, Below.trans hal h1, h1.size, fun k hk hv => (h3 k (by rw [size_alloc]; omega) fun hh => by
    rcases hh with hh | ⟨p, hp, hh⟩
    · omega
    · exact hv p hp hh).trans (Below.heap_alloc _ _ _ hk)⟩
  · rw [size_alloc]; omega
  · rw [get_alloc]
    congr 3
    apply List.ext_getElem
    · simp
    · intro i h1 h2
      have hi : i < ss.length := by simpa using h1
      simp [List.getD_eq_getElem?_getD, hi]
  · intro j hj
    refine OwnNil.block (h _ (hget j hj)).1 fun k hk _ => Below.heap_alloc _ _ _ hk
  · intro j hj hbk
    rcases (h _ (hget j hj)).1 with ⟨h1, _⟩ | ⟨b, _, _, ho⟩
    · simp only [Bk, h1] at hbk; cases hbk
    · have : b = w.heap.size := congrArg Addr.block (Option.some.inj (ho.A.symm.trans hbk))
      have := ho.lt
      omega
  · intro i j k hi hj hij h1 h2
    rw [List.pairwise_iff_getElem] at hp
    simp only [List.getD_eq_getElem?_getD, List.getElem?_eq_getElem hi, List.getElem?_eq_getElem hj, Option.getD_some] at h1 h2
    rcases Nat.lt_or_ge i j with hlt | hge
    · exact hp i j hi hj hlt k h1 h2
    · exact hp j i hj hi (by omega) k h2 h1
theorem own_list {base : Nat} {w : World} (ss : List (Slc × List Nat)) (hb : base ≤ w.heap.size) (h : ∀ p ∈ ss, OwnNil base w p.1 p.2 ∧ (p.2.length + 5) * 8 ≤ 2 ^ 47) (hp : ss.Pairwise fun p q => ∀ k, Bk p.1 k → ¬ Bk q.1 k) (hn : ss.length ≤ 1000)
    {arr : Array Value} {n : Nat} (harr : arr = (ss.map fun p => p.1.v).toArray) (hnn : n = ss.length) :
    Calls pr surdref01_Own_id #[Slc.v ⟨some ⟨w.heap.size, 0, none⟩, n, n⟩] (w.alloc (.cells arr tU64s (0, 0))) fun e w' => e = .returned (.bool true) ∧ Below base w w' :=
  Calls.mono (own_listV ss hb h hp hn harr hnn) fun e w' ⟨h1, h2, _⟩ => ⟨h1, h2⟩

theorem old_new {b1 m : Nat} {wa wb : World} {s t : Slc} {l l' : List Nat} (hs : OwnNil b1 wa s l) (hm : wa.heap.size ≤ m) (ht : OwnNil m wb t l') (k : Nat) (h1 : Bk s k) : ¬ Bk t k := by
  intro h2
  rcases hs with ⟨rfl, _⟩ | ⟨b, _, _, ho⟩
  · simp [Bk] at h1
  rcases ht with ⟨rfl, _⟩ | ⟨b', hb', _, ho'⟩
  · simp [Bk] at h2
  have e1 : b = k := congrArg Addr.block (Option.some.inj (ho.A.symm.trans h1))
  have e2 : b' = k := congrArg Addr.block (Option.some.inj (ho'.A.symm.trans h2))
  have := ho.lt
  omega

theorem same_spec {w : World} {s want : Slc} {code k : Int} {n : Nat} (hw : RN w want n) (hlen : (digs B32 n).length ≤ 2 ^ 46) (hs : Rd .u64 w s (nn (if code = 0 then digs B64 n else []))) (hc : code = if k = 0 then bigC n else k) :
    Calls pr surdlaw01_same_id #[s.v, .int .i64 code, want.v, .int .i64 k] w fun e w' => Ahead w w' ∧ e = .returned (.bool true) := by
  refine surdlaw01_same_vc s code want k w _ ?_
  refine br_intro (fun hk => ?_) (fun hk => ?_)
  · have hk0 : k = 0 := by simpa using hk
    subst hk0
    rw [if_pos rfl] at hc
    refine Calls.mono (Len_spec hw hlen) ?_
    rintro e w1 ⟨rfl, rfl⟩
    refine ⟨_, rfl, br_intro (fun hb => ?_) (fun hb => ?_)⟩
    · have hb' : 67108864 < bl n := by simp at hb; omega
      have hc3 : code = 3 := by rw [hc, bigC, if_neg (by omega)]
      subst hc3
      rw [if_neg (by omega)] at hs
      refine br_false rfl (br_true rfl ⟨Ahead.refl _, ?_⟩)
      have := hs.n
      simp at this
      rw [this]; rfl
    · have hb' : bl n ≤ 67108864 := by simp at hb; omega
      have hc0 : code = 0 := by rw [hc, bigC, if_pos hb']
      subst hc0
      rw [if_pos rfl] at hs
      refine br_false rfl (br_false rfl ?_)
      refine Calls.mono (Is_spec hw hs (Nat.le_trans (digs_len_bl (m := 2 ^ 20) (by omega)) (by omega))) ?_
      rintro e w2 ⟨ha, rfl⟩
      exact ⟨_, rfl, ha, rfl⟩
  · have hk0 : k ≠ 0 := by simpa using hk
    rw [if_neg hk0] at hc
    subst hc
    rw [if_neg hk0] at hs
    refine br_false (by simp) (br_true (by simpa using hk0) ⟨Ahead.refl _, ?_⟩)
    have := hs.n
    simp at this
    rw [this]; rfl

theorem len32 {l : List Nat} (h : ok B64 l) : (digs B32 (val B64 l)).length ≤ 2 * l.length := by
  refine digs_length_le two32 ?_
  rw [← b64_sq]
  exact val_lt h
theorem digs_own_len {n : Nat} {code : Int} (hc : code = bigC n) : ((if code = 0 then digs B64 n else []).length + 5) * 8 ≤ 2 ^ 47 := by
  subst hc
  unfold bigC
  by_cases h : bl n ≤ 67108864
  · rw [if_pos h, if_pos rfl]
    have := digs_len_bl (N := n) (m := 2 ^ 20) (by omega)
    omega
  · rw [if_neg h, if_neg (by omega)]; simp

theorem digs_add_len {B x y k : Nat} (hB : 2 ≤ B) (hx : (digs B x).length ≤ k) (hy : (digs B y).length ≤ k) : (digs B (x + y)).length ≤ k + 1 := by
  have h : ∀ z, (digs B z).length ≤ k → z < B ^ k := fun z hz => by
    have := val_lt (ok_digs hB z)
    rw [val_digs hB] at this
    exact Nat.lt_of_lt_of_le this (Nat.pow_le_pow_right (by omega) hz)
  refine digs_length_le hB ?_
  have h1 := h x hx
  have h2 := h y hy
  rw [Nat.pow_succ]
  have := Nat.mul_le_mul_left (B ^ k) hB
  omega

theorem NatSums_ok {w : World} {s0 s1 : Slc} {l0 l1 : List Nat} (r0 : Rd .u64 w s0 (nn l0)) (o0 : ok B64 l0) (n0 : l0.length * 8 ≤ 140737488351232)
    (r1 : Rd .u64 w s1 (nn l1)) (o1 : ok B64 l1) (n1 : l1.length * 8 ≤ 140737488351232) :
    Calls pr surdlaw01_NatSums_id #[s0.v, s1.v] w (Yes w) := by
  have hx := len32 o0
  have hy := len32 o1
  have hxy := digs_add_len two32 (x := val B64 l0) (y := val B64 l1) (k := 2 ^ 45) (by omega) (by omega)
  refine surdlaw01_NatSums_vc s0 s1 w _ ?_
  refine Calls.mono (Lend_spec r0 n0 o0) ?_
  rintro e w1 ⟨h1, wa, pa, rfl, la⟩
  refine ⟨_, _, rfl, Calls.mono (Lend_spec (r1.ahead h1) n1 o1) ?_⟩
  rintro e w2 ⟨h2, wb, pb, rfl, lb⟩
  have h02 := h1.trans h2
  refine ⟨_, _, rfl, Calls.mono (Of_spec (r0.ahead h02) n0 o0) ?_⟩
  rintro e w3 ⟨h3, x, rfl, rx⟩
  have h03 := h02.trans h3
  refine ⟨_, rfl, Calls.mono (Of_spec (r1.ahead h03) n1 o1) ?_⟩
  rintro e w4 ⟨h4, y, rfl, ry⟩
  have h04 := h03.trans h4
  have la4 := la.ahead ((h2.trans h3).trans h4)
  have lb4 := lb.ahead (h3.trans h4)
  have rx4 := rx.ahead h4
  have pna : Num w4 pa (val B64 l0) := num_of la4.part o0 n0
  have pnb : Num w4 pb (val B64 l1) := num_of lb4.part o1 n1
  generalize val B64 l0 = X at *
  generalize val B64 l1 = Y at *
  refine ⟨_, rfl, Calls.mono (Nat.add_num pna pnb) ?_⟩
  rintro e w5 ⟨h5, s, rfl, os⟩
  refine ⟨_, _, rfl, Calls.mono (Nat.add_num (pna.ahead h5) (pnb.ahead h5)) ?_⟩
  rintro e w6 ⟨h6, t, rfl, ot⟩
  have h46 := h5.trans h6
  refine ⟨_, _, rfl, Calls.mono (Add_spec (rx4.ahead h46) (ry.ahead h46) (by omega) (by omega)) ?_⟩
  rintro e w7 ⟨h7, z, rfl, rz⟩
  have os7 := (os.ahead h6).ahead h7
  refine ⟨_, rfl, Calls.mono (same_spec rz (by omega) os7.rd (by rw [if_pos rfl])) ?_⟩
  rintro e w8 ⟨h8, rfl⟩
  refine ⟨_, rfl, br_false rfl ?_⟩
  have h68 := h7.trans h8
  have h48 := h46.trans h68
  have hlen := digs_own_len (n := X + Y) rfl
  refine Calls.mono (own_list (base := w4.heap.size) [(s, if bigC (X + Y) = 0 then digs B64 (X + Y) else []), (t, if bigC (X + Y) = 0 then digs B64 (X + Y) else [])] h48.size ?_ ?_ (by simp) rfl rfl) ?_
  · intro p hp
    simp only [List.mem_cons, List.not_mem_nil, or_false] at hp
    rcases hp with rfl | rfl
    · exact ⟨os7.ahead h8, hlen⟩
    · exact ⟨((ot.ahead h68).mono h5.size), hlen⟩
  · simp only [List.pairwise_cons, List.mem_cons, List.not_mem_nil, or_false, forall_eq, List.Pairwise.nil, and_true, false_implies, implies_true]
    exact fun k => old_new os (Nat.le_refl _) ot k
  rintro e w10 ⟨rfl, hb10⟩
  have h410 : Ahead w4 w10 := low_ahead h48 (Nat.le_refl _) hb10
  refine ⟨_, rfl, br_false rfl ?_⟩
  have h010 := h04.trans h410
  refine Calls.mono (Nat.sub_num (pna.ahead h410) (pnb.ahead h410)) ?_
  rintro e w11 ⟨h11, d, rfl, od⟩
  refine ⟨_, _, rfl, Calls.mono (Cmp_spec ((rx4.ahead h410).ahead h11) ((ry.ahead h410).ahead h11) (by omega) (by omega)) ?_⟩
  rintro e w12 ⟨h12, rfl⟩
  have h012 := (h010.trans h11).trans h12
  have h412 := (h410.trans h11).trans h12
  refine ⟨_, rfl, br_intro (fun hlt => ?_) (fun hge => ?_)⟩
  · have hlt' : X < Y := by simpa [cmpI_neg] using hlt
    have hc : subC X Y = 10 := by rw [subC, if_pos hlt']
    rw [hc] at od ⊢
    refine Calls.mono (same_spec (n := 0) RN.nil (by rw [digs_zero]; simp) (code := 10) (k := 10) ?_ (by rw [if_neg (by omega)])) ?_
    · rw [if_neg (by omega)]
      rw [if_neg (by omega)] at od
      exact (od.ahead h12).rd
    rintro e w13 ⟨h13, rfl⟩
    exact ⟨_, rfl, br_true rfl (end_lives (h012.trans h13))⟩
  · have hle : Y ≤ X := by
      simp only [decide_eq_false_iff_not, cmpI_neg] at hge; omega
    have hc : subC X Y = bigC (X - Y) := by rw [subC, if_neg (by omega)]
    rw [hc] at od ⊢
    refine Calls.mono (Sub_spec (rx4.ahead h412) (ry.ahead h412) hle (by omega)) ?_
    rintro e w15 ⟨h15, u, rfl, ru⟩
    have hdl := len_mono two32 (Nat.sub_le X Y)
    have od15 := (od.ahead h12).ahead h15
    refine ⟨_, rfl, Calls.mono (same_spec ru (by omega) od15.rd (by rw [if_pos rfl])) ?_⟩
    rintro e w16 ⟨h16, rfl⟩
    have hlen2 := digs_own_len (n := X - Y) rfl
    have h1016 := ((h11.trans h12).trans h15).trans h16
    refine ⟨_, rfl, br_true rfl ?_⟩
    refine Calls.mono (own_list (base := w10.heap.size) [(d, if bigC (X - Y) = 0 then digs B64 (X - Y) else [])] h1016.size ?_ (by simp) (by simp) rfl rfl) ?_
    · intro p hp
      simp only [List.mem_cons, List.not_mem_nil, or_false] at hp
      subst hp
      exact ⟨od15.ahead h16, hlen2⟩
    rintro e w18 ⟨rfl, hb18⟩
    have h1018 : Ahead w10 w18 := low_ahead h1016 (Nat.le_refl _) hb18
    have h418 := h410.trans h1018
    have h018 := h04.trans h418
    refine ⟨_, rfl, br_true rfl (Calls.mono (Kept_spec (la4.ahead h418).whole (r0.ahead h018) n0) ?_)⟩
    rintro e w19 ⟨rfl, rfl⟩
    refine ⟨_, rfl, br_true rfl (Calls.mono (Kept_spec (lb4.ahead h418).whole (r1.ahead h018) n1) ?_)⟩
    rintro e w20 ⟨rfl, rfl⟩
    exact ⟨_, rfl, br_true rfl (end_lives h018)⟩

end Ref
end Go.Proofs.Ytaflfjbhlgbmdaa
