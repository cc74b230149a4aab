/- mul's School and Karatsuba, and the law MulProducts. No condition. -/
import Derived.Test.YtindbeolpjkijaaMul7
import Derived.Test.YtindbeolpjkijaaVcMul2
namespace Go.Proofs.Ytindbeolpjkijaa
open Go Go.RowKit Eng Sp Dg
set_option linter.unusedVariables false
set_option linter.unusedSimpArgs false
set_option maxRecDepth 100000
namespace Mul
open _root_.Go.Proofs.Ytindbeolpjkijaa.Nat (Num OwnNil Ret bigC bigC_ok digs_len_bl Yes num_of Norm_spec)
open _root_.Go.Proofs.Ytindbeolpjkijaa.Ref (RN Lend_spec Of_spec Kept_spec own_list old_new digs_own_len low_ahead)

theorem prod_core {w : World} {a b : Slc} {x y : Nat} (ha : Num w a x) (hb : Num w b y) (la : (digs B64 x).length + 16 ≤ 2 ^ 44) (lb : (digs B64 y).length + 16 ≤ 2 ^ 44) (g : Nat) (args : Slc → Slc → Array Value)
    (hg : ∀ (w3 : World) (s t : Slc), Ahead w w3 → Rd .u64 w3 s (nn (digs B64 x)) → Rd .u64 w3 t (nn (digs B64 y)) → (digs B64 x).length + (digs B64 y).length + 16 ≤ 2 ^ 44 →
      Calls pr g (args s t) w3 (Res w3 (x * y) ((digs B64 x).length + (digs B64 y).length + 1))) :
    Calls pr nat_Norm_id #[a.v] w fun e1 w1 => ∃ s1 : Slc, e1 = .returned s1.v ∧
      (Calls pr nat_Norm_id #[b.v] w1 fun e2 w2 => ∃ s2 : Slc, e2 = .returned s2.v ∧
        (Calls pr mul_great_id #[s1.v, s2.v] w2 fun e3 w3 => ∃ b1 : Bool, e3 = .returned (Value.bool b1) ∧
          (br b1 (Ret w (bigC (x * y)) (x * y) (.returned (Value.tuple #[(⟨none, 0, 0⟩ : Slc).v, Value.int .i64 3])) w3)
            (Calls pr g (args s1 s2) w3 fun e4 w4 => ∃ s3 : Slc, e4 = .returned s3.v ∧
              (Calls pr mul_fits_id #[s3.v] w4 fun e5 w5 => ∃ s4 : Slc, ∃ x1 : Int, e5 = .returned (Value.tuple #[s4.v, Value.int .i64 x1]) ∧
                (Ret w (bigC (x * y)) (x * y) (.returned (Value.tuple #[s4.v, Value.int .i64 x1])) w5)))))) := by
  obtain ⟨l, ra, na, oa, rfl⟩ := ha
  obtain ⟨m, rb, nb, ob, rfl⟩ := hb
  refine (Calls.mono (Norm_spec ra na oa) ?_)
  rintro e w1 ⟨h1, s, rfl, os⟩
  refine ⟨_, rfl, Calls.mono (Norm_spec (rb.ahead h1) nb ob) ?_⟩
  rintro e w2 ⟨h2, t, rfl, ot⟩
  have h12 := h1.trans h2
  have rs := (os.ahead h2).rd
  have rt := ot.rd
  have ns : Num w2 s (val B64 l) := ⟨_, rs, by omega, ok_digs two64 _, val_digs two64 _⟩
  have nt : Num w2 t (val B64 m) := ⟨_, rt, by omega, ok_digs two64 _, val_digs two64 _⟩
  generalize val B64 l = x at *
  generalize val B64 m = y at *
  refine ⟨_, rfl, Calls.mono (great_spec ns nt) ?_⟩
  rintro e w3 ⟨rfl, c, rfl, hc⟩
  refine ⟨_, rfl, br_intro (fun h => ?_) (fun h => ?_)⟩
  · obtain ⟨h3, h4, h5⟩ := hc.1 h
    have := bl_mul h3 h4
    have hcc : bigC (x * y) = 3 := by rw [bigC, if_neg (by omega)]
    rw [hcc]
    exact ⟨h12, _, rfl, by rw [if_neg (by omega)]; exact Or.inl ⟨rfl, rfl⟩⟩
  · have hsz : (digs B64 x).length + (digs B64 y).length + 16 ≤ 2 ^ 44 := by
      by_cases hx : x = 0
      · subst hx; rw [digs_zero]; simp; omega
      · by_cases hy : y = 0
        · subst hy; rw [digs_zero]; simp; omega
        · have hbl : bl x + bl y - 1 ≤ 67108864 := by
            rcases Nat.lt_or_ge 67108864 (bl x + bl y - 1) with h6 | h6
            · have := hc.2 ⟨hx, hy, h6⟩; rw [h] at this; cases this
            · exact h6
          have p1 := bl_pos hx
          have p2 := bl_pos hy
          have := digs_len_bl (N := x) (m := 2 ^ 21) (by omega)
          have := digs_len_bl (N := y) (m := 2 ^ 21) (by omega)
          omega
    refine Calls.mono (hg w3 s t h12 rs rt hsz) ?_
    rintro e w4 ⟨h4, u, L, rfl, ou, nu, ku, vu⟩
    refine ⟨_, rfl, Calls.mono (fits_spec ou.rd (by omega) ku) ?_⟩
    rw [vu]
    rintro e w5 ⟨h5, v, rfl, ov⟩
    have hsz := (h12.trans h4).size
    exact ⟨_, _, rfl, (h12.trans h4).trans h5, _, rfl, ov.mono hsz⟩

theorem School_spec {w : World} {a b : Slc} {x y : Nat} (ha : Num w a x) (hb : Num w b y) (la : (digs B64 x).length + 16 ≤ 2 ^ 44) (lb : (digs B64 y).length + 16 ≤ 2 ^ 44) :
    Calls pr mul_School_id #[a.v, b.v] w (Ret w (bigC (x * y)) (x * y)) := by
  refine mul_School_vc a b w _ (mul_product__mul_school_vc a b w _ ?_)
  refine Calls.mono (prod_core ha hb la lb mul_school_id (fun s t => #[s.v, t.v]) ?_) ?_
  · intro w3 s t h3 rs rt hs
    refine Calls.mono (school_spec rs rt (ok_digs two64 _) (ok_digs two64 _) (by omega)) ?_
    rintro e w4 ⟨h4, u, l, rfl, ou, hl, ol, hv⟩
    rw [val_digs two64, val_digs two64] at hv
    exact ⟨h4, u, l, rfl, ou, by omega, ol, hv⟩
  · rintro e w1 ⟨s1, rfl, h1⟩
    refine ⟨s1, rfl, Calls.mono h1 ?_⟩
    rintro e w2 ⟨s2, rfl, h2⟩
    refine ⟨s2, rfl, Calls.mono h2 ?_⟩
    rintro e w3 ⟨c, rfl, h3⟩
    refine ⟨c, rfl, ?_⟩
    cases c
    · refine br_false rfl (Calls.mono (show Calls _ _ _ _ _ from h3) ?_)
      rintro e w4 ⟨s3, rfl, h4⟩
      refine ⟨s3, rfl, Calls.mono h4 ?_⟩
      rintro e w5 ⟨s4, c, rfl, h5⟩
      exact ⟨_, _, rfl, _, _, rfl, h5⟩
    · exact br_true rfl ⟨_, _, rfl, h3⟩

/-- Karatsuba's answer: the program's cut below 2 is refused. -/
def karaC (cut : Int) (n : Nat) : Int := if cut < 2 then 1 else bigC n

theorem Karatsuba_spec {w : World} {a b : Slc} {x y : Nat} {cut : Int} (ha : Num w a x) (hb : Num w b y) (la : (digs B64 x).length + 16 ≤ 2 ^ 44) (lb : (digs B64 y).length + 16 ≤ 2 ^ 44)
    (hcut : cut ≤ 9223372036854775807) : Calls pr mul_Karatsuba_id #[a.v, b.v, .int .i64 cut] w (Ret w (karaC cut (x * y)) (x * y)) := by
  refine mul_Karatsuba_vc a b cut w _ ?_
  have h1 := Ahead.alloc w (.cells #[Value.int .i64 cut] tInt (0, 0))
  have r1 := lit_rd .i64 tInt w [cut]
  have hcell : (w.alloc (.cells #[Value.int .i64 cut] tInt (0, 0))).cell? ⟨w.heap.size, 0, none⟩ = some (.int .i64 cut) := by
    rw [World.cell?, get_alloc]; rfl
  refine ⟨cut, hcell, br_intro (fun hlt => ?_) (fun hge => ?_)⟩
  · have hc : karaC cut (x * y) = 1 := if_pos (by simpa using hlt)
    rw [hc]
    exact ⟨h1, _, rfl, by rw [if_neg (by omega)]; exact Or.inl ⟨rfl, rfl⟩⟩
  have hc : karaC cut (x * y) = bigC (x * y) := if_neg (by simpa using hge)
  rw [hc]
  refine mul_product__mul_Karatsuba_1_vc a b ⟨w.heap.size, 0, none⟩ _ _ ?_
  refine Calls.mono (prod_core (ha.ahead h1) (hb.ahead h1) la lb mul_Karatsuba_1_id (fun s t => #[s.v, t.v, .pointer (some ⟨w.heap.size, 0, none⟩)]) ?_) ?_
  · intro w3 s t h3 rs rt hs
    refine mul_Karatsuba_1_vc s t ⟨w.heap.size, 0, none⟩ w3 _ ⟨cut, h3.cell hcell, ?_⟩
    have hm : maxI cut 4 = if 4 > cut then 4 else cut := by unfold maxI; rfl
    refine Calls.mono (halved_spec _ w3 s _ rs (ok_digs two64 x) t _ rt (ok_digs two64 y) (maxI cut 4) (by rw [hm]; split <;> omega) (by rw [hm]; split <;> omega) (by omega) (Nat.le_refl _)) ?_
    rintro e w4 ⟨h4, u, L, rfl, ou, nu, ku, vu⟩
    rw [val_digs two64, val_digs two64] at vu
    exact ⟨_, rfl, h4, u, L, rfl, ou, nu, ku, vu⟩
  · rintro e w1 ⟨s1, rfl, h1'⟩
    refine ⟨s1, rfl, Calls.mono h1' ?_⟩
    rintro e w2 ⟨s2, rfl, h2⟩
    refine ⟨s2, rfl, Calls.mono h2 ?_⟩
    rintro e w3 ⟨c, rfl, h3⟩
    refine ⟨c, rfl, ?_⟩
    have fin : ∀ {code : Int} {e : Ending} {w' : World}, Ret (w.alloc (.cells #[Value.int .i64 cut] tInt (0, 0))) code (x * y) e w' → Ret w code (x * y) e w' := by
      rintro code e w' ⟨ha', s, rfl, ho⟩
      exact ⟨h1.trans ha', s, rfl, ho.mono h1.size⟩
    cases c
    · refine br_false rfl (Calls.mono (show Calls _ _ _ _ _ from h3) ?_)
      rintro e w4 ⟨s3, rfl, h4⟩
      refine ⟨s3, rfl, Calls.mono h4 ?_⟩
      rintro e w5 ⟨s4, c, rfl, h5⟩
      exact ⟨_, _, rfl, _, _, rfl, fin h5⟩
    · exact br_true rfl ⟨_, _, rfl, fin h3⟩

theorem MulProducts_ok {w : World} {s0 s1 : Slc} {l0 l1 : List Nat} {x2 : Int} (r0 : Rd .u64 w s0 (nn l0)) (o0 : ok B64 l0) (n0 : l0.length * 8 ≤ 140737488351232)
    (r1 : Rd .u64 w s1 (nn l1)) (o1 : ok B64 l1) (n1 : l1.length * 8 ≤ 140737488351232) (hcut : -9223372036854775808 ≤ x2 ∧ x2 ≤ 9223372036854775807) :
    Calls pr surdlaw02_MulProducts_id #[s0.v, s1.v, .int .i64 x2] w (Yes w) := by
  have hx := len32 o0
  have hy := len32 o1
  have hdx := Nat.len_le o0
  have hdy := Nat.len_le o1
  refine surdlaw02_MulProducts_vc s0 s1 x2 w _ ?_
  refine Calls.mono (Lend_spec r0 n0 o0) ?_
  rintro e w1 ⟨h1, wa, pa, rfl, la⟩
  refine ⟨_, _, rfl, Calls.mono (Lend_spec (r1.ahead h1) n1 o1) ?_⟩
  rintro e w2 ⟨h2, wb, pb, rfl, lb⟩
  have h02 := h1.trans h2
  refine ⟨_, _, rfl, Calls.mono (Of_spec (r0.ahead h02) n0 o0) ?_⟩
  rintro e w3 ⟨h3, x, rfl, rx⟩
  have h03 := h02.trans h3
  refine ⟨_, rfl, Calls.mono (Of_spec (r1.ahead h03) n1 o1) ?_⟩
  rintro e w4 ⟨h4, y, rfl, ry⟩
  have h04 := h03.trans h4
  have la4 := la.ahead ((h2.trans h3).trans h4)
  have lb4 := lb.ahead (h3.trans h4)
  have rx4 := rx.ahead h4
  have pna : Num w4 pa (val B64 l0) := num_of la4.part o0 n0
  have pnb : Num w4 pb (val B64 l1) := num_of lb4.part o1 n1
  generalize val B64 l0 = X at *
  generalize val B64 l1 = Y at *
  refine ⟨_, rfl, Calls.mono (refMul_spec rx4 ry (by omega) (by omega)) ?_⟩
  rintro e w5 ⟨h5, v, rfl, rv⟩
  refine ⟨_, _, rfl, Calls.mono (Mul_spec (pna.ahead h5) (pnb.ahead h5) (by omega) (by omega)) ?_⟩
  rintro e w6 ⟨h6, p, rfl, op⟩
  have h46 := h5.trans h6
  refine ⟨_, _, rfl, Calls.mono (School_spec (pna.ahead h46) (pnb.ahead h46) (by omega) (by omega)) ?_⟩
  rintro e w7 ⟨h7, q, rfl, oq⟩
  have h47 := h46.trans h7
  refine ⟨_, _, rfl, Calls.mono (Karatsuba_spec (pna.ahead h47) (pnb.ahead h47) (by omega) (by omega) hcut.2) ?_⟩
  rintro e w8 ⟨h8, r, rfl, or_⟩
  have h48 := h47.trans h8
  have rv8 : bigC (X * Y) = 0 → RN w8 v (X * Y) := fun hc => ((rv hc).ahead ((h6.trans h7).trans h8))
  refine ⟨_, _, rfl, Calls.mono (alike_spec ((op.ahead h7).ahead h8).rd rv8 bigC_bl) ?_⟩
  rintro e w9 ⟨h9, rfl⟩
  refine ⟨_, rfl, br_false rfl (Calls.mono (alike_spec ((oq.ahead h8).ahead h9).rd (fun hc => (rv8 hc).ahead h9) bigC_bl) ?_)⟩
  rintro e w10 ⟨h10, rfl⟩
  have h810 := h9.trans h10
  have h410 := h48.trans h810
  have h010 := h04.trans h410
  refine ⟨_, rfl, br_false rfl (Calls.mono (Kept_spec (la4.ahead h410).whole (r0.ahead h010) n0) ?_)⟩
  rintro e w11 ⟨rfl, rfl⟩
  refine ⟨_, rfl, br_false rfl (Calls.mono (Kept_spec (lb4.ahead h410).whole (r1.ahead h010) n1) ?_)⟩
  rintro e w12 ⟨rfl, rfl⟩
  refine ⟨_, rfl, br_false rfl (Calls.mono (awake_spec _) ?_)⟩
  rintro e w13 ⟨rfl, h13⟩
  have h813 := h810.trans h13
  have h413 := h48.trans h813
  have h013 := h04.trans h413
  refine ⟨_, rfl, br_false rfl (br_intro (fun hlt => ?_) (fun hge => ?_))⟩
  · have hc : karaC x2 (X * Y) = 1 := if_pos (by simpa using hlt)
    rw [hc] at or_ ⊢
    rw [if_neg (by omega)] at or_
    have hn := or_.rd.n
    refine Calls.mono num_spec ?_
    rintro e w14 ⟨rfl, rfl⟩
    refine ⟨_, rfl, br_true rfl ⟨?_, h013⟩⟩
    simp at hn
    rw [hn]; rfl
  · have hc : karaC x2 (X * Y) = bigC (X * Y) := if_neg (by simpa using hge)
    rw [hc] at or_ ⊢
    have or13 := or_.ahead h813
    refine Calls.mono (alike_spec or13.rd (fun hc => (rv8 hc).ahead h813) bigC_bl) ?_
    rintro e w15 ⟨h15, rfl⟩
    have h815 := h813.trans h15
    have h415 := h48.trans h815
    have hlen := digs_own_len (n := X * Y) rfl
    refine ⟨_, rfl, br_true rfl ?_⟩
    refine Calls.mono (own_list (base := w4.heap.size) [(p, if bigC (X * Y) = 0 then digs B64 (X * Y) else []), (q, if bigC (X * Y) = 0 then digs B64 (X * Y) else []), (r, if bigC (X * Y) = 0 then digs B64 (X * Y) else [])] h415.size ?_ ?_ (by simp) rfl rfl) ?_
    · intro z hz
      simp only [List.mem_cons, List.not_mem_nil, or_false] at hz
      rcases hz with rfl | rfl | rfl
      · exact ⟨(((op.ahead h7).ahead h8).ahead h815).mono h5.size, hlen⟩
      · exact ⟨((oq.ahead h8).ahead h815).mono h46.size, hlen⟩
      · exact ⟨(or_.ahead h815).mono h47.size, hlen⟩
    · simp only [List.pairwise_cons, List.mem_cons, List.not_mem_nil, or_false, forall_eq_or_imp, forall_eq, List.Pairwise.nil, and_true, false_implies, implies_true]
      exact ⟨⟨fun k => old_new op (Nat.le_refl _) oq k, fun k => old_new op h7.size or_ k⟩, fun k => old_new oq (Nat.le_refl _) or_ k⟩
    rintro e w17 ⟨rfl, hb17⟩
    have h417 : Ahead w4 w17 := low_ahead h415 (Nat.le_refl _) hb17
    exact ⟨_, rfl, rfl, h04.trans h417⟩

end Mul
end Go.Proofs.Ytindbeolpjkijaa
