/- dyadic's Of, Top, Length, Sign; the laws' lent and alike; the law DyadicMakes. No condition: the library's table is a premise. -/
import Derived.Test.YthhbjhdnaopcnaaDoorDy3
import Derived.Test.YthhbjhdnaopcnaaDoorLaw3
namespace Go.Proofs.YthhbjhdnaopcnaaDoor
open Go Go.RowKit Eng Sp Dg
set_option linter.unusedVariables false
set_option linter.unusedSimpArgs false
set_option maxRecDepth 100000
namespace Dy
open _root_.Go.Proofs.YthhbjhdnaopcnaaDoor.Nat (ldN OwnNil Num Num.bl OwnNil.mono bigC bigC_ok digs_len_bl Yes num_of From_spec)
open _root_.Go.Proofs.YthhbjhdnaopcnaaDoor.Ref (RN RN.nil Of_spec Is_spec Len_spec zero_spec Lend_spec Kept_spec Lent Lent.ahead Lent.part Lent.whole Bk own_listV old_new len32)
open Sb

/-! ### Reads where some blocks may change -/
def OffV (V : Nat → Prop) (s : Slc) : Prop := ∀ ad, s.A = some ad → ¬ V ad.block
theorem rd_bar {V : Nat → Prop} {w w' : World} {s : Slc} {l : List Int} (h : Rd .u64 w s l) (hb : Bar V w w') (ho : 0 < l.length → OffV V s) : Rd .u64 w' s l := by
  refine ⟨h.n, h.c, fun i hi => ?_⟩
  obtain ⟨ad, e, hc⟩ := h.get i hi
  exact ⟨ad, e, hb.cell (by rw [add_block]; exact ho (by omega) ad e) hc⟩
theorem rd_lt {w : World} {s : Slc} {l : List Int} (h : Rd .u64 w s l) (hl : 0 < l.length) (ad : Addr) (e : s.A = some ad) : ad.block < w.heap.size := by
  obtain ⟨ad', e', hc⟩ := h.get 0 hl
  rw [e] at e'
  obtain rfl := Option.some.inj e'
  rw [← add_block ad 0]
  unfold World.cell? at hc
  split at hc
  · rename_i hh; exact (Array.getElem?_eq_some_iff.1 hh).1
  · cases hc
theorem bar_ahead {V : Nat → Prop} {w0 w w' : World} (h : Ahead w0 w) (hb : Bar V w w') (hv : ∀ k, k < w0.heap.size → ¬ V k) : Ahead w0 w' :=
  ⟨hb.os.trans h.os, hb.tape.trans h.tape, hb.output.trans h.output, Nat.le_trans h.size hb.size, fun k hk => (hb.block k (Nat.lt_of_lt_of_le hk h.size) (hv k hk)).trans (Below.block h k hk)⟩
theorem zSign_len {w : World} {neg : Bool} {s : Slc} {x : Nat} (h : s.n = (digs B32 x).length) :
    Calls pr surdref06_Z_Sign_id #[.agg (c2 (nD neg x) s)] w fun e w' => Ahead w w' ∧ e = .returned (.int .i64 (sgn neg x)) := by
  have hz0 : ∀ w1, Calls pr surdref01_Num_Zero_id #[s.v] w1 fun e w' => w' = w1 ∧ e = .returned (.bool (decide (x = 0))) := fun w1 =>
    surdref01_Num_Zero_vc s w1 _ ⟨rfl, by
      congr 2
      rw [h]
      by_cases hx : x = 0
      · subst hx; rw [digs_zero]; rfl
      · have : (digs B32 x).length ≠ 0 := fun e => hx (by rw [← val_digs two32 x, List.length_eq_zero_iff.1 e]; rfl)
        rw [decide_eq_false hx]; simpa using this⟩
  refine surdref06_Z_Sign_vc (nD neg x) s w _ (newC_b fun b w1 hb h1 hs1 B1 => ldB_b 0 B1 rfl (br_intro (fun hn => ?_) (fun hn => ?_)))
  · refine ⟨h1, ?_⟩
    unfold nD at hn
    simp only [Bool.and_eq_true, decide_eq_true_eq] at hn
    rw [sgn, if_neg hn.2, hn.1]; rfl
  · refine ldS_b 1 B1 rfl (Calls.mono (hz0 _) ?_)
    rintro e w2 ⟨rfl, rfl⟩
    refine ⟨_, rfl, br_intro (fun hz => ?_) (fun hz => ?_)⟩
    · exact ⟨h1, by rw [sgn, if_pos (by simpa using hz)]⟩
    · have hx : x ≠ 0 := by simpa using hz
      rw [nD_ne hx] at hn
      exact ⟨h1, by rw [sgn, if_neg hx, hn]; rfl⟩
theorem blk_bar {V : Nat → Prop} {w w' : World} {b : Nat} {cs : Array Value} (h : Blk w b cs) (hb : Bar V w w') (hv : ¬ V b) : Blk w' b cs := by
  have hl := h.lt
  obtain ⟨t, h⟩ := h; exact ⟨t, by rw [hb.block b hl hv]; exact h⟩
theorem tab_bar {V : Nat → Prop} {w w' : World} (h : Tab w) (hb : Bar V w w') (hv : ¬ V 0) : Tab w' := fun j hj => hb.cell hv (h j hj)

theorem lent_spec {w : World} {neg : Bool} {s : Slc} {e : Int} {l : List Nat} (h : Rd .u64 w s (nn l)) (hl : l.length * 8 ≤ 140737488351232) (ol : ok B64 l) :
    Calls pr surdlaw08_lent_id #[.agg (c3 neg s e)] w fun en w' => Ahead w w' ∧ ∃ s' t, en = .returned (.tuple #[Slc.v s', .agg (c3 neg t e)]) ∧ Lent w.heap.size w' s' t l := by
  refine surdlaw08_lent_vc neg s e w _ (newC_b fun b1 w1 hb1 h1 hs1 B1 => newC_b fun b2 w2 hb2 h2 hs2 B2 => ?_)
  have h12 := h1.trans h2
  refine ldS_b (x := s) 1 (B1.ahead h2) rfl (Calls.mono (Lend_spec (h.ahead h12) hl ol) ?_)
  rintro en w3 ⟨h3, s', t, rfl, hL⟩
  have B13 := (B1.ahead h2).ahead h3
  refine ⟨_, _, rfl, ldB_b (x := neg) 0 B13 rfl (ldI_b (x := e) 2 B13 rfl ?_)⟩
  have hd := Ahead.drew w3
  refine ret3 ((B2.ahead h3).ahead hd) fun w' u _ => ⟨u.ahead ((h12.trans h3).trans hd) (by have := h1.size; omega), s', t, rfl, ?_⟩
  obtain ⟨b, hb, hc, ho, ht⟩ := hL.ahead hd
  exact ⟨b, by have := h12.size; omega, hc, u.only.own ho (by omega), ht⟩

theorem wOf_spec {w : World} {v : Int} (h0 : -9223372036854775808 ≤ v) (h1 : v ≤ 9223372036854775807) :
    Calls pr whole_Of_id #[.int .i64 v] w fun e w' => Ahead w w' ∧ ∃ s, e = .returned (.agg (c2 (decide (v < 0)) s)) ∧ OwnNil w.heap.size w' s (digs B64 v.natAbs) := by
  have hB := B64v
  refine whole_Of_vc v w _ (newC_b fun b w1 hb h1' hs1 B1 => br_intro (fun hn => ?_) (fun hn => ?_))
  · have hn' : v < 0 := by simpa using hn
    have e1 : IntKind.u64.wrap (0 - IntKind.u64.wrap v) = ((v.natAbs : Nat) : Int) := by
      rw [wrap_u64, wrap_u64]; omega
    rw [e1]
    refine Calls.mono (From_spec (v := v.natAbs) (by omega)) ?_
    rintro e w2 ⟨h2, s, rfl, o⟩
    refine ⟨_, rfl, ret2 (B1.ahead h2) fun w' u _ => ⟨u.ahead (h1'.trans h2) (by omega), s, ?_, (u.own o (by omega)).mono h1'.size⟩⟩
    rw [decide_eq_true hn']
  · have hn' : ¬ v < 0 := by simpa using hn
    have e1 : IntKind.u64.wrap v = ((v.natAbs : Nat) : Int) := by
      rw [wrap_u64]; omega
    rw [e1]
    refine Calls.mono (From_spec (v := v.natAbs) (by omega)) ?_
    rintro e w2 ⟨h2, s, rfl, o⟩
    refine ⟨_, rfl, ret2 (B1.ahead h2) fun w' u _ => ⟨u.ahead (h1'.trans h2) (by omega), s, ?_, (u.own o (by omega)).mono h1'.size⟩⟩
    rw [decide_eq_false hn']

theorem bl64 {v : Nat} (h : v < 18446744073709551616) : bl v ≤ 64 := bl_le h
theorem tC_small {v : Nat} (h : v < 18446744073709551616) : tC v 0 = 0 := by
  have h1 := bl_mono (od_le v)
  have h2 := bl64 h
  have h3 := tz_le v
  rw [tC, if_neg (by omega), if_pos]
  unfold wi eD
  split <;> omega

theorem Of_spec {w : World} {v : Int} (hT : Tab w) (h0 : -9223372036854775808 ≤ v) (h1 : v ≤ 9223372036854775807) :
    Calls pr dyadic_Of_id #[.int .i64 v] w fun e w' => Ahead w w' ∧ ∃ s, e = .returned (.agg (c3 (nD (decide (v < 0)) v.natAbs) s (eD v.natAbs 0))) ∧ OwnNil w.heap.size w' s (digs B64 (od v.natAbs)) := by
  refine dyadic_Of_vc v w _ (newC_b fun b1 w1 hb1 h1' hs1 B1 => Calls.mono (wOf_spec h0 h1) ?_)
  rintro e w2 ⟨h2, s, rfl, o⟩
  have hl : (digs B64 v.natAbs).length ≤ 1 := digs_length_le two64 (by rw [B64v]; omega)
  have hn : Num w2 s v.natAbs := ⟨_, o.rd, by omega, ok_digs two64 _, val_digs two64 _⟩
  have h02 := h1'.trans h2
  refine ⟨_, _, rfl, Calls.mono (told_spec (e := 0) (hT.ahead h02) hn (by omega)) ?_⟩
  rw [tC_small (by omega)]
  rintro e w3 ⟨h3, s3, rfl, o3⟩
  rw [if_pos rfl] at o3
  rw [if_pos rfl, if_pos rfl]
  have h03 := h02.trans h3
  refine ⟨_, _, _, _, rfl, newC_b fun b2 w4 hb2 h4 hs4 B2 => set3 B2 fun w7 u7 C2 => get3 C2 ?_⟩
  have hlt := B1.lt
  have B17 : Blk w7 b1 _ := u7.blk (((B1.ahead h2).ahead h3).ahead h4) (by have := h02.size; have := h2.size; have := h3.size; omega)
  have h07 := u7.ahead (h03.trans h4) (by have := h03.size; omega)
  refine ret3 B17 fun w' u _ => ⟨u.ahead h07 (by omega), s3, rfl, (u.own (u7.own2 o3 h4 (by omega)) (by have := h2.size; omega)).mono h02.size⟩

theorem dSign_spec {w : World} {neg : Bool} {s : Slc} {x : Nat} {e : Int} (h : Num w s x) : Calls pr dyadic_Sign_id #[.agg (c3 neg s e)] w fun en w' => Ahead w w' ∧ en = .returned (.int .i64 (sgn neg x)) := by
  refine dyadic_Sign_vc neg s e w _ (newC_b fun b w1 hb h1 hs1 B1 => get2 B1 rfl rfl (Calls.mono (Sign_spec (h.ahead h1)) ?_))
  rintro en w2 ⟨h2, rfl⟩
  exact ⟨_, rfl, h1.trans h2, rfl⟩

theorem number_top_spec {w : World} {neg : Bool} {s : Slc} {x : Nat} {e : Int} (h : Num w s x) (he : -4611686018427387904 ≤ e ∧ e ≤ 4611686018427387904) :
    Calls pr dyadic_number_top_id #[.agg (c3 neg s e)] w fun en w' => Ahead w w' ∧ en = .returned (.int .i64 (e + bl x - 1)) := by
  have hbl := Num.bl h
  refine dyadic_number_top_vc neg s e w _ (newC_b fun b w1 hb h1 hs1 B1 => ?_)
  have hd := Ahead.drew w1
  have B1' := B1.ahead hd
  refine ldI_b (x := e) 2 B1' rfl (get2 B1' rfl rfl (Calls.mono (part_length_spec (h.ahead (h1.trans hd))) ?_))
  rintro en w2 ⟨h2, rfl⟩
  refine ⟨_, rfl, h2, (h1.trans hd).trans h2, ?_⟩
  rw [wrap_i64 (x := e + _) (by omega) (by omega), wrap_i64 (by omega) (by omega)]

theorem dTop_spec {w : World} {neg : Bool} {s : Slc} {x : Nat} {e : Int} (h : RN w s x) (hl : (digs B32 x).length ≤ 2 ^ 45) (he : -4611686018427387904 ≤ e ∧ e ≤ 4611686018427387904) :
    Calls pr surdref08_D_Top_id #[.agg (c3 neg s e)] w fun en w' => Ahead w w' ∧ en = .returned (.int .i64 (bl x - 1 + e)) := by
  have hbl : bl x ≤ 2 ^ 51 := by
    have := Ref.bl_len32 (ok_digs two32 x)
    rw [val_digs two32] at this
    omega
  refine surdref08_D_Top_vc neg s e w _ (newC_b fun b w1 hb h1 hs1 B1 => ?_)
  have hd := Ahead.drew w1
  have B1' := B1.ahead hd
  refine ldS_b (x := s) 1 B1' rfl (ldI_b (x := e) 2 B1' rfl (Calls.mono (Len_spec (h.ahead (h1.trans hd)) (by omega)) ?_))
  rintro en w2 ⟨rfl, rfl⟩
  refine ⟨_, rfl, Ahead.refl _, h1.trans hd, ?_⟩
  rw [wrap_i64 (x := _ - 1) (by omega) (by omega), wrap_i64 (by omega) (by omega)]

/-- Top's answer's number. -/
def topC (x : Nat) (e : Int) : Int := if wi e then if x = 0 then 1 else 0 else 80
theorem Top_spec {w : World} {neg : Bool} {s : Slc} {x : Nat} {e : Int} (hT : Tab w) (h : Num w s x) :
    Calls pr dyadic_Top_id #[.agg (c3 neg s e)] w fun en w' => Ahead w w' ∧ en = .returned (.tuple #[.int .i64 (if topC x e = 0 then eD x e + bl (od x) - 1 else 0), .int .i64 (topC x e)]) := by
  have hl := num_len h
  have hbl := Num.bl h
  refine dyadic_Top_vc neg s e w _ (newC_b fun b1 w1 hb1 h1 hs1 B1 => get3 B1 (Calls.mono (read_spec (hT.ahead h1) (h.ahead h1)) ?_))
  rintro en w2 ⟨h2, s2, rfl, o2⟩
  have h02 := h1.trans h2
  refine ⟨_, _, _, _, rfl, newC_b fun b2 w3 hb2 h3 hs3 B2 => set3 B2 fun w6 u6 C2 => ?_⟩
  have h06 := u6.ahead (h02.trans h3) (by have := h02.size; omega)
  have o6 := u6.own2 o2 h3 (by omega)
  by_cases hw : wi e
  · rw [if_pos hw] at o6
    rw [if_pos hw, if_pos hw] at C2
    rw [if_pos hw]
    have n6 : Num w6 s2 (od x) := num_od o6 hl
    refine br_false (by simp) (get2 (x := nD neg x) (s := s2) C2 rfl rfl (Calls.mono (part_sign_spec n6) ?_))
    rintro en w7 ⟨h7, rfl⟩
    refine ⟨_, rfl, br_intro (fun hz => ?_) (fun hz => ?_)⟩
    · have hx : x = 0 := od_zero_iff.1 (sgn_zero_iff.1 (by simpa using hz))
      refine ⟨h06.trans h7, ?_⟩
      rw [topC, if_pos hw, if_pos hx, if_neg (by omega)]
    · have hx : x ≠ 0 := fun e0 => by rw [e0, od_zero] at hz; simp [sgn] at hz
      have htz := tz_le x
      refine get3 (C2.ahead h7) (Calls.mono (number_top_spec (n6.ahead h7) (by unfold wi at hw; unfold eD; split <;> omega)) ?_)
      rintro en w8 ⟨h8, rfl⟩
      refine ⟨_, rfl, (h06.trans h7).trans h8, ?_⟩
      rw [topC, if_pos hw, if_neg hx, if_pos rfl]
  · rw [if_neg hw]
    refine br_true (by simp) ⟨h06, ?_⟩
    rw [topC, if_neg hw, if_neg (by omega)]

theorem Length_spec {w : World} {neg : Bool} {s : Slc} {x : Nat} {e : Int} (hT : Tab w) (h : Num w s x) :
    Calls pr dyadic_Length_id #[.agg (c3 neg s e)] w fun en w' => Ahead w w' ∧ en = .returned (.tuple #[.int .i64 (if wi e then bl (od x) else 0 : Nat), .int .i64 (if wi e then 0 else 80)]) := by
  have hl := num_len h
  refine dyadic_Length_vc neg s e w _ (newC_b fun b1 w1 hb1 h1 hs1 B1 => get3 B1 (Calls.mono (read_spec (hT.ahead h1) (h.ahead h1)) ?_))
  rintro en w2 ⟨h2, s2, rfl, o2⟩
  have h02 := h1.trans h2
  refine ⟨_, _, _, _, rfl, newC_b fun b2 w3 hb2 h3 hs3 B2 => set3 B2 fun w6 u6 C2 => ?_⟩
  have h06 := u6.ahead (h02.trans h3) (by have := h02.size; omega)
  have o6 := u6.own2 o2 h3 (by omega)
  have n6 : Num w6 s2 (if wi e then od x else 0) := by
    by_cases hw : wi e
    · rw [if_pos hw] at o6 ⊢
      exact num_od o6 hl
    · rw [if_neg hw] at o6 ⊢
      exact ⟨[], o6.rd, by simp, fun z hz => by simp at hz, rfl⟩
  refine get2 (x := if wi e then nD neg x else false) (s := s2) C2 rfl rfl (Calls.mono (part_length_spec n6) ?_)
  rintro en w7 ⟨h7, rfl⟩
  refine ⟨_, rfl, h06.trans h7, ?_⟩
  by_cases hw : wi e
  · rw [if_pos hw, if_pos hw, if_pos hw]
  · rw [if_neg hw, if_neg hw, if_neg hw, bl_zero]

/-- alike: the answer 'code', of the number n, e (in lowest terms), is the document's: told (f = 0), or the error f. -/
theorem alike_spec {w : World} {neg : Bool} {s t : Slc} {n : Nat} {e e2 code f : Int} {wn : Bool} (hw : RN w t n) (hl : (digs B32 n).length ≤ 2 ^ 46) (hc : code = if f = 0 then tK n e else f) (hwn : f = 0 → wn = neg) (he2 : f = 0 → e2 = e)
    (hs : Rd .u64 w s (nn (if code = 0 then digs B64 n else []))) (hl64 : bl n ≤ 67108864 → (digs B64 n).length ≤ 2 ^ 44) :
    Calls pr surdlaw08_alike_id #[.agg (c3 (if code = 0 then neg else false) s (if code = 0 then e else 0)), .int .i64 code, .agg (c3 wn t e2), .int .i64 f] w fun en w' => Ahead w w' ∧ en = .returned (.bool true) := by
  refine surdlaw08_alike_vc _ s _ code wn t e2 f w _ (newC_b fun b1 w1 hb1 h1 hs1 B1 => newC_b fun b2 w2 hb2 h2 hs2 B2 => ?_)
  have h12 := h1.trans h2
  have B12 := B1.ahead h2
  refine br_intro (fun hf => ?_) (fun hf => ?_)
  · have hf0 : f = 0 := by simpa using hf
    obtain rfl := hwn hf0
    obtain rfl := he2 hf0
    rw [if_pos hf0] at hc
    refine get3 B2 (Calls.mono (dTold_spec (hw.ahead h12) hl) ?_)
    rintro en w3 ⟨h3, x, s', e', rfl, hK⟩
    have h03 := h12.trans h3
    refine ⟨_, _, _, _, rfl, set3 (B2.ahead h3) fun w6 u6 C2 => ?_⟩
    have h06 := u6.ahead h03 (by have := h1.size; omega)
    have B16 : Blk w6 b1 _ := u6.blk (B12.ahead h3) (by omega)
    refine br_intro (fun hx => ?_) (fun hx => ?_)
    · have hx0 : tK n e2 ≠ 0 := by simpa using hx
      rw [hc, if_neg hx0] at hs
      rw [hc, if_neg hx0, if_neg hx0] at B16
      have hsn : s.n = 0 := by rw [hs.n]; rfl
      refine Calls.mono num_spec ?_
      rintro en w7 ⟨rfl, rfl⟩
      refine ⟨_, rfl, br_true (by rw [hc]; simp) (ldB_b (x := false) 0 B16 rfl (br_true rfl (ldS_b (x := s) 1 B16 rfl (br_true (by rw [hsn]; rfl) (ldI_b (x := 0) 2 B16 rfl ⟨h06, rfl⟩)))))⟩
    · have hx0 : tK n e2 = 0 := by simpa using hx
      obtain ⟨rfl, rfl, r'⟩ := hK hx0
      rw [hc, if_pos hx0] at hs
      rw [hc, if_pos hx0, if_pos hx0] at B16
      refine Calls.mono num_spec ?_
      rintro en w7 ⟨rfl, rfl⟩
      refine ⟨_, rfl, br_true (by rw [hc, hx0]; rfl) (get3 C2 (get3 B16 (Calls.mono (dIs_spec (u6.rd _ _ r') (hs.ahead h06) (hl64 (tK_bl hx0))) ?_)))⟩
      rintro en w8 ⟨h8, rfl⟩
      exact ⟨_, rfl, h06.trans h8, rfl⟩
  · have hf0 : f ≠ 0 := by simpa using hf
    rw [if_neg hf0] at hc
    subst hc
    rw [if_neg hf0] at hs
    rw [if_neg hf0, if_neg hf0] at B12
    have hsn : s.n = 0 := by rw [hs.n]; rfl
    refine br_true (by simpa using hf0) (Calls.mono num_spec ?_)
    rintro en w7 ⟨rfl, rfl⟩
    exact ⟨_, rfl, br_true (by simp) (ldB_b (x := false) 0 B12 rfl (br_true rfl (ldS_b (x := s) 1 B12 rfl (br_true (by rw [hsn]; rfl) (ldI_b (x := 0) 2 B12 rfl ⟨h12, rfl⟩)))))⟩

/-! ### The law DyadicMakes -/
theorem alike_make {w : World} {neg wn : Bool} {s t : Slc} {X : Nat} {e e2 : Int} (hX : (digs B64 X).length ≤ 2 ^ 44) (h32 : (digs B32 X).length ≤ 2 ^ 45)
    (hw : wi e → RN w t (od X) ∧ wn = nD neg X ∧ e2 = eD X e) (hw' : ¬ wi e → RN w t 0)
    (hs : Rd .u64 w s (nn (if (if wi e then tC X e else 1) = 0 then digs B64 (od X) else []))) :
    Calls pr surdlaw08_alike_id #[.agg (c3 (if (if wi e then tC X e else 1) = 0 then nD neg X else false) s (if (if wi e then tC X e else 1) = 0 then eD X e else 0)), .int .i64 (if wi e then tC X e else 1), .agg (c3 wn t e2), .int .i64 (if wi e then 0 else 1)] w fun en w' => Ahead w w' ∧ en = .returned (.bool true) := by
  have hod := Ref.len_mono two32 (od_le X)
  by_cases h : wi e
  · obtain ⟨r, rfl, rfl⟩ := hw h
    rw [if_pos h] at hs ⊢
    rw [if_pos h]
    exact alike_spec (f := 0) r (by omega) (by rw [if_pos rfl]; rfl) (fun _ => rfl) (fun _ => rfl) hs (fun _ => Nat.le_trans (Ref.len_mono two64 (od_le X)) hX)
  · have r := hw' h
    rw [if_neg h] at hs ⊢
    rw [if_neg (by omega)] at hs
    rw [if_neg h]
    have := alike_spec (w := w) (neg := nD neg X) (s := s) (t := t) (n := 0) (e := eD X e) (e2 := e2) (code := 1) (f := 1) (wn := wn) r (by rw [digs_zero]; simp) (by rw [if_neg (by omega)]) (fun h => by omega) (fun h => by omega) (by rw [if_neg (by omega)]; exact hs) (fun _ => by rw [digs_zero]; simp)
    rwa [if_neg (by omega), if_neg (by omega)] at this ⊢
theorem ite_len {c : Prop} [Decidable c] {l : List Nat} : (if c then l else []).length ≤ l.length := by split <;> simp
theorem makes_mid {w wi0 : World} {V : Nat → Prop} {R : Ending → World → Prop} {T : World → Prop} {n0 : Bool} {s0 t sw sp so sz sv : Slc} {l0 : List Nat} {X : Nat} {e0 x1 vE f : Int} {vN : Bool} {b1_ b2_ b3_ b4_ b5_ b6_ base : Nat}
    (hTab : Tab w) (hx1 : -9223372036854775808 ≤ x1 ∧ x1 ≤ 9223372036854775807) (hl0 : l0.length * 8 ≤ 140737488351232) (ol : ok B64 l0) (hX : X = val B64 l0)
    (B1 : Blk w b1_ (c3 n0 s0 e0)) (B2 : Blk w b2_ (c3 n0 t e0)) (B3 : Blk w b3_ (c3 (if (if wi e0 then tC X e0 else 1) = 0 then nD n0 X else false) sp (if (if wi e0 then tC X e0 else 1) = 0 then eD X e0 else 0)))
    (B4 : Blk w b4_ (c2 (nD n0 X) sz)) (B5 : Blk w b5_ (c3 vN sv vE)) (B6 : Blk w b6_ (c3 (nD (decide (x1 < 0)) x1.natAbs) so (eD x1.natAbs 0)))
    (hf : f = if wi e0 then 0 else 1) (rv : wi e0 → RN w sv (od X) ∧ vN = nD n0 X ∧ vE = eD X e0) (rv' : ¬ wi e0 → RN w sv 0) (rz : RN w sz X)
    (r0 : Rd .u64 w s0 (nn l0)) (rt : Rd .u64 w t (nn l0)) (rw_ : Rd .u64 w sw (nn (Ref.lent l0)))
    (op : OwnNil base w sp (if (if wi e0 then tC X e0 else 1) = 0 then digs B64 (od X) else [])) (oo : OwnNil base w so (digs B64 (od x1.natAbs))) (hb : base ≤ w.heap.size) (hap : ∀ k, Bk sp k → ¬ Bk so k)
    (hbig : ∀ k, w.heap.size ≤ k → V k) (hsp : ∀ k, Bk sp k → V k) (hso : ∀ k, Bk so k → V k) (v1 : ¬ V b1_) (v2 : ¬ V b2_) (v3 : ¬ V b3_) (v4 : ¬ V b4_) (v5 : ¬ V b5_) (v6 : ¬ V b6_) (vs : 0 < l0.length → OffV V s0) (vw : OffV V sw)
    (hT : ∀ w', Bar V w w' → T w') :
    ∃ V1 : Nat → Prop, Out V1 ⟨b3_, 0, none⟩ (ldB ⟨b3_, 0, none⟩ w.drew fun b11 =>
    ldS ((⟨b3_, 0, none⟩ : Addr).add 1) w.drew fun s11 =>
    ldI .i64 ((⟨b3_, 0, none⟩ : Addr).add 2) w.drew fun x14 =>
    Out V1 ⟨b5_, 0, none⟩ (ldB ⟨b5_, 0, none⟩ w.drew fun b12 =>
      ldS ((⟨b5_, 0, none⟩ : Addr).add 1) w.drew fun s12 =>
      ldI .i64 ((⟨b5_, 0, none⟩ : Addr).add 2) w.drew fun x15 =>
      Calls pr surdlaw08_alike_id #[Value.agg #[Value.bool b11, s11.v, Value.int .i64 x14], Value.int .i64 (if wi e0 then tC X e0 else 1), Value.agg #[Value.bool b12, s12.v, Value.int .i64 x15], Value.int .i64 f] w.drew fun e8 w28 =>
      ∃ b13 : Bool, e8 = .returned (Value.bool b13) ∧
      (Bar V1 w.drew w28 ∧
        (br (!b13)
          (R (.returned (Value.bool false)) w28)
          (Out V1 ⟨b2_, 0, none⟩ (ldB ⟨b2_, 0, none⟩ w28 fun b14 =>
              ldS ((⟨b2_, 0, none⟩ : Addr).add 1) w28 fun s13 =>
              ldI .i64 ((⟨b2_, 0, none⟩ : Addr).add 2) w28 fun x16 =>
              Out V1 ⟨b4_, 0, none⟩ (ldB ⟨b4_, 0, none⟩ w28 fun b15 =>
                ldS ((⟨b4_, 0, none⟩ : Addr).add 1) w28 fun s14 =>
                Calls pr dyadic_Sign_id #[Value.agg #[Value.bool b14, s13.v, Value.int .i64 x16]] w28 fun e9 w29 =>
                ∃ x17 : Int, e9 = .returned (Value.int .i64 x17) ∧
                (Bar V1 w28 w29 ∧
                  (Calls pr surdref06_Z_Sign_id #[Value.agg #[Value.bool b15, s14.v]] w29 fun e10 w30 =>
                    ∃ x18 : Int, e10 = .returned (Value.int .i64 x18) ∧
                    (Bar V1 w29 w30 ∧
                      (br (x17 != x18)
                        (R (.returned (Value.bool false)) w30)
                        (Out V1 ⟨b6_, 0, none⟩ (ldB ⟨b6_, 0, none⟩ w30 fun b16 =>
                            Out V1 ((⟨b6_, 0, none⟩ : Addr).add 1) (ldS ((⟨b6_, 0, none⟩ : Addr).add 1) w30 fun s15 =>
                              Out V1 ((⟨b6_, 0, none⟩ : Addr).add 2) (ldI .i64 ((⟨b6_, 0, none⟩ : Addr).add 2) w30 fun x19 =>
                                Calls pr surdref08_Int_id #[Value.int .i64 x1, Value.int .i64 0] w30 fun e11 w31 =>
                                ∃ b17 : Bool, ∃ s16 : Slc, ∃ x20 : Int, e11 = .returned (Value.agg #[Value.bool b17, s16.v, Value.int .i64 x20]) ∧
                                (Bar V1 w30 w31 ∧
                                  (Calls pr surdref08_D_Is_id #[Value.agg #[Value.bool b17, s16.v, Value.int .i64 x20], Value.bool b16, s15.v, Value.int .i64 x19] w31 fun e12 w32 =>
                                    ∃ b18 : Bool, e12 = .returned (Value.bool b18) ∧
                                    (Bar V1 w31 w32 ∧
                                      (br (!b18)
                                        (R (.returned (Value.bool false)) w32)
                                        (Out V1 ((⟨b3_, 0, none⟩ : Addr).add 1) (ldS ((⟨b3_, 0, none⟩ : Addr).add 1) w32 fun s17 =>
                                            Out V1 ((⟨b6_, 0, none⟩ : Addr).add 1) (ldS ((⟨b6_, 0, none⟩ : Addr).add 1) w32 fun s18 =>
                                              newC w32 #[s17.v, s18.v] tU64s fun ad7 w33 =>
                                              Bar V1 w32 w33 ∧
                                              (Calls pr surdref01_Own_id #[(⟨some ad7, 2, 2⟩ : Slc).v] w33 fun e13 w34 =>
                                                ∃ b19 : Bool, e13 = .returned (Value.bool b19) ∧
                                                (Bar V1 w33 w34 ∧
                                                  (br (!b19)
                                                    (R (.returned (Value.bool false)) w34)
                                                    (Out V1 ((⟨b1_, 0, none⟩ : Addr).add 1) (ldS ((⟨b1_, 0, none⟩ : Addr).add 1) w34 fun s19 =>
                                                        Calls pr surdref01_Kept_id #[sw.v, s19.v] w34 fun e14 w35 =>
                                                        ∃ b20 : Bool, e14 = .returned (Value.bool b20) ∧
                                                        (Bar V1 w34 w35 ∧
                                                          (br (!b20)
                                                            (R (.returned (Value.bool false)) w35)
 (T w35)))))))))))))))))))))))))))))) := by
  have hlX := Nat.len_le ol
  have h32 := len32 ol
  rw [← hX] at hlX h32
  have hd := Ahead.drew w
  have hdod : (digs B64 (od X)).length ≤ l0.length := Nat.le_trans (Ref.len_mono two64 (od_le X)) hlX
  have hv1 : (digs B64 x1.natAbs).length ≤ 1 := digs_length_le two64 (by rw [B64v]; omega)
  have hv1o := Nat.le_trans (Ref.len_mono two64 (od_le x1.natAbs)) hv1
  refine ⟨V, v3, get3 (B3.ahead hd) ⟨v5, get3 (B5.ahead hd) ?_⟩⟩
  rw [hf]
  refine Calls.mono (alike_make (by omega) (by omega) (fun h => by obtain ⟨q1, q2, q3⟩ := rv h; exact ⟨q1.ahead hd, q2, q3⟩) (fun h => (rv' h).ahead hd) (op.ahead hd).rd) ?_
  rintro e w28 ⟨h28, rfl⟩
  have h028 := hd.trans h28
  refine ⟨_, rfl, Bar.of_ahead h28, br_false rfl ⟨v2, get3 (B2.ahead h028) ⟨v4, get2 (B4.ahead h028) rfl rfl ?_⟩⟩⟩
  have nt : Num w t X := by rw [hX]; exact num_of rt ol hl0
  refine Calls.mono (dSign_spec (nt.ahead h028)) ?_
  rintro e w29 ⟨h29, rfl⟩
  have h029 := h028.trans h29
  refine ⟨_, rfl, Bar.of_ahead h29, Calls.mono (zSign_spec (rz.ahead h029)) ?_⟩
  rintro e w30 ⟨h30, rfl⟩
  have h030 := h029.trans h30
  have B630 := B6.ahead h030
  refine ⟨_, rfl, Bar.of_ahead h30, br_false (by simp) ⟨v6, ldB_b 0 B630 rfl ⟨by rw [add_block]; exact v6, ldS_b (x := so) 1 B630 rfl ⟨by rw [add_block]; exact v6, ldI_b (x := eD x1.natAbs 0) 2 B630 rfl ?_⟩⟩⟩⟩
  refine Calls.mono (dInt_spec (e := 0) hx1.1 hx1.2 (by omega)) ?_
  rintro e w31 ⟨h31, s16, rfl, r16⟩
  have h031 := h030.trans h31
  refine ⟨_, _, _, rfl, Bar.of_ahead h31, Calls.mono (dIs_spec r16 (oo.ahead h031).rd (by omega)) ?_⟩
  rintro e w32 ⟨h32', rfl⟩
  have h032 := h031.trans h32'
  refine ⟨_, rfl, Bar.of_ahead h32', br_false rfl ⟨by rw [add_block]; exact v3, ldS_b (x := sp) 1 (B3.ahead h032) rfl ⟨by rw [add_block]; exact v6, ldS_b (x := so) 1 (B6.ahead h032) rfl ?_⟩⟩⟩
  refine ⟨Bar.of_ahead (Ahead.alloc w32 _), ?_⟩
  refine Calls.mono (own_listV (base := base) [(sp, if (if wi e0 then tC X e0 else 1) = 0 then digs B64 (od X) else []), (so, digs B64 (od x1.natAbs))] (by have := h032.size; omega) ?_ ?_ (by simp) rfl rfl) ?_
  · intro z hz
    simp only [List.mem_cons, List.not_mem_nil, or_false] at hz
    rcases hz with rfl | rfl
    · refine ⟨op.ahead h032, ?_⟩
      have := ite_len (c := (if wi e0 then tC X e0 else 1) = 0) (l := digs B64 (od X))
      simp only
      omega
    · exact ⟨oo.ahead h032, by simp only; omega⟩
  · simp only [List.pairwise_cons, List.mem_cons, List.not_mem_nil, or_false, forall_eq_or_imp, forall_eq, List.Pairwise.nil, and_true, false_implies, implies_true]
    exact hap
  rintro e w34 ⟨rfl, hlow, hsz, hkeep⟩
  have hb34 : Bar V w32 w34 := ⟨hlow.os, hlow.tape, hlow.output, hlow.size, fun k hk hv => hkeep k hk fun p hp hbk => by
    simp only [List.mem_cons, List.not_mem_nil, or_false] at hp
    rcases hp with rfl | rfl
    · exact hv (hsp k hbk)
    · exact hv (hso k hbk)⟩
  have b034 : Bar V w w34 := (Bar.of_ahead h032).trans hb34
  refine ⟨_, rfl, ⟨hlow.os, hlow.tape, hlow.output, hsz, fun k hk hv => ?_⟩, br_false rfl ?_⟩
  · rw [size_alloc] at hk
    rcases Nat.lt_or_ge k w32.heap.size with h | h
    · rw [hb34.block k h hv]; exact (Below.heap_alloc _ _ _ h).symm
    · exact absurd (hbig k (by have := h032.size; omega)) hv
  refine ⟨by rw [add_block]; exact v1, ldS_b (x := s0) 1 (blk_bar B1 b034 v1) rfl ?_⟩
  refine Calls.mono (Kept_spec (rd_bar rw_ b034 (fun _ => vw)) (rd_bar r0 b034 (fun h => vs (by simpa using h))) hl0) ?_
  rintro e w35 ⟨rfl, rfl⟩
  exact ⟨_, rfl, Bar.refl _ _, br_false rfl (hT _ b034)⟩
theorem makes_rest {w : World} {tD : TypeId} {R : Ending → World → Prop} {T : Int → Int → Int → Int → World → Prop} {n0 : Bool} {s0 t sw sp sz sv : Slc} {l0 : List Nat} {X : Nat} {e0 x1 vE f : Int} {vN : Bool} {b1_ b2_ b3_ b4_ b5_ base : Nat}
    (hTab : Tab w) (hx1 : -9223372036854775808 ≤ x1 ∧ x1 ≤ 9223372036854775807) (hl0 : l0.length * 8 ≤ 140737488351232) (ol : ok B64 l0) (hX : X = val B64 l0)
    (B1 : Blk w b1_ (c3 n0 s0 e0)) (B2 : Blk w b2_ (c3 n0 t e0)) (B3 : Blk w b3_ (c3 (if (if wi e0 then tC X e0 else 1) = 0 then nD n0 X else false) sp (if (if wi e0 then tC X e0 else 1) = 0 then eD X e0 else 0)))
    (B4 : Blk w b4_ (c2 (nD n0 X) sz)) (B5 : Blk w b5_ (c3 vN sv vE))
    (hf : f = if wi e0 then 0 else 1) (rv : wi e0 → RN w sv (od X) ∧ vN = nD n0 X ∧ vE = eD X e0) (rv' : ¬ wi e0 → RN w sv 0) (rz : RN w sz X)
    (r0 : Rd .u64 w s0 (nn l0)) (rt : Rd .u64 w t (nn l0)) (rw_ : Rd .u64 w sw (nn (Ref.lent l0)))
    (op : OwnNil base w sp (if (if wi e0 then tC X e0 else 1) = 0 then digs B64 (od X) else [])) (hb : base ≤ w.heap.size) (h0p : ¬ Bk sp 0)
    (v1 : ¬ Bk sp b1_) (v2 : ¬ Bk sp b2_) (v3 : ¬ Bk sp b3_) (v4 : ¬ Bk sp b4_) (v5 : ¬ Bk sp b5_) (vs : 0 < l0.length → OffV (Bk sp) s0) (vw : OffV (Bk sp) sw) (hs0 : 0 < l0.length → OffV (fun k => w.heap.size ≤ k) s0) (hsw : OffV (fun k => w.heap.size ≤ k) sw)
    (hT : ∀ w' V, Bar V w w' → ¬ V 0 → ¬ V b4_ → ¬ V b5_ → (∀ k, V k → Bk sp k ∨ w.heap.size ≤ k) →
      T (if topC X e0 = 0 then eD X e0 + bl (od X) - 1 else 0) (topC X e0) (if wi e0 then bl (od X) else 0 : Nat) (if wi e0 then 0 else 80) w') :
    Calls pr dyadic_Of_id #[Value.int .i64 x1] w fun e5 w21 =>
∃ b8 : Bool, ∃ s8 : Slc, ∃ x7 : Int, e5 = .returned (Value.agg #[Value.bool b8, s8.v, Value.int .i64 x7]) ∧
(newC w21 #[Value.bool false, (⟨none, 0, 0⟩ : Slc).v, Value.int .i64 0] tD fun ad6 w22 =>
  stC ad6 (Value.bool b8) w22 fun w23 =>
  stC (ad6.add 1) s8.v w23 fun w24 =>
  stC (ad6.add 2) (Value.int .i64 x7) w24 fun w25 =>
  ldB ⟨b2_, 0, none⟩ w25 fun b9 =>
  ldS ((⟨b2_, 0, none⟩ : Addr).add 1) w25 fun s9 =>
  ldI .i64 ((⟨b2_, 0, none⟩ : Addr).add 2) w25 fun x8 =>
  Calls pr dyadic_Top_id #[Value.agg #[Value.bool b9, s9.v, Value.int .i64 x8]] w25 fun e6 w26 =>
  ∃ x9 : Int, ∃ x10 : Int, e6 = .returned (Value.tuple #[Value.int .i64 x9, Value.int .i64 x10]) ∧
  (ldB ⟨b2_, 0, none⟩ w26 fun b10 =>
    ldS ((⟨b2_, 0, none⟩ : Addr).add 1) w26 fun s10 =>
    ldI .i64 ((⟨b2_, 0, none⟩ : Addr).add 2) w26 fun x11 =>
    Calls pr dyadic_Length_id #[Value.agg #[Value.bool b10, s10.v, Value.int .i64 x11]] w26 fun e7 w27 =>
    ∃ x12 : Int, ∃ x13 : Int, e7 = .returned (Value.tuple #[Value.int .i64 x12, Value.int .i64 x13]) ∧
    (∃ V1 : Nat → Prop, Out V1 ⟨b3_, 0, none⟩ (ldB ⟨b3_, 0, none⟩ w27.drew fun b11 =>
        ldS ((⟨b3_, 0, none⟩ : Addr).add 1) w27.drew fun s11 =>
        ldI .i64 ((⟨b3_, 0, none⟩ : Addr).add 2) w27.drew fun x14 =>
        Out V1 ⟨b5_, 0, none⟩ (ldB ⟨b5_, 0, none⟩ w27.drew fun b12 =>
          ldS ((⟨b5_, 0, none⟩ : Addr).add 1) w27.drew fun s12 =>
          ldI .i64 ((⟨b5_, 0, none⟩ : Addr).add 2) w27.drew fun x15 =>
          Calls pr surdlaw08_alike_id #[Value.agg #[Value.bool b11, s11.v, Value.int .i64 x14], Value.int .i64 (if wi e0 then tC X e0 else 1), Value.agg #[Value.bool b12, s12.v, Value.int .i64 x15], Value.int .i64 f] w27.drew fun e8 w28 =>
          ∃ b13 : Bool, e8 = .returned (Value.bool b13) ∧
          (Bar V1 w27.drew w28 ∧
            (br (!b13)
              (R (.returned (Value.bool false)) w28)
              (Out V1 ⟨b2_, 0, none⟩ (ldB ⟨b2_, 0, none⟩ w28 fun b14 =>
                  ldS ((⟨b2_, 0, none⟩ : Addr).add 1) w28 fun s13 =>
                  ldI .i64 ((⟨b2_, 0, none⟩ : Addr).add 2) w28 fun x16 =>
                  Out V1 ⟨b4_, 0, none⟩ (ldB ⟨b4_, 0, none⟩ w28 fun b15 =>
                    ldS ((⟨b4_, 0, none⟩ : Addr).add 1) w28 fun s14 =>
                    Calls pr dyadic_Sign_id #[Value.agg #[Value.bool b14, s13.v, Value.int .i64 x16]] w28 fun e9 w29 =>
                    ∃ x17 : Int, e9 = .returned (Value.int .i64 x17) ∧
                    (Bar V1 w28 w29 ∧
                      (Calls pr surdref06_Z_Sign_id #[Value.agg #[Value.bool b15, s14.v]] w29 fun e10 w30 =>
                        ∃ x18 : Int, e10 = .returned (Value.int .i64 x18) ∧
                        (Bar V1 w29 w30 ∧
                          (br (x17 != x18)
                            (R (.returned (Value.bool false)) w30)
                            (Out V1 ad6 (ldB ad6 w30 fun b16 =>
                                Out V1 (ad6.add 1) (ldS (ad6.add 1) w30 fun s15 =>
                                  Out V1 (ad6.add 2) (ldI .i64 (ad6.add 2) w30 fun x19 =>
                                    Calls pr surdref08_Int_id #[Value.int .i64 x1, Value.int .i64 0] w30 fun e11 w31 =>
                                    ∃ b17 : Bool, ∃ s16 : Slc, ∃ x20 : Int, e11 = .returned (Value.agg #[Value.bool b17, s16.v, Value.int .i64 x20]) ∧
                                    (Bar V1 w30 w31 ∧
                                      (Calls pr surdref08_D_Is_id #[Value.agg #[Value.bool b17, s16.v, Value.int .i64 x20], Value.bool b16, s15.v, Value.int .i64 x19] w31 fun e12 w32 =>
                                        ∃ b18 : Bool, e12 = .returned (Value.bool b18) ∧
                                        (Bar V1 w31 w32 ∧
                                          (br (!b18)
                                            (R (.returned (Value.bool false)) w32)
                                            (Out V1 ((⟨b3_, 0, none⟩ : Addr).add 1) (ldS ((⟨b3_, 0, none⟩ : Addr).add 1) w32 fun s17 =>
                                                Out V1 (ad6.add 1) (ldS (ad6.add 1) w32 fun s18 =>
                                                  newC w32 #[s17.v, s18.v] tU64s fun ad7 w33 =>
                                                  Bar V1 w32 w33 ∧
                                                  (Calls pr surdref01_Own_id #[(⟨some ad7, 2, 2⟩ : Slc).v] w33 fun e13 w34 =>
                                                    ∃ b19 : Bool, e13 = .returned (Value.bool b19) ∧
                                                    (Bar V1 w33 w34 ∧
                                                      (br (!b19)
                                                        (R (.returned (Value.bool false)) w34)
                                                        (Out V1 ((⟨b1_, 0, none⟩ : Addr).add 1) (ldS ((⟨b1_, 0, none⟩ : Addr).add 1) w34 fun s19 =>
                                                            Calls pr surdref01_Kept_id #[sw.v, s19.v] w34 fun e14 w35 =>
                                                            ∃ b20 : Bool, e14 = .returned (Value.bool b20) ∧
                                                            (Bar V1 w34 w35 ∧
                                                              (br (!b20)
                                                                (R (.returned (Value.bool false)) w35)
 (T x9 x10 x12 x13 w35))))))))))))))))))))))))))))))))) := by
  have hnt : Num w t X := by rw [hX]; exact num_of rt ol hl0
  refine Calls.mono (Of_spec hTab hx1.1 hx1.2) ?_
  rintro e w21 ⟨h21, so, rfl, oo⟩
  refine ⟨_, _, _, rfl, newC_b fun b6 w22 hb6 h22 hs6 B6 => set3 B6 fun w25 u25 C6 => ?_⟩
  have h025 : Ahead w w25 := u25.ahead (h21.trans h22) (by have := h21.size; omega)
  have oo25 := u25.own2 oo h22 (by omega)
  refine get3 (B2.ahead h025) (Calls.mono (Top_spec (hTab.ahead h025) (hnt.ahead h025)) ?_)
  rintro e w26 ⟨h26, rfl⟩
  have h026 := h025.trans h26
  refine ⟨_, _, rfl, get3 (B2.ahead h026) (Calls.mono (Length_spec (hTab.ahead h026) (hnt.ahead h026)) ?_)⟩
  rintro e w27 ⟨h27, rfl⟩
  have h027 := h026.trans h27
  have h2527 := h26.trans h27
  have hso : ∀ k, Bk so k → w.heap.size ≤ k ∧ k < w21.heap.size := by
    intro k hk
    rcases oo with ⟨h1, _⟩ | ⟨b, q1, _, q3⟩
    · rw [h1] at hk; simp [Bk] at hk
    · have : b = k := congrArg Addr.block (Option.some.inj (q3.A.symm.trans hk))
      subst this
      exact ⟨q1, q3.lt⟩
  have hsp : ∀ k, Bk sp k → k < w.heap.size := by
    intro k hk
    rcases op with ⟨h1, _⟩ | ⟨b, q1, _, q3⟩
    · rw [h1] at hk; simp [Bk] at hk
    · have : b = k := congrArg Addr.block (Option.some.inj (q3.A.symm.trans hk))
      subst this
      exact q3.lt
  have out : ∀ {k : Nat}, k < w.heap.size → ¬ Bk sp k → ¬ (w27.heap.size ≤ k ∨ Bk sp k ∨ Bk so k) := by
    intro k hk hv h
    have := h027.size
    rcases h with h | h | h
    · omega
    · exact hv h
    · have := hso k h; omega
  have l1 := B1.lt
  have l2 := B2.lt
  have l3 := B3.lt
  have l4 := B4.lt
  have l5 := B5.lt
  have hb6' : w21.heap.size = b6 := hb6.symm
  have l6 : b6 < w27.heap.size := by have := (C6.ahead h2527).lt; exact this
  have h0 : 0 < w.heap.size := by omega
  refine ⟨_, _, rfl, ?_⟩
  refine makes_mid (base := base) (l0 := l0) (V := fun k => w27.heap.size ≤ k ∨ Bk sp k ∨ Bk so k) (wi0 := w) (hTab.ahead h027) hx1 hl0 ol hX (B1.ahead h027) (B2.ahead h027) (B3.ahead h027) (B4.ahead h027) (B5.ahead h027) (C6.ahead h2527) hf
    (fun h => by obtain ⟨q1, q2, q3⟩ := rv h; exact ⟨q1.ahead h027, q2, q3⟩) (fun h => (rv' h).ahead h027) (rz.ahead h027) (r0.ahead h027) (rt.ahead h027) (rw_.ahead h027) (op.ahead h027) ((oo25.ahead h2527).mono hb) (by have := h027.size; omega) ?_
    (fun k h => .inl h) (fun k h => .inr (.inl h)) (fun k h => .inr (.inr h)) (out l1 v1) (out l2 v2) (out l3 v3) (out l4 v4) (out l5 v5) ?_ ?_ ?_ ?_
  · intro k h1 h2
    have := hsp k h1
    have := hso k h2
    omega
  · intro h
    rcases h with h | h | h
    · omega
    · have := hsp _ h; have := h21.size; omega
    · have := hso _ h; omega
  · intro hl ad had
    have := hs0 hl ad had
    exact out (by omega) (vs hl ad had)
  · intro ad had
    have := hsw ad had
    exact out (by omega) (vw ad had)
  · intro w' hb'
    refine hT w' (fun k => w27.heap.size ≤ k ∨ Bk sp k ∨ Bk so k) ((Bar.of_ahead h027).trans hb') (out h0 h0p) (out l4 v4) (out l5 v5) ?_
    intro k hk
    have := h027.size
    rcases hk with h | h | h
    · exact .inr (by omega)
    · exact .inl h
    · exact .inr (hso k h).1

theorem DyadicMakes_ok {w : World} (hT : Tab w) {n0 : Bool} {s0 : Slc} {e0 : Int} {l0 : List Nat} (r0 : Rd .u64 w s0 (nn l0)) (o0 : ok B64 l0) (z0 : l0.length * 8 ≤ 140737488351232) (he0 : -9223372036854775808 ≤ e0 ∧ e0 ≤ 9223372036854775807)
    {x1 : Int} (hx1 : -9223372036854775808 ≤ x1 ∧ x1 ≤ 9223372036854775807) :
    Calls pr surdlaw08_DyadicMakes_id #[.agg (c3 n0 s0 e0), .int .i64 x1] w (Yes w) := by
  have hlX := Nat.len_le o0
  have h32 := len32 o0
  obtain ⟨X, hX⟩ : ∃ X, X = val B64 l0 := ⟨_, rfl⟩
  rw [← hX] at hlX h32
  have hod32 := Ref.len_mono two32 (od_le X)
  refine surdlaw08_DyadicMakes_vc n0 s0 e0 x1 w _ (newC_b fun b1 w1 hb1 h1 hs1 B1 => get3 B1 (Calls.mono (lent_spec (r0.ahead h1) z0 o0) ?_))
  rintro en w2 ⟨h2, sw, t, rfl, hL⟩
  have h02 := h1.trans h2
  refine ⟨_, _, _, _, rfl, newC_b fun b2 w3 hb2 h3 hs3 B2 => set3 B2 fun w6 u6 C2 => ?_⟩
  have l1 := (B1.ahead h2).lt
  have h06 : Ahead w w6 := u6.ahead (h02.trans h3) (by have := h02.size; omega)
  have B16 : Blk w6 b1 _ := u6.blk ((B1.ahead h2).ahead h3) (by omega)
  obtain ⟨bL, qL1, qL2, qL3, qL4⟩ := hL
  have lL := qL3.lt
  have oL6 := u6.only.own (qL3.ahead h3) (by omega)
  have hL6 : Lent w1.heap.size w6 sw t l0 := ⟨bL, qL1, qL2, oL6, qL4⟩
  have nt6 : Num w6 t X := by rw [hX]; exact num_of hL6.part o0 z0
  have sz6 : w6.heap.size = b2 + 1 := by rw [u6.size, hs3]
  refine get2 (x := n0) (s := t) C2 rfl rfl (ldI_b (x := e0) 2 B16 rfl (Calls.mono (Make_spec (hT.ahead h06) nt6) ?_))
  rintro en w7 ⟨h7, sp, rfl, op⟩
  have h07 := h06.trans h7
  refine ⟨_, _, _, _, rfl, newC_b fun b3 w8 hb3 h8 hs8 B3 => set3 B3 fun w11 u11 C3 => ?_⟩
  have l7 := h7.size
  have h011 : Ahead w w11 := u11.ahead (h07.trans h8) (by have := h07.size; omega)
  have B111 : Blk w11 b1 _ := u11.blk ((B16.ahead h7).ahead h8) (by omega)
  have C211 : Blk w11 b2 _ := u11.blk ((C2.ahead h7).ahead h8) (by omega)
  have op11 := u11.own2 op h8 (by omega)
  have hL11 : Lent w1.heap.size w11 sw t l0 := ⟨bL, qL1, qL2, u11.only.own ((oL6.ahead h7).ahead h8) (by omega), qL4⟩
  have bp : ∀ k, Bk sp k → w6.heap.size ≤ k ∧ k < w7.heap.size := by
    intro k hk
    rcases op with ⟨h1, _⟩ | ⟨b, q1, _, q3⟩
    · rw [h1] at hk; simp [Bk] at hk
    · have : b = k := congrArg Addr.block (Option.some.inj (q3.A.symm.trans hk))
      subst this
      exact ⟨q1, q3.lt⟩
  have sz11 : w11.heap.size = b3 + 1 := by rw [u11.size, hs8]
  refine get2 (x := n0) (s := s0) B111 rfl rfl (Calls.mono (zOf_spec (r0.ahead h011) z0 o0) ?_)
  rw [← hX]
  rintro en w12 ⟨h12, sz, rfl, rz⟩
  have h012 := h011.trans h12
  have l12 := h12.size
  refine ⟨_, _, rfl, newC_b fun b4 w13 hb4 h13 hs13 B4 => set2 B4 fun w15 u15 C4 => ?_⟩
  have h1213 : Ahead w11 w13 := h12.trans h13
  have h015 : Ahead w w15 := u15.ahead (h012.trans h13) (by have := h012.size; omega)
  have B115 : Blk w15 b1 _ := u15.blk (B111.ahead h1213) (by omega)
  have C215 : Blk w15 b2 _ := u15.blk (C211.ahead h1213) (by omega)
  have C315 : Blk w15 b3 _ := u15.blk (C3.ahead h1213) (by omega)
  have op15 := u15.own2 op11 h1213 (by omega)
  have hL15 : Lent w1.heap.size w15 sw t l0 := by
    obtain ⟨b, q1, q2, q3, q4⟩ := hL11
    exact ⟨b, q1, q2, u15.only.own (q3.ahead h1213) (by have := q3.lt; omega), q4⟩
  have rz15 : RN w15 sz X := u15.rd _ _ (rz.ahead h13)
  have sz15 : w15.heap.size = b4 + 1 := by rw [u15.size, hs13]
  refine ldI_b (x := e0) 2 B115 rfl (Calls.mono fit_spec ?_)
  rintro en w16 ⟨rfl, rfl⟩
  have nbp : ∀ {k : Nat}, (k < w6.heap.size ∨ w7.heap.size ≤ k) → ¬ Bk sp k := fun h hk => by have := bp _ hk; omega
  have hbL : OffV (Bk sp) sw := fun ad had hk => by
    have : ad = ⟨bL, 0, none⟩ := Option.some.inj (had.symm.trans qL3.A)
    subst this
    have := bp bL hk
    have := h3.size
    have := u6.size
    omega
  have hs0lt : 0 < l0.length → ∀ ad, s0.A = some ad → ad.block < w.heap.size := fun hl ad had => rd_lt r0 (by simpa using hl) ad had
  have sz0 := h06.size
  refine ⟨_, rfl, br_intro (fun hw => ?_) (fun hw => ?_)⟩
  · have hw' : ¬ wi e0 := by simpa using hw
    refine newC_b fun b5 w17 hb5 h17 hs17 B5 => set3 B5 fun w20 u20 C5 => ?_
    have h020 : Ahead w w20 := u20.ahead (h015.trans h17) (by have := h015.size; omega)
    have sz20 : w20.heap.size = b5 + 1 := by rw [u20.size, hs17]
    have hL20 : Lent w1.heap.size w20 sw t l0 := by
      obtain ⟨b, q1, q2, q3, q4⟩ := hL15
      exact ⟨b, q1, q2, u20.only.own (q3.ahead h17) (by have := q3.lt; omega), q4⟩
    refine makes_rest (base := w6.heap.size) (l0 := l0) (X := X) (n0 := n0) (s0 := s0) (e0 := e0) (t := t) (sz := sz) (sv := ⟨none, 0, 0⟩) (sw := sw) (hT.ahead h020) hx1 z0 o0 hX (u20.blk (B115.ahead h17) (by omega)) (u20.blk (C215.ahead h17) (by omega)) (u20.blk (C315.ahead h17) (by omega)) (u20.blk (C4.ahead h17) (by omega)) C5
      (by rw [if_neg hw']) (fun h => absurd h hw') (fun _ => RN.nil) (u20.rd _ _ (rz15.ahead h17)) (r0.ahead h020) hL20.part hL20.whole (u20.own2 op15 h17 (by omega)) (by omega) (nbp (.inl (by omega))) (nbp (.inl (by omega))) (nbp (.inl (by omega))) (nbp (.inr (by omega))) (nbp (.inr (by omega))) (nbp (.inr (by omega)))
      (fun hl ad had => nbp (.inl (by have := hs0lt hl ad had; omega))) hbL (fun hl ad had => by have := hs0lt hl ad had; have := h020.size; omega) (fun ad had => by
        have : ad = ⟨bL, 0, none⟩ := Option.some.inj (had.symm.trans qL3.A)
        subst this
        have := h3.size
        simp only
        omega) ?_
    intro w' V hb v0 v4 v5 hV
    have ha : Ahead w w' := bar_ahead h020 hb fun k hk hv => by
      rcases hV k hv with h | h
      · have := bp k h; omega
      · have := h020.size; omega
    have ht : topC X e0 = 80 := if_neg hw'
    rw [ht, if_neg (show ¬ (80 : Int) = 0 by omega), if_neg hw', if_neg hw']
    refine Calls.mono num_spec ?_
    rintro e w36 ⟨rfl, rfl⟩
    refine ⟨_, rfl, br_true rfl (Calls.mono num_spec ?_)⟩
    rintro e w37 ⟨rfl, rfl⟩
    exact ⟨_, rfl, br_true rfl (br_true rfl (br_true rfl (end_awake hT ha)))⟩
  · have hw' : wi e0 := by simpa using hw
    refine newC_b fun b5 w39 hb5 h39 hs39 B5 => set3 B5 fun w42 u42 C5 => ?_
    have h042 : Ahead w w42 := u42.ahead (h015.trans h39) (by have := h015.size; omega)
    have sz42 : w42.heap.size = b5 + 1 := by rw [u42.size, hs39]
    have B142 : Blk w42 b1 _ := u42.blk (B115.ahead h39) (by omega)
    have C242 : Blk w42 b2 _ := u42.blk (C215.ahead h39) (by omega)
    have C342 : Blk w42 b3 _ := u42.blk (C315.ahead h39) (by omega)
    have C442 : Blk w42 b4 _ := u42.blk (C4.ahead h39) (by omega)
    have rz42 : RN w42 sz X := u42.rd _ _ (rz15.ahead h39)
    have op42 := u42.own2 op15 h39 (by omega)
    have hL42 : Lent w1.heap.size w42 sw t l0 := by
      obtain ⟨b, q1, q2, q3, q4⟩ := hL15
      exact ⟨b, q1, q2, u42.only.own (q3.ahead h39) (by have := q3.lt; omega), q4⟩
    refine get2 (x := nD n0 X) (s := sz) C442 rfl rfl (ldI_b (x := e0) 2 B142 rfl (Calls.mono (dOf_specN rz42 (by omega) (by unfold wi at hw'; omega)) ?_))
    rintro en w43 ⟨h43, sv, rfl, rv, fv⟩
    refine ⟨_, _, _, rfl, set3 (C5.ahead h43) fun w46 u46 C546 => ?_⟩
    have h046 : Ahead w w46 := u46.ahead (h042.trans h43) (by have := h042.size; omega)
    have sz46 : w46.heap.size = w43.heap.size := u46.size
    have l43 := h43.size
    have l7' : w7.heap.size ≤ b3 := by omega
    have hL46 : Lent w1.heap.size w46 sw t l0 := by
      obtain ⟨b, q1, q2, q3, q4⟩ := hL42
      have : b ≠ b5 := fun e => by
        have : bL = b := congrArg Addr.block (Option.some.inj (qL3.A.symm.trans q3.A))
        have := h3.size
        omega
      exact ⟨b, q1, q2, u46.only.own (q3.ahead h43) this, q4⟩
    have op46 : OwnNil w6.heap.size w46 sp (if (if wi e0 then tC X e0 else 1) = 0 then digs B64 (od X) else []) := by
      rcases op42 with h | ⟨b, q1, q2, q3⟩
      · exact .inl h
      · have := bp b q3.A
        exact .inr ⟨b, q1, q2, u46.only.own (q3.ahead h43) (by omega)⟩
    refine makes_rest (base := w6.heap.size) (l0 := l0) (X := X) (n0 := n0) (s0 := s0) (e0 := e0) (t := t) (sz := sz) (sv := sv) (sw := sw) (hT.ahead h046) hx1 z0 o0 hX (u46.blk (B142.ahead h43) (by omega)) (u46.blk (C242.ahead h43) (by omega)) (u46.blk (C342.ahead h43) (by omega)) (u46.blk (C442.ahead h43) (by omega)) C546
      (by rw [if_pos hw']) (fun h => ⟨u46.rd _ _ rv, rfl, rfl⟩) (fun h => absurd hw' h) (u46.rd _ _ (rz42.ahead h43)) (r0.ahead h046) hL46.part hL46.whole op46 (by omega) (nbp (.inl (by omega))) (nbp (.inl (by omega))) (nbp (.inl (by omega))) (nbp (.inr (by omega))) (nbp (.inr (by omega))) (nbp (.inr (by omega)))
      (fun hl ad had => nbp (.inl (by have := hs0lt hl ad had; omega))) hbL (fun hl ad had => by have := hs0lt hl ad had; have := h046.size; omega) (fun ad had => by
        have : ad = ⟨bL, 0, none⟩ := Option.some.inj (had.symm.trans qL3.A)
        subst this
        have := h3.size
        simp only
        omega) ?_
    intro w' V hb v0 v4 v5 hV
    have ha : Ahead w w' := bar_ahead h046 hb fun k hk hv => by
      rcases hV k hv with h | h
      · have := bp k h; omega
      · have := h046.size; omega
    have C4' : Blk w' b4 _ := blk_bar (u46.blk (C442.ahead h43) (by omega)) hb v4
    have C5' : Blk w' b5 _ := blk_bar C546 hb v5
    refine get2 (x := nD n0 X) (s := sz) C4' rfl rfl (Calls.mono (zSign_len rz.n) ?_)
    rintro e w62 ⟨h62, rfl⟩
    have ha62 := ha.trans h62
    refine ⟨_, rfl, br_intro (fun hz => ?_) (fun hz => ?_)⟩
    · have hx : X = 0 := sgn_zero_iff.1 (by simpa using hz)
      have ht : topC X e0 = 1 := by rw [topC, if_pos hw', if_pos hx]
      rw [ht, if_neg (show ¬ (1 : Int) = 0 by omega), if_pos hw', if_pos hw', hx, od_zero, bl_zero]
      refine Calls.mono num_spec ?_
      rintro e w63 ⟨rfl, rfl⟩
      refine ⟨_, rfl, br_true rfl (br_true rfl (Calls.mono num_spec ?_))⟩
      rintro e w64 ⟨rfl, rfl⟩
      exact ⟨_, rfl, br_true rfl (br_true rfl (end_awake hT ha62))⟩
    · have hx : X ≠ 0 := fun e0 => by rw [e0] at hz; simp [sgn] at hz
      have ht : topC X e0 = 0 := by rw [topC, if_pos hw', if_neg hx]
      rw [ht, if_pos rfl, if_pos hw', if_pos hw']
      have hne : 0 < (nn (digs B32 (od X))).length := by
        rw [nn_length]
        rcases Nat.eq_zero_or_pos (digs B32 (od X)).length with h | h
        · exact absurd (by rw [← val_digs two32 (od X), List.length_eq_zero_iff.1 h]; rfl) (od_ne hx)
        · exact h
      have rv' : RN w' sv (od X) := rd_bar (u46.rd _ _ rv) hb fun _ ad had hv => by
        have f1 := fv ad had
        have f2 := rd_lt (u46.rd _ _ rv) hne ad had
        rcases hV _ hv with h | h
        · have := bp _ h; omega
        · omega
      have htz := tz_le X
      have hbX : bl X ≤ 2 ^ 50 := Num.bl nt6
      refine Calls.mono num_spec ?_
      rintro e w66 ⟨rfl, rfl⟩
      refine ⟨_, rfl, br_true rfl (get3 (C5'.ahead h62) (Calls.mono (dTop_spec (rv'.ahead h62) (by omega) (by unfold wi at hw'; unfold eD; split <;> omega)) ?_))⟩
      rintro e w67 ⟨h67, rfl⟩
      refine ⟨_, rfl, br_true (by simp; omega) (Calls.mono num_spec ?_)⟩
      rintro e w68 ⟨rfl, rfl⟩
      refine ⟨_, rfl, br_true rfl (ldS_b (x := sv) 1 ((C5'.ahead h62).ahead h67) rfl (Calls.mono (Len_spec ((rv'.ahead h62).ahead h67) (by omega)) ?_))⟩
      rintro e w69 ⟨rfl, rfl⟩
      exact ⟨_, rfl, br_true (by simp) (end_awake hT (ha62.trans h67))⟩
end Dy
end Go.Proofs.YthhbjhdnaopcnaaDoor
