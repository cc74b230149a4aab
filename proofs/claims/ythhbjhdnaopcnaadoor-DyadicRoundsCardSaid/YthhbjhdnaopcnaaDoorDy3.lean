/- The law DyadicScales. No condition: the library's table is a premise. -/
import Derived.Test.YthhbjhdnaopcnaaDoorDy2
namespace Go.Proofs.YthhbjhdnaopcnaaDoor
open Go Go.RowKit Eng Sp Dg
set_option linter.unusedVariables false
set_option linter.unusedSimpArgs false
set_option maxRecDepth 100000
namespace Dy
open _root_.Go.Proofs.YthhbjhdnaopcnaaDoor.Nat (ldN OwnNil Num Num.bl OwnNil.mono bigC bigC_ok digs_len_bl Yes num_of)
open _root_.Go.Proofs.YthhbjhdnaopcnaaDoor.Ref (RN RN.nil Of_spec Is_spec Len_spec zero_spec)
open Sb

theorem same_spec {w : World} {neg : Bool} {s t : Slc} {x : Nat} {e : Int} (hs : Rd .u64 w s (nn (digs B64 x))) (ht : Rd .u64 w t (nn (digs B64 x))) (hl : (digs B64 x).length * 8 ≤ 140737488351232) (hn : nD neg x = neg) :
    Calls pr surdlaw08_same_id #[.agg (c3 neg s e), .agg (c3 neg t e)] w fun en w' => Ahead w w' ∧ en = .returned (.bool true) := by
  refine surdlaw08_same_vc neg s e neg t e w _ (newC_b fun b1 w1 hb1 h1 hs1 B1 => newC_b fun b2 w2 hb2 h2 hs2 B2 => ?_)
  have hd := Ahead.drew w2
  have h02 := (h1.trans h2).trans hd
  refine get2 ((B1.ahead h2).ahead hd) rfl rfl (get2 (B2.ahead hd) rfl rfl (Calls.mono (zOf_spec (hs.ahead h02) hl (ok_digs two64 _)) ?_))
  rw [val_digs two64, hn]
  rintro en w3 ⟨h3, s3, rfl, r3⟩
  have h03 := h02.trans h3
  refine ⟨_, _, rfl, h3, Calls.mono (zIs_spec r3 (ht.ahead h03) (by omega)) ?_⟩
  rintro en w4 ⟨h4, rfl⟩
  have h24 := (hd.trans h3).trans h4
  exact ⟨_, rfl, h4, br_true rfl (ldI_b 2 ((B1.ahead h2).ahead h24) rfl (ldI_b 2 (B2.ahead h24) rfl ⟨h03.trans h4, by simp⟩))⟩

theorem num_agg {w : World} {s : Slc} {l : List Nat} (r : Rd .u64 w s (nn l)) (o : ok B64 l) (n : l.length * 8 ≤ 140737488351232) : Num w s (val B64 l) := num_of r o n

theorem wi_scale {X : Nat} {e j : Int} (h : scC X e j = 0) : wi e ∧ wi j ∧ tC (od X) (eD X e + j) = 0 := by
  unfold scC at h
  split at h
  · split at h
    · exact ⟨by assumption, by assumption, h⟩
    · omega
  · omega
theorem tC_zero {x : Nat} {e : Int} (h : tC x e = 0) : bl (od x) ≤ 67108864 ∧ wi (eD x e) := by
  unfold tC at h
  split at h
  · omega
  · split at h
    · exact ⟨by omega, by assumption⟩
    · omega

theorem DyadicScales_ok {w : World} (hT : Tab w) {n0 : Bool} {s0 : Slc} {e0 : Int} {l0 : List Nat} (r0 : Rd .u64 w s0 (nn l0)) (o0 : ok B64 l0) (z0 : l0.length * 8 ≤ 140737488351232) (he0 : -9223372036854775808 ≤ e0 ∧ e0 ≤ 9223372036854775807)
    {x1 x2 : Int} (hx1 : -9223372036854775808 ≤ x1 ∧ x1 ≤ 9223372036854775807) (hx2 : -9223372036854775808 ≤ x2 ∧ x2 ≤ 9223372036854775807) :
    Calls pr surdlaw08_DyadicScales_id #[.agg (c3 n0 s0 e0), .int .i64 x1, .int .i64 x2] w (Yes w) := by
  have n0' : Num w s0 (val B64 l0) := num_of r0 o0 z0
  have hdl := Nat.len_le o0
  generalize val B64 l0 = X at *
  have hdo := Ref.len_mono two64 (od_le X)
  refine surdlaw08_DyadicScales_vc n0 s0 e0 x1 x2 w _ (newC_b fun b1 w1 hb1 h1 hs1 B1 => Calls.mono fit_spec ?_)
  rintro en w2 ⟨rfl, rfl⟩
  refine ⟨_, rfl, br_intro (fun _ => end_awake hT h1) (fun hj => ?_)⟩
  have hj' : wi x1 := by simpa using hj
  refine Calls.mono fit_spec ?_
  rintro en w4 ⟨rfl, rfl⟩
  refine ⟨_, rfl, br_intro (fun _ => end_awake hT h1) (fun hk => ?_)⟩
  have hk' : wi x2 := by simpa using hk
  have hjk : IntKind.i64.wrap (x1 + x2) = x1 + x2 := wrap_i64 (by unfold wi at hj' hk'; omega) (by unfold wi at hj' hk'; omega)
  rw [hjk]
  refine Calls.mono fit_spec ?_
  rintro en w6 ⟨rfl, rfl⟩
  refine ⟨_, rfl, br_intro (fun _ => end_awake hT h1) (fun hs => ?_)⟩
  have hs' : wi (x1 + x2) := by simpa using hs
  refine get3 B1 (Calls.mono in_spec ?_)
  rintro en w8 ⟨h8, rfl⟩
  have h08 := h1.trans h8
  refine ⟨_, _, _, rfl, Calls.mono (Scale_spec (hT.ahead h08) (n0'.ahead h08)) ?_⟩
  rintro en w9 ⟨h9, sp, rfl, op⟩
  have h09 := h08.trans h9
  have B19 := (B1.ahead h8).ahead h9
  refine ⟨_, _, _, _, rfl, newC_b fun b2 w10 hb2 h10 hs10 B2 => set3 B2 fun w13 u13 C2 => ?_⟩
  have h013 : Ahead w w13 := u13.ahead (h09.trans h10) (by have := h09.size; omega)
  have B113 : Blk w13 b1 _ := u13.blk (B19.ahead h10) (by have := B19.lt; omega)
  refine Calls.mono num_spec ?_
  rintro en w14 ⟨rfl, rfl⟩
  refine ⟨_, rfl, br_intro (fun _ => end_awake hT h013) (fun hc => ?_)⟩
  have hc0 : scC X e0 x1 = 0 := by simpa using hc
  obtain ⟨we, _, ht0⟩ := wi_scale hc0
  obtain ⟨_, we'⟩ := tC_zero ht0
  have op13 := u13.own2 op h10 (by omega)
  rw [hc0, if_pos rfl, od_od] at op13
  rw [hc0, if_pos rfl, if_pos rfl, nD_od] at C2
  have np : Num w14 sp (od X) := ⟨_, op13.rd, by omega, ok_digs two64 _, val_digs two64 _⟩
  generalize hep : eD (od X) (eD X e0 + x1) = e' at *
  refine get3 C2 (Calls.mono (Scale_spec (hT.ahead h013) np) ?_)
  rintro en w16 ⟨h16, sq, rfl, oq⟩
  have h016 := h013.trans h16
  refine ⟨_, _, _, _, rfl, newC_b fun b3 w17 hb3 h17 hs17 B3 => set3 B3 fun w20 u20 C3 => ?_⟩
  have B116 := B113.ahead h16
  have h020 : Ahead w w20 := u20.ahead (h016.trans h17) (by have := h016.size; omega)
  have B120 : Blk w20 b1 _ := u20.blk (B116.ahead h17) (by have := B116.lt; omega)
  have oq20 := u20.own2 oq h17 (by omega)
  refine get3 B120 (Calls.mono in_spec ?_)
  rintro en w21 ⟨h21, rfl⟩
  have h021 := h020.trans h21
  refine ⟨_, _, _, rfl, Calls.mono (Scale_spec (hT.ahead h021) (n0'.ahead h021)) ?_⟩
  rintro en w22 ⟨h22, sr, rfl, or_⟩
  have h022 := h021.trans h22
  have C322 := (C3.ahead h21).ahead h22
  have oq22 := (oq20.ahead h21).ahead h22
  refine ⟨_, _, _, _, rfl, newC_b fun b4 w23 hb4 h23 hs23 B4 => set3 B4 fun w26 u26 C4 => ?_⟩
  have h026 : Ahead w w26 := u26.ahead (h022.trans h23) (by have := h022.size; omega)
  have C326 : Blk w26 b3 _ := u26.blk (C322.ahead h23) (by have := C322.lt; omega)
  have or26 := u26.own2 or_ h23 (by omega)
  have oq26 := u26.own2 oq22 h23 (by omega)
  refine Calls.mono num_spec ?_
  rintro en w27 ⟨rfl, rfl⟩
  refine ⟨_, rfl, Calls.mono num_spec ?_⟩
  rintro en w28 ⟨rfl, rfl⟩
  have q1 : scC (od X) e' x2 = tC (od X) (eD (od X) e' + x2) := by rw [scC, if_pos we', if_pos hk', od_od]
  have q2 : scC X e0 (x1 + x2) = tC (od X) (eD X e0 + (x1 + x2)) := by rw [scC, if_pos we, if_pos hs']
  have q3 : od X = 0 ∨ (eD (od X) e' + x2 = eD X e0 + (x1 + x2)) := by
    by_cases hX : od X = 0
    · exact .inl hX
    · right
      have f1 : ∀ y, eD (od X) y = y := fun y => by rw [eD, if_neg hX, tz_od]; omega
      rw [← hep, f1, f1]; omega
  have hcc : scC (od X) e' x2 = scC X e0 (x1 + x2) := by
    rw [q1, q2]
    rcases q3 with h | h
    · rw [h]; simp [tC, od_zero, bl_zero, eD_zero]
    · rw [h]
  have hee : eD (od (od X)) (eD (od X) e' + x2) = eD (od X) (eD X e0 + (x1 + x2)) := by
    rw [od_od]
    rcases q3 with h | h
    · rw [h, eD_zero, eD_zero]
    · rw [h]
  refine ⟨_, rfl, br_true (by simp [hcc]) (get3 C326 (get3 C4 ?_))⟩
  rw [hcc, hee, od_od, nD_od, nD_od]
  rw [hcc, od_od, od_od] at oq26
  rw [od_od] at or26
  have fin : ∀ {neg : Bool} {e : Int} {x : Nat}, nD neg x = neg → Rd .u64 w28 sq (nn (digs B64 x)) → Rd .u64 w28 sr (nn (digs B64 x)) → (digs B64 x).length * 8 ≤ 140737488351232 →
      Calls pr surdlaw08_same_id #[.agg (c3 neg sq e), .agg (c3 neg sr e)] w28 fun e16 w29 => ∃ b18 : Bool, e16 = .returned (Value.bool b18) ∧ (br b18 (Calls pr surdlaw08_awake_id #[] w29 fun e17 w30 => ∃ b19 : Bool, e17 = .returned (Value.bool b19) ∧ Yes w (.returned (Value.bool b19)) w30) (Yes w (.returned (Value.bool false)) w29)) := by
    intro neg e x hn hq hr hl
    refine Calls.mono (same_spec hq hr hl hn) ?_
    rintro en w29 ⟨h29, rfl⟩
    exact ⟨_, rfl, br_true rfl (end_awake hT (h026.trans h29))⟩
  by_cases hz : scC X e0 (x1 + x2) = 0
  · rw [if_pos hz] at oq26 or26
    rw [if_pos hz, if_pos hz]
    exact fin (nD_od n0 X) oq26.rd or26.rd (by omega)
  · rw [if_neg hz] at oq26 or26
    rw [if_neg hz, if_neg hz]
    exact fin (x := 0) (nD_zero _) (by rw [digs_zero]; exact oq26.rd) (by rw [digs_zero]; exact or26.rd) (by rw [digs_zero]; simp)

end Dy
end Go.Proofs.YthhbjhdnaopcnaaDoor
