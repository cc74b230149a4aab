/- What the law leans on, part 3. No condition. -/
import Derived.Test.YtahbekmnphkiiaaDoorZDyadicPolys2
namespace Go.Proofs.YtahbekmnphkiiaaDoor
open Go Go.RowKit Eng Sp Dg
open Go.ChangeShapes Go.WideShapes
set_option linter.unusedVariables false
set_option linter.unusedSimpArgs false
namespace RL3
open Dl
def isB (P : Program) (t : TypeId) : Bool := match P.underlying t with
  | some .bool => true
  | _ => false
def isI (P : Program) (t : TypeId) : Bool := match P.underlying t with
  | some (.int .i64) => true
  | _ => false
def isU (P : Program) (t : TypeId) : Bool := match P.underlying t with
  | some (.slice e) => (match P.underlying e with
    | some (.int .u64) => Nat.beq (P.cellsOf e) 1 && Nat.beq (P.bytesOf e) 8
    | _ => false)
  | _ => false
theorem isB_out {P : Program} {t : TypeId} (h : isB P t = true) : P.underlying t = some .bool := by
  unfold isB at h; split at h
  · assumption
  · cases h
theorem isI_out {P : Program} {t : TypeId} (h : isI P t = true) : P.underlying t = some (.int .i64) := by
  unfold isI at h; split at h
  · assumption
  · cases h
theorem isU_out {P : Program} {t : TypeId} (h : isU P t = true) : ∃ e, P.underlying t = some (.slice e) ∧ P.underlying e = some (.int .u64) ∧ P.cellsOf e = 1 ∧ P.bytesOf e = 8 := by
  unfold isU at h; split at h
  · rename_i e hu
    split at h
    · rename_i he
      simp only [Bool.and_eq_true] at h
      exact ⟨e, hu, he, Nat.eq_of_beq_eq_true h.1, Nat.eq_of_beq_eq_true h.2⟩
    · cases h
  · cases h
def parts (P : Program) (t : TypeId) : List Field := match P.underlying t with
  | some (.struct fs) => fs.toList
  | _ => []
theorem parts_out {P : Program} {t : TypeId} {l : List Field} (h : parts P t = l) (hl : l ≠ []) : P.underlying t = some (.struct l.toArray) := by
  unfold parts at h; split at h
  · rename_i fs hu
    rw [hu, ← h]
  · exact absurd h.symm hl
def at_ (P : Program) (f : Field) (o c : Nat) : Bool := Nat.beq f.offset o && Nat.beq (P.cellsOf f.type) c
theorem at_out {P : Program} {f : Field} {o c : Nat} (h : at_ P f o c = true) : f.offset = o ∧ P.cellsOf f.type = c := by
  unfold at_ at h
  simp only [Bool.and_eq_true] at h
  exact ⟨Nat.eq_of_beq_eq_true h.1, Nat.eq_of_beq_eq_true h.2⟩
/-- A sign, a row, an exponent. -/
def isD3 (P : Program) (t : TypeId) : Bool := match parts P t with
  | [f0, f1, f2] => isB P f0.type && isU P f1.type && isI P f2.type && at_ P f0 0 1 && at_ P f1 1 1 && at_ P f2 2 1 && Nat.beq (P.cellsOf t) 3
  | _ => false
/-- What a dyadic of a row is. -/
def Dyb (W : World) (d : DY) : Prop := ∃ l, Rd .u64 W d.s (nn l) ∧ ok B64 l ∧ l.length * 8 ≤ 140737488351232 ∧ -9223372036854775808 ≤ d.e ∧ d.e ≤ 9223372036854775807
variable {H : Type} {enc : TypeId × Value → H} {P : Program} {W : World}
theorem trod_D3 {t : TypeId} {fuel : Nat} {cs : List Value} {x : DataW H × List MemPlace} (ht : isD3 P t = true) (h : DataW.trod enc P W 0 (fun _ => true) true fuel t cs = some x) (hw : ∀ m ∈ x.1.weights P t, m ≤ reachBytes) :
    ∃ d : DY, cs = d.cs ∧ Dyb W d := by
  unfold isD3 at ht
  split at ht
  · rename_i f0 f1 f2 hp
    simp only [Bool.and_eq_true] at ht
    obtain ⟨⟨⟨⟨⟨⟨t1, t2⟩, t3⟩, t4⟩, t5⟩, t6⟩, t7⟩ := ht
    have u0 := parts_out hp (by simp)
    obtain ⟨e, he1, he2, he3, he4⟩ := isU_out t2
    obtain ⟨o0, c0⟩ := at_out t4
    obtain ⟨o1, c1⟩ := at_out t5
    obtain ⟨o2, c2⟩ := at_out t6
    have ct := Nat.eq_of_beq_eq_true t7
    obtain ⟨y0, y1, y2, n, hx, hl, g0, g1, g2⟩ := Go.Deep.trod_struct3 u0 h
    rw [c0, o0] at g0
    rw [c1, o1] at g1
    rw [c2, o2] at g2
    rw [ct] at hl
    obtain ⟨b, hb0, _⟩ := DataW.trod_bool (isB_out t1) g0
    obtain ⟨v, hv, _, hwf⟩ := DataW.trod_int (isI_out t3) g2
    have hvr := wf_i64 hwf
    obtain ⟨s, l, hs, hr, hok, hll⟩ := RowA.open_row he1 he2 he3 he4 (fun m hm => hw m (by rw [hx]; simp [DataW.weights, u0, DataW.weightsEach]; exact .inr (.inl hm))) g1
    refine ⟨⟨b, s, v⟩, ?_, l, hr, hok, hll, hvr.1, hvr.2⟩
    match cs, hl with
    | [a0, a1, a2], _ =>
      simp at hb0 hs hv
      rw [hb0, hs, hv]; rfl
  · cases ht
theorem rl_cells {w : World} {g o : Nat} {ys : List DY} (h : ∀ i, i < ys.length → w.cell? ⟨g, o + 3 * i, none⟩ = some (.bool (ys.getD i zDY).n) ∧ w.cell? ⟨g, o + 3 * i + 1, none⟩ = some (ys.getD i zDY).s.v ∧ w.cell? ⟨g, o + 3 * i + 2, none⟩ = some (.int .i64 (ys.getD i zDY).e)) :
    ∀ j u, (dys ys)[j]? = some u → w.cell? ⟨g, o + j, none⟩ = some u := by
  intro j u hj
  have hl : j < ys.length * 3 := by rw [← dys_len]; exact (List.getElem?_eq_some_iff.1 hj).1
  have hi : j / 3 < ys.length := by omega
  obtain ⟨q0, q1, q2⟩ := dys_get ys (j / 3) hi
  obtain ⟨r0, r1, r2⟩ := h (j / 3) hi
  have hm : j % 3 = 0 ∨ j % 3 = 1 ∨ j % 3 = 2 := by omega
  rcases hm with hm | hm | hm
  · have e : 3 * (j / 3) = j := by omega
    rw [e] at q0 r0
    rw [r0, ← hj, q0]
  · have e : 3 * (j / 3) + 1 = j := by omega
    rw [e] at q1
    rw [Nat.add_assoc, e] at r1
    rw [r1, ← hj, q1]
  · have e : 3 * (j / 3) + 2 = j := by omega
    rw [e] at q2
    rw [Nat.add_assoc, e] at r2
    rw [r2, ← hj, q2]
theorem open_LD {t e : TypeId} {A : Option Addr} {len cap : Nat} {d : DataW H} {ps : List MemPlace} {ts : List TypeId} {ds : List (DataW H)} {j : Nat} (ht : P.underlying t = some (.slice e)) (hd : isD3 P e = true) (hce : P.cellsOf e = 3)
    (hsz : (DataW.weightsEach P ts ds).all (· ≤ reachBytes) = true) (htj : ts[j]? = some t) (hdj : ds[j]? = some d) (h : DataW.Trod enc P W 0 (fun _ => true) true t (.slice A len cap) d ps) :
    ∃ ys : List DY, RL W ⟨A, len, cap⟩ ys ∧ ∀ i, i < ys.length → Dyb W (ys.getD i zDY) := by
  rcases RowA.open_arg ht hsz htj hdj h with ⟨rfl, rfl, rfl⟩ | ⟨a, rfl, hl, hcap, hel⟩
  · exact ⟨[], RL.nil, fun i hi => by simp at hi⟩
  · rw [hce] at hel
    obtain ⟨f, hf⟩ := Classical.skolem.1 (fun i => show ∃ y : DY, i < len → W.cells? 0 (a.add (i * 3)) 3 = some y.cs ∧ Dyb W y by
      by_cases hi : i < len
      · obtain ⟨cs, y, n, h1, h2, h3⟩ := hel i hi
        obtain ⟨q, rfl, hq⟩ := trod_D3 hd h2 h3
        exact ⟨q, fun _ => ⟨h1, hq⟩⟩
      · exact ⟨zDY, fun q => absurd q hi⟩)
    have hg : ∀ i, i < len → ((List.range len).map f).getD i zDY = f i := fun i hi => by
      rw [List.getD_eq_getElem?_getD, List.getElem?_map, List.getElem?_range hi]; rfl
    have hc : ∀ i, i < len → W.cell? ((a.add (i * 3)).add 0) = some (.bool (f i).n) ∧ W.cell? ((a.add (i * 3)).add 1) = some (f i).s.v ∧ W.cell? ((a.add (i * 3)).add 2) = some (.int .i64 (f i).e) := fun i hi => by
      obtain ⟨_, _, hcell⟩ := World.cells?_some (hf i hi).1
      exact ⟨by simpa [DY.cs] using hcell 0 (by omega), by simpa [DY.cs] using hcell 1 (by omega), by simpa [DY.cs] using hcell 2 (by omega)⟩
    refine ⟨(List.range len).map f, ⟨by simp, by simp; exact hl, fun hne => ?_⟩, fun i hi => ?_⟩
    · have hp : 0 < len := by
        rcases Nat.eq_zero_or_pos len with h0 | h0
        · subst h0; exact absurd rfl hne
        · exact h0
      obtain ⟨gb, go, gs⟩ := a
      have hs : gs = none := by
        have := (hc 0 hp).1
        have e0 : ((⟨gb, go, gs⟩ : Addr).add (0 * 3)).add 0 = ⟨gb, go, gs⟩ := by simp [Addr.add]
        rw [e0] at this
        cases gs with
        | none => rfl
        | some q =>
          unfold World.cell? at this
          split at this
          · simp at this
          · cases this
      subst hs
      refine ⟨gb, go, rfl, rl_cells fun i hi => ?_⟩
      have hi' : i < len := by simpa using hi
      rw [hg i hi']
      have := hc i hi'
      simp only [add_atN, Nat.mul_comm i 3, Nat.add_zero] at this
      exact this
    · have hi' : i < len := by simpa using hi
      rw [hg i hi']
      exact (hf i hi').2
end RL3
end Go.Proofs.YtahbekmnphkiiaaDoor
namespace Go.Proofs.YtahbekmnphkiiaaDoor
open Go Go.RowKit Eng
set_option linter.unusedVariables false

set_option maxRecDepth 100000 in
/-- surd/surdref06.Of: function 15. -/
theorem surdref06_Of_vc (a0_neg : Bool) (a1_limbs : Slc) (w : World) (R : Ending → World → Prop)
    
    (h : newC w #[Value.bool false, (⟨none, 0, 0⟩ : Slc).v] 27 fun ad1 w1 =>
    Calls Tryd.prog 47 #[a1_limbs.v] w1 fun e1 w2 =>
    ∃ s1 : Slc, e1 = .returned s1.v ∧
    (Calls Tryd.prog 46 #[Value.bool a0_neg, s1.v] w2 fun e2 w3 =>
     ∃ b1 : Bool, ∃ s2 : Slc, e2 = .returned (Value.agg #[Value.bool b1, s2.v]) ∧
     (stC ad1 (Value.bool b1) w3 fun w4 =>
      stC (ad1.add 1) s2.v w4 fun w5 =>
      ldB ad1 w5 fun b2 =>
      ldS (ad1.add 1) w5 fun s3 =>
      R (.returned (Value.agg #[Value.bool b2, s3.v])) w5))) :
    Calls Tryd.prog 15 #[Value.bool a0_neg, a1_limbs.v] w R := by
  refine calls_of_vc (fun _ => none) (by kernel_rfl) Tryd.func15 rfl ?_ ?_
  · refine kcast h ?_; kernel_rfl
  · exact (obl_seq rfl (obl_reg (obl_seq rfl (obl_reg (obl_ret trivial)))))

set_option maxRecDepth 100000 in
/-- (surd/surdref06.Z).Is: function 59. -/
theorem surdref06_Z_Is_vc (a0_a_0 : Bool) (a0_a_1 : Slc) (a1_neg : Bool) (a2_limbs : Slc) (w : World) (R : Ending → World → Prop)
    
    (h : newC w #[Value.bool a0_a_0, a0_a_1.v] 27 fun ad1 w1 =>
    ldB ad1 w1 fun b1 =>
    br (b1 == a1_neg)
    (ldS (ad1.add 1) w1 fun s1 =>
     Calls Tryd.prog 84 #[s1.v, a2_limbs.v] w1 fun e1 w2 =>
     ∃ b2 : Bool, e1 = .returned (Value.bool b2) ∧
     (R (.returned (Value.bool b2)) w2))
    (R (.returned (Value.bool false)) w1)) :
    Calls Tryd.prog 59 #[Value.agg #[Value.bool a0_a_0, a0_a_1.v], Value.bool a1_neg, a2_limbs.v] w R := by
  refine calls_of_vc (fun _ => none) (by kernel_rfl) Tryd.func59 rfl ?_ ?_
  · refine kcast h ?_; kernel_rfl
  · exact (obl_seq rfl (obl_reg (obl_seq rfl (obl_reg (obl_ret trivial)))))

set_option maxRecDepth 100000 in
/-- surd/surdref06.make1: function 46. -/
theorem surdref06_make1_vc (a0_neg : Bool) (a1_n : Slc) (w : World) (R : Ending → World → Prop)
    
    (h : newC w #[Value.bool false, (⟨none, 0, 0⟩ : Slc).v] 27 fun ad1 w1 =>
    br a0_neg
    (Calls Tryd.prog 69 #[a1_n.v] w1 fun e1 w2 =>
     ∃ b1 : Bool, e1 = .returned (Value.bool b1) ∧
     (stC ad1 (Value.bool (!b1)) w2 fun w3 =>
      stC (ad1.add 1) a1_n.v w3 fun w4 =>
      ldB ad1 w4 fun b2 =>
      ldS (ad1.add 1) w4 fun s1 =>
      R (.returned (Value.agg #[Value.bool b2, s1.v])) w4))
    (stC ad1 (Value.bool false) w1 fun w5 =>
     stC (ad1.add 1) a1_n.v w5 fun w6 =>
     ldB ad1 w6 fun b3 =>
     ldS (ad1.add 1) w6 fun s2 =>
     R (.returned (Value.agg #[Value.bool b3, s2.v])) w6)) :
    Calls Tryd.prog 46 #[Value.bool a0_neg, a1_n.v] w R := by
  refine calls_of_vc (fun _ => none) (by kernel_rfl) Tryd.func46 rfl ?_ ?_
  · refine kcast h ?_; kernel_rfl
  · exact (obl_seq rfl (obl_reg (obl_seq rfl (obl_reg (obl_ret trivial)))))

set_option maxRecDepth 100000 in
/-- surd/surdref08.Int: function 34. -/
theorem surdref08_Int_vc (a0_v : Int) (a1_e : Int) (w : World) (R : Ending → World → Prop)
    
    (h : newC w #[Value.bool false, (⟨none, 0, 0⟩ : Slc).v, Value.int .i64 0] 29 fun ad1 w1 =>
    Calls Tryd.prog 62 #[Value.int .i64 a0_v] w1 fun e1 w2 =>
    ∃ b1 : Bool, ∃ s1 : Slc, e1 = .returned (Value.agg #[Value.bool b1, s1.v]) ∧
    (Calls Tryd.prog 14 #[Value.agg #[Value.bool b1, s1.v], Value.int .i64 a1_e] w2 fun e2 w3 =>
     ∃ b2 : Bool, ∃ s2 : Slc, ∃ x1 : Int, e2 = .returned (Value.agg #[Value.bool b2, s2.v, Value.int .i64 x1]) ∧
     (stC ad1 (Value.bool b2) w3 fun w4 =>
      stC (ad1.add 1) s2.v w4 fun w5 =>
      stC (ad1.add 2) (Value.int .i64 x1) w5 fun w6 =>
      ldB ad1 w6 fun b3 =>
      ldS (ad1.add 1) w6 fun s3 =>
      ldI .i64 (ad1.add 2) w6 fun x2 =>
      R (.returned (Value.agg #[Value.bool b3, s3.v, Value.int .i64 x2])) w6))) :
    Calls Tryd.prog 34 #[Value.int .i64 a0_v, Value.int .i64 a1_e] w R := by
  refine calls_of_vc (fun _ => none) (by kernel_rfl) Tryd.func34 rfl ?_ ?_
  · refine kcast h ?_; kernel_rfl
  · exact (obl_seq rfl (obl_reg (obl_seq rfl (obl_reg (obl_ret trivial)))))

set_option maxRecDepth 100000 in
/-- surd/surdref08.Of: function 14. -/
theorem surdref08_Of_vc (a0_m_0 : Bool) (a0_m_1 : Slc) (a1_e : Int) (w : World) (R : Ending → World → Prop)
    
    (h : newC w #[Value.bool a0_m_0, a0_m_1.v] 27 fun ad1 w1 =>
    newC w1 #[Value.bool false, (⟨none, 0, 0⟩ : Slc).v, Value.int .i64 0] 29 fun ad2 w2 =>
    ldB ad1 w2 fun b1 =>
    ldS (ad1.add 1) w2 fun s1 =>
    Calls Tryd.prog 43 #[Value.agg #[Value.bool b1, s1.v]] w2 fun e1 w3 =>
    ∃ x1 : Int, e1 = .returned (Value.int .i64 x1) ∧
    (br (x1 == 0)
     (stC ad2 (Value.bool false) w3 fun w4 =>
      stC (ad2.add 1) ((⟨none, 0, 0⟩ : Slc).v) w4 fun w5 =>
      stC (ad2.add 2) (Value.int .i64 0) w5 fun w6 =>
      ldB ad2 w6 fun b2 =>
      ldS (ad2.add 1) w6 fun s2 =>
      ldI .i64 (ad2.add 2) w6 fun x2 =>
      R (.returned (Value.agg #[Value.bool b2, s2.v, Value.int .i64 x2])) w6)
     (ldS (ad1.add 1) w3 fun s3 =>
      Calls Tryd.prog 44 #[s3.v] w3 fun e2 w7 =>
      ∃ x3 : Int, e2 = .returned (Value.int .i64 x3) ∧
      (ldB ad1 w7.drew fun b3 =>
       ldS (ad1.add 1) w7.drew fun s4 =>
       Calls Tryd.prog 45 #[s4.v, Value.int .i64 x3] w7.drew fun e3 w8 =>
       ∃ s5 : Slc, e3 = .returned s5.v ∧
       (Ahead w7.drew w8 ∧
        (stC ad2 (Value.bool b3) w8 fun w9 =>
         stC (ad2.add 1) s5.v w9 fun w10 =>
         stC (ad2.add 2) (Value.int .i64 (IntKind.i64.wrap (a1_e + x3))) w10 fun w11 =>
         ldB ad2 w11 fun b4 =>
         ldS (ad2.add 1) w11 fun s6 =>
         ldI .i64 (ad2.add 2) w11 fun x4 =>
         R (.returned (Value.agg #[Value.bool b4, s6.v, Value.int .i64 x4])) w11)))))) :
    Calls Tryd.prog 14 #[Value.agg #[Value.bool a0_m_0, a0_m_1.v], Value.int .i64 a1_e] w R := by
  refine calls_of_vc (fun _ => none) (by kernel_rfl) Tryd.func14 rfl ?_ ?_
  · refine kcast h ?_; kernel_rfl
  · exact (obl_seq rfl (obl_reg (obl_seq rfl (obl_seq rfl (obl_reg (obl_cond (obl_seq rfl (obl_reg (obl_ret (obl_skip (obl_seq rfl (obl_reg (obl_seq rfl (obl_held (by kernel_rfl) (by kernel_rfl) (by kernel_rfl) (obl_ret trivial)))))))))))))))

set_option maxRecDepth 100000 in
/-- (surd/surdref08.D).Is: function 35. -/
theorem surdref08_D_Is_vc (a0_d_0 : Bool) (a0_d_1 : Slc) (a0_d_2 : Int) (a1_neg : Bool) (a2_limbs : Slc) (a3_e : Int) (w : World) (R : Ending → World → Prop)
    
    (h : newC w #[Value.bool a0_d_0, a0_d_1.v, Value.int .i64 a0_d_2] 29 fun ad1 w1 =>
    ldB ad1 w1 fun b1 =>
    ldS (ad1.add 1) w1 fun s1 =>
    Calls Tryd.prog 59 #[Value.agg #[Value.bool b1, s1.v], Value.bool a1_neg, a2_limbs.v] w1 fun e1 w2 =>
    ∃ b2 : Bool, e1 = .returned (Value.bool b2) ∧
    (br b2
     (ldI .i64 (ad1.add 2) w2 fun x1 =>
      R (.returned (Value.bool (x1 == a3_e))) w2)
     (R (.returned (Value.bool false)) w2))) :
    Calls Tryd.prog 35 #[Value.agg #[Value.bool a0_d_0, a0_d_1.v, Value.int .i64 a0_d_2], Value.bool a1_neg, a2_limbs.v, Value.int .i64 a3_e] w R := by
  refine calls_of_vc (fun _ => none) (by kernel_rfl) Tryd.func35 rfl ?_ ?_
  · refine kcast h ?_; kernel_rfl
  · exact (obl_seq rfl (obl_reg (obl_seq rfl (obl_reg (obl_ret trivial)))))

set_option maxRecDepth 100000 in
/-- surd/surdref06.Int: function 62. -/
theorem surdref06_Int_vc (a0_v : Int) (w : World) (R : Ending → World → Prop)
    
    (h : newC w #[Value.bool false, (⟨none, 0, 0⟩ : Slc).v] 27 fun ad1 w1 =>
    br (decide (a0_v < 0))
    (newC w1 #[Value.int .u64 (IntKind.u64.wrap ((IntKind.u64.wrap (IntKind.i64.wrap (0 - (IntKind.i64.wrap (a0_v + 1))))) + 1))] 47 fun ad2 w2 =>
     Calls Tryd.prog 47 #[(⟨some ad2, 1, 1⟩ : Slc).v] w2 fun e1 w3 =>
     ∃ s1 : Slc, e1 = .returned s1.v ∧
     (Calls Tryd.prog 46 #[Value.bool true, s1.v] w3 fun e2 w4 =>
      ∃ b1 : Bool, ∃ s2 : Slc, e2 = .returned (Value.agg #[Value.bool b1, s2.v]) ∧
      (stC ad1 (Value.bool b1) w4 fun w5 =>
       stC (ad1.add 1) s2.v w5 fun w6 =>
       ldB ad1 w6 fun b2 =>
       ldS (ad1.add 1) w6 fun s3 =>
       R (.returned (Value.agg #[Value.bool b2, s3.v])) w6)))
    (Calls Tryd.prog 51 #[Value.int .i64 a0_v] w1 fun e3 w7 =>
     ∃ s4 : Slc, e3 = .returned s4.v ∧
     (Calls Tryd.prog 46 #[Value.bool false, s4.v] w7 fun e4 w8 =>
      ∃ b3 : Bool, ∃ s5 : Slc, e4 = .returned (Value.agg #[Value.bool b3, s5.v]) ∧
      (stC ad1 (Value.bool b3) w8 fun w9 =>
       stC (ad1.add 1) s5.v w9 fun w10 =>
       ldB ad1 w10 fun b4 =>
       ldS (ad1.add 1) w10 fun s6 =>
       R (.returned (Value.agg #[Value.bool b4, s6.v])) w10)))) :
    Calls Tryd.prog 62 #[Value.int .i64 a0_v] w R := by
  refine calls_of_vc (fun _ => none) (by kernel_rfl) Tryd.func62 rfl ?_ ?_
  · refine kcast h ?_; kernel_rfl
  · exact (obl_seq rfl (obl_reg (obl_seq rfl (obl_seq rfl (obl_reg (obl_cond (obl_seq rfl (obl_reg (obl_ret (obl_skip (obl_seq rfl (obl_reg (obl_ret trivial)))))))))))))

set_option maxRecDepth 100000 in
/-- (surd/surdref06.Z).Sign: function 43. -/
theorem surdref06_Z_Sign_vc (a0_a_0 : Bool) (a0_a_1 : Slc) (w : World) (R : Ending → World → Prop)
    
    (h : newC w #[Value.bool a0_a_0, a0_a_1.v] 27 fun ad1 w1 =>
    ldB ad1 w1 fun b1 =>
    br b1
    (R (.returned (Value.int .i64 (-1))) w1)
    (ldS (ad1.add 1) w1 fun s1 =>
     Calls Tryd.prog 69 #[s1.v] w1 fun e1 w2 =>
     ∃ b2 : Bool, e1 = .returned (Value.bool b2) ∧
     (br b2
      (R (.returned (Value.int .i64 0)) w2)
      (R (.returned (Value.int .i64 1)) w2)))) :
    Calls Tryd.prog 43 #[Value.agg #[Value.bool a0_a_0, a0_a_1.v]] w R := by
  refine calls_of_vc (fun _ => none) (by kernel_rfl) Tryd.func43 rfl ?_ ?_
  · refine kcast h ?_; kernel_rfl
  · exact (obl_seq rfl (obl_reg (obl_seq rfl (obl_seq rfl (obl_reg (obl_cond (obl_seq rfl (obl_reg (obl_ret (obl_skip (obl_seq rfl (obl_seq rfl (obl_reg (obl_cond (obl_seq rfl (obl_reg (obl_ret (obl_skip (obl_seq rfl (obl_reg (obl_ret trivial)))))))))))))))))))))

def surdref01_Num_Tail_cut (J0 : Slc → Int → World → Prop) (m0 : Slc → Int → World → Nat) : Nat → Option ((Act → World → Prop) × (Act → World → Nat))
  | 0 => some (fun a_ w_ => atSz a_ 14 (atS a_ 0 fun t0_a => atI .i64 a_ 3 fun t3_n => J0 t0_a t3_n w_), fun a_ w_ => mS a_ 0 fun t0_a => mI a_ 3 fun t3_n => m0 t0_a t3_n w_)
  | _ => none

set_option maxRecDepth 100000 in
/-- (surd/surdref01.Num).Tail: function 44. -/
theorem surdref01_Num_Tail_vc (a0_a : Slc) (w : World) (R : Ending → World → Prop)
    (J0 : Slc → Int → World → Prop) (m0 : Slc → Int → World → Nat)
    (h : br ((a0_a.n : Int) == 0)
    (R (.returned (Value.int .i64 0)) w)
    (J0 a0_a 0 w))
    (h0 : ∀ (t0_a : Slc) (t3_n : Int) (w_ : World), J0 t0_a t3_n w_ → 
    Calls Tryd.prog 70 #[t0_a.v, Value.int .i64 t3_n] w_ fun e1 w1 =>
    ∃ x1 : Int, e1 = .returned (Value.int .i64 x1) ∧
    (br (x1 == 0)
     (J0 t0_a (IntKind.i64.wrap (t3_n + 1)) w1 ∧
      m0 t0_a (IntKind.i64.wrap (t3_n + 1)) w1 < m0 t0_a t3_n w_)
     (R (.returned (Value.int .i64 t3_n)) w1))) :
    Calls Tryd.prog 44 #[a0_a.v] w R := by
  refine calls_of_vc (surdref01_Num_Tail_cut J0 m0) (by kernel_rfl) Tryd.func44 rfl ?_ ?_
  · refine kcast h ?_; kernel_rfl
  · exact (obl_seq rfl (obl_reg (obl_seq rfl (obl_seq rfl (obl_reg (obl_cond (obl_seq rfl (obl_reg (obl_ret (obl_skip (obl_seq rfl (obl_reg (obl_seq rfl (obl_loop _ rfl (fun a_ w_ hL_ => (by
    obtain ⟨hz_, hd_, hL_⟩ := atSz_out hL_
    obtain ⟨t0_a, h0_, hL_⟩ := atS_out hL_
    obtain ⟨t3_n, h3_, hL_⟩ := atI_out hL_
    obtain ⟨g0, rfl⟩ : ∃ g, a_ = Fr 14 [(0, t0_a.v), (3, Value.int .i64 t3_n)] g := ⟨_, fr_of hz_ hd_ [(0, t0_a.v), (3, Value.int .i64 t3_n)] (sel_cons h0_ (sel_cons h3_ sel_nil))⟩
    clear hz_ hd_ h0_ h3_
    have hJ0_ := hL_
    refine ⟨(fun _ => none), kcast (h0 t0_a t3_n w_ hJ0_) ?_, ?_⟩
    · kernel_rfl
    · exact (obl_seq rfl (obl_seq rfl (obl_reg (obl_cond (obl_skip (obl_exit (obl_blk rfl (obl_reg trivial)))))))))) (obl_seq rfl (obl_reg (obl_ret trivial)))))))))))))))))

end Go.Proofs.YtahbekmnphkiiaaDoor
namespace Go.Proofs.YtahbekmnphkiiaaDoor
open Go Go.RowKit Eng Sp Dg
set_option linter.unusedVariables false
set_option linter.unusedSimpArgs false
set_option maxRecDepth 100000
namespace Nat

/-- A law's answer. -/
def Yes (w : World) (e : Ending) (w' : World) : Prop := e = .returned (.bool true) ∧ Ahead w w'

end Nat
end Go.Proofs.YtahbekmnphkiiaaDoor
namespace Go.Proofs.YtahbekmnphkiiaaDoor
open Go Go.RowKit Eng Sp Dg
set_option linter.unusedVariables false
set_option linter.unusedSimpArgs false
set_option maxRecDepth 100000
namespace Dy
open _root_.Go.Proofs.YtahbekmnphkiiaaDoor.Nat (ldN OwnNil Num Num.bl OwnNil.mono bigC semShr digs_len_bl Yes andI_nat num_of)
open _root_.Go.Proofs.YtahbekmnphkiiaaDoor.Ref (RN RN.nil Of_spec Is_spec zero_spec Int_spec tdiv32 tmod32)
open Sb

theorem bit_digit (U s : Nat) (hs : s < 32) : U % 2 ^ 32 / 2 ^ s % 2 = U / 2 ^ s % 2 := by
  have h : (2 : Nat) ^ 32 = 2 ^ s * (2 * 2 ^ (31 - s)) := by rw [← Nat.pow_succ', ← Nat.pow_add]; congr 1; omega
  rw [h, Nat.mod_mul_right_div_self, Nat.mod_mul_right_mod]
theorem Bit_spec {w : World} {s : Slc} {x : Nat} {i : Nat} (h : RN w s x) (hl : (digs B32 x).length ≤ 2 ^ 46) (hi : i ≤ 9223372036854775807) :
    Calls pr surdref01_Num_Bit_id #[s.v, .int .i64 (i : Int)] w fun e w' => w' = w ∧ e = .returned (.int .i64 ((x / 2 ^ i % 2 : Nat) : Int)) := by
  have hn := h.n
  have ox := ok_digs two32 x
  have vx := val_digs two32 x
  have hB := B32v
  have hp2 : B32 ^ (i / 32) * 2 ^ (i % 32) = 2 ^ i := (pow_split i 32).symm
  have hx : x / 2 ^ i % 2 = (digs B32 x).getD (i / 32) 0 / 2 ^ (i % 32) % 2 := by
    rw [digit (by omega : 0 < B32) _ ox (i / 32), vx, ← hp2, ← Nat.div_div_eq_div_mul, show B32 = 2 ^ 32 from rfl, bit_digit _ _ (Nat.mod_lt _ (by omega))]
  have e0 : ((i : Int)).toNat = i := by omega
  unfold RN at h
  refine surdref01_Num_Bit_vc s i w _ (br_false (by simp) ?_)
  rw [tdiv32 (by omega) (by omega), tmod32 (by omega), e0]
  refine br_intro (fun hb => ?_) (fun hb => ?_)
  · refine ⟨rfl, ?_⟩
    have hb' : (digs B32 x).length ≤ i / 32 := by simp at hb; omega
    rw [hx, getD_ge _ 0 hb']
    simp
  · have hb' : i / 32 < (digs B32 x).length := by simp at hb; omega
    refine ldN h (by omega) (by omega) ?_
    refine semShr (by omega) ?_
    rw [Int.toNat_natCast]
    have hlt := ok_getD ox (by omega : 0 < B32) (i / 32)
    generalize (digs B32 x).getD (i / 32) 0 = d at *
    have hd : d / 2 ^ (i % 32) < B64 := Nat.lt_of_le_of_lt (Nat.div_le_self _ _) (by rw [B64v]; omega)
    rw [show (1 : Int) = ((1 : Nat) : Int) from rfl, andI_nat hd (by rw [B64v]; omega), Nat.and_one_is_mod, hx, wrap_i64 (by omega) (by omega)]
    exact ⟨rfl, rfl⟩

theorem rTail_spec {w : World} {s : Slc} {x : Nat} (h : RN w s x) (hl : (digs B32 x).length ≤ 2 ^ 46) :
    Calls pr surdref01_Num_Tail_id #[s.v] w fun e w' => w' = w ∧ e = .returned (.int .i64 (tz x)) := by
  have hn := h.n
  have hbl : bl x ≤ 2 ^ 51 := by
    have := Ref.bl_len32 (ok_digs two32 x)
    rw [val_digs two32] at this
    omega
  refine surdref01_Num_Tail_vc s w _ (fun t n w' => t = s ∧ w' = w ∧ x ≠ 0 ∧ ∃ j : Nat, n = (j : Int) ∧ j ≤ tz x) (fun _ n _ => (tz x - n).toNat) ?_ ?_
  · refine br_intro (fun hz => ?_) (fun hz => ?_)
    · have hx : x = 0 := by
        have : (digs B32 x).length = 0 := by simp at hz; omega
        rw [← val_digs two32 x, List.length_eq_zero_iff.1 this]; rfl
      subst hx
      exact ⟨rfl, by rw [tz_zero]; rfl⟩
    · refine ⟨rfl, rfl, fun e => ?_, 0, rfl, Nat.zero_le _⟩
      rw [e, digs_zero] at hn
      rw [hn] at hz
      simp at hz
  · rintro t n w1 ⟨rfl, rfl, hx, j, rfl, hj⟩
    have htz := tz_lt hx
    refine Calls.mono (Bit_spec h hl (by omega)) ?_
    rintro e w2 ⟨rfl, rfl⟩
    have e8 : IntKind.i64.wrap ((j : Int) + 1) = ((j + 1 : Nat) : Int) := by rw [wrap_i64 (by omega) (by omega)]; omega
    have hxj : x / 2 ^ j = 2 ^ (tz x - j) * od x := by
      have h1 := od_mul x
      have hp : 0 < 2 ^ j := Nat.pow_pos (by omega)
      conv => lhs; rw [← h1, show tz x = j + (tz x - j) by omega, Nat.pow_add, Nat.mul_assoc]
      rw [Nat.mul_div_cancel_left _ hp]
    refine ⟨_, rfl, br_intro (fun hb => ?_) (fun hb => ?_)⟩
    · have hne : j ≠ tz x := by
        intro he
        rw [hxj, he, Nat.sub_self, Nat.pow_zero, Nat.one_mul, od_odd hx] at hb
        simp at hb
      exact ⟨⟨rfl, rfl, hx, j + 1, e8, by omega⟩, by rw [e8]; omega⟩
    · have he : j = tz x := by
        rcases Nat.lt_or_ge j (tz x) with hlt | hge
        · exfalso
          rw [hxj, show tz x - j = (tz x - j - 1) + 1 by omega, Nat.pow_succ, Nat.mul_comm (2 ^ _), Nat.mul_assoc, Nat.mul_mod_right] at hb
          simp at hb
        · omega
      subst he
      exact ⟨rfl, rfl⟩

theorem make1_spec {w : World} {neg : Bool} {s : Slc} {x : Nat} (h : RN w s x) :
    Calls pr surdref06_make1_id #[.bool neg, s.v] w fun e w' => Ahead w w' ∧ e = .returned (.agg (c2 (nD neg x) s)) ∧ RN w' s x := by
  refine surdref06_make1_vc neg s w _ (newC_b fun b w1 hb h1 hs1 B1 => br_intro (fun hn => ?_) (fun hn => ?_))
  · refine Calls.mono (zero_spec (h.ahead h1)) ?_
    rintro e w2 ⟨rfl, rfl⟩
    refine ⟨_, rfl, ret2 B1 fun w' u _ => ⟨u.ahead h1 (by omega), ?_, u.rd _ _ (h.ahead h1)⟩⟩
    rw [nD, hn]; simp
  · refine ret2 B1 fun w' u _ => ⟨u.ahead h1 (by omega), ?_, u.rd _ _ (h.ahead h1)⟩
    rw [nD, hn]; rfl
theorem zOf_spec {w : World} {neg : Bool} {s : Slc} {l : List Nat} (h : Rd .u64 w s (nn l)) (hl : l.length * 8 ≤ 140737488351232) (ol : ok B64 l) :
    Calls pr surdref06_Of_id #[.bool neg, s.v] w fun e w' => Ahead w w' ∧ ∃ s', e = .returned (.agg (c2 (nD neg (val B64 l)) s')) ∧ RN w' s' (val B64 l) := by
  refine surdref06_Of_vc neg s w _ (newC_b fun b w1 hb h1 hs1 B1 => Calls.mono (Of_spec (h.ahead h1) hl ol) ?_)
  rintro e w2 ⟨h2, s1, rfl, r1⟩
  refine ⟨_, rfl, Calls.mono (make1_spec r1) ?_⟩
  rintro e w3 ⟨h3, rfl, r3⟩
  refine ⟨_, _, rfl, ret2 ((B1.ahead h2).ahead h3) fun w' u _ => ⟨u.ahead ((h1.trans h2).trans h3) (by omega), s1, rfl, u.rd _ _ r3⟩⟩
theorem zSign_spec {w : World} {neg : Bool} {s : Slc} {x : Nat} (h : RN w s x) :
    Calls pr surdref06_Z_Sign_id #[.agg (c2 (nD neg x) s)] w fun e w' => Ahead w w' ∧ e = .returned (.int .i64 (sgn neg x)) := by
  refine surdref06_Z_Sign_vc (nD neg x) s w _ (newC_b fun b w1 hb h1 hs1 B1 => ldB_b 0 B1 rfl (br_intro (fun hn => ?_) (fun hn => ?_)))
  · refine ⟨h1, ?_⟩
    unfold nD at hn
    simp only [Bool.and_eq_true, decide_eq_true_eq] at hn
    rw [sgn, if_neg hn.2, hn.1]; rfl
  · refine ldS_b 1 B1 rfl (Calls.mono (zero_spec (h.ahead h1)) ?_)
    rintro e w2 ⟨rfl, rfl⟩
    refine ⟨_, rfl, br_intro (fun hz => ?_) (fun hz => ?_)⟩
    · exact ⟨h1, by rw [sgn, if_pos (by simpa using hz)]⟩
    · have hx : x ≠ 0 := by simpa using hz
      rw [nD_ne hx] at hn
      exact ⟨h1, by rw [sgn, if_neg hx, hn]; rfl⟩
theorem zIs_spec {w : World} {neg : Bool} {s t : Slc} {x : Nat} (h : RN w s x) (ht : Rd .u64 w t (nn (digs B64 x))) (hl : (digs B64 x).length ≤ 2 ^ 44) :
    Calls pr surdref06_Z_Is_id #[.agg (c2 neg s), .bool neg, t.v] w fun e w' => Ahead w w' ∧ e = .returned (.bool true) := by
  refine surdref06_Z_Is_vc neg s neg t w _ (newC_b fun b w1 hb h1 hs1 B1 => ldB_b 0 B1 rfl (br_true (by simp) ?_))
  refine ldS_b 1 B1 rfl (Calls.mono (Is_spec (h.ahead h1) (ht.ahead h1) hl) ?_)
  rintro e w2 ⟨h2, rfl⟩
  exact ⟨_, rfl, h1.trans h2, rfl⟩
theorem zInt_spec {w : World} {v : Int} (h0 : -9223372036854775808 ≤ v) (h1 : v ≤ 9223372036854775807) :
    Calls pr surdref06_Int_id #[.int .i64 v] w fun e w' => Ahead w w' ∧ ∃ s, e = .returned (.agg (c2 (nD (decide (v < 0)) v.natAbs) s)) ∧ RN w' s v.natAbs := by
  have hB := B64v
  refine surdref06_Int_vc v w _ (newC_b fun b w1 hb h1' hs1 B1 => br_intro (fun hn => ?_) (fun hn => ?_))
  · have hn' : v < 0 := by simpa using hn
    have e1 : IntKind.u64.wrap (IntKind.u64.wrap (IntKind.i64.wrap (0 - IntKind.i64.wrap (v + 1))) + 1) = ((v.natAbs : Nat) : Int) := by
      rw [wrap_i64 (x := v + 1) (by omega) (by omega), wrap_i64 (by omega) (by omega), wrap_u64' (x := 0 - (v + 1)) (by omega) (by omega), wrap_u64' (by omega) (by omega)]
      omega
    rw [e1]
    refine newC_b fun b2 w2 hb2 h2 hs2 B2 => ?_
    have hrd : Rd .u64 w2 ⟨some ⟨b2, 0, none⟩, 1, 1⟩ (nn [v.natAbs]) := by
      obtain ⟨t, hm⟩ := B2
      exact ⟨rfl, Nat.le_refl _, fun i hi => ⟨_, rfl, by
        have : i = 0 := by simpa using hi
        subst this
        simp [World.cell?, Addr.add, hm, nn]⟩⟩
    refine Calls.mono (Of_spec hrd (by simp) (fun z hz => by simp at hz; omega)) ?_
    rintro e w3 ⟨h3, s1, rfl, r1⟩
    have ev : val B64 [v.natAbs] = v.natAbs := by simp [val]
    rw [ev] at r1
    refine ⟨_, rfl, Calls.mono (make1_spec r1) ?_⟩
    rintro e w4 ⟨h4, rfl, r4⟩
    refine ⟨_, _, rfl, ret2 (((B1.ahead h2).ahead h3).ahead h4) fun w' u _ => ⟨u.ahead (((h1'.trans h2).trans h3).trans h4) (by omega), s1, ?_, u.rd _ _ r4⟩⟩
    simp [hn']
  · have hn' : ¬ v < 0 := by simpa using hn
    obtain ⟨m, rfl⟩ : ∃ m : Nat, v = (m : Int) := ⟨v.toNat, by omega⟩
    refine Calls.mono (Int_spec (v := m) (by omega)) ?_
    rintro e w3 ⟨h3, s1, rfl, r1⟩
    refine ⟨_, rfl, Calls.mono (make1_spec r1) ?_⟩
    rintro e w4 ⟨h4, rfl, r4⟩
    refine ⟨_, _, rfl, ret2 ((B1.ahead h3).ahead h4) fun w' u _ => ⟨u.ahead ((h1'.trans h3).trans h4) (by omega), s1, ?_, u.rd _ _ r4⟩⟩
    simp [hn']

theorem dOf_specN {w : World} {neg : Bool} {s : Slc} {x : Nat} {e : Int} (h : RN w s x) (hl : (digs B32 x).length ≤ 2 ^ 45) (he : -4611686018427387904 ≤ e ∧ e ≤ 4611686018427387904) :
    Calls pr surdref08_Of_id #[.agg (c2 (nD neg x) s), .int .i64 e] w fun en w' => Ahead w w' ∧ ∃ s', en = .returned (.agg (c3 (nD neg x) s' (eD x e))) ∧ RN w' s' (od x) ∧ ∀ ad, s'.A = some ad → w.heap.size ≤ ad.block := by
  refine surdref08_Of_vc (nD neg x) s e w _ (newC_b fun b1 w1 hb1 h1 hs1 B1 => newC_b fun b2 w2 hb2 h2 hs2 B2 => ?_)
  have h12 := h1.trans h2
  have hb : w.heap.size ≤ b2 := by have := h1.size; omega
  have hbl : bl x ≤ 2 ^ 50 := by
    have := Ref.bl_len32 (ok_digs two32 x)
    rw [val_digs two32] at this
    omega
  refine get2 (B1.ahead h2) rfl rfl (Calls.mono (zSign_spec (h.ahead h12)) ?_)
  rintro en w3 ⟨h3, rfl⟩
  have h13 := h12.trans h3
  have B13 := (B1.ahead h2).ahead h3
  have B23 := B2.ahead h3
  refine ⟨_, rfl, br_intro (fun hz => ?_) (fun hz => ?_)⟩
  · have hx : x = 0 := sgn_zero_iff.1 (by simpa using hz)
    subst hx
    refine ret3 B23 fun w' u _ => ⟨u.ahead h13 hb, _, by rw [nD_zero, eD_zero], by rw [od_zero]; exact RN.nil, fun ad h => by cases h⟩
  · have hx : x ≠ 0 := fun e0 => by rw [e0] at hz; simp [sgn] at hz
    have htz := tz_lt hx
    refine ldS_b 1 B13 rfl (Calls.mono (rTail_spec (h.ahead h13) (by omega)) ?_)
    rintro en w7 ⟨rfl, rfl⟩
    have hd := Ahead.drew w7
    refine ⟨_, rfl, get2 (B13.ahead hd) rfl rfl (Calls.mono (Ref.Shr_specN ((h.ahead h13).ahead hd) (by omega) (by omega) (by omega)) ?_)⟩
    rintro en w8 ⟨h8, s5, rfl, r5, q5⟩
    rw [Int.toNat_natCast] at r5
    have h78 := hd.trans h8
    refine ⟨_, rfl, h8, ret3 (B23.ahead h78) fun w' u _ => ⟨u.ahead (h13.trans h78) hb, s5, ?_, u.rd _ _ r5, fun ad had => by have := q5 ad had; have := h13.size; have := hd.size; omega⟩⟩
    rw [eD, if_neg hx, wrap_i64 (by omega) (by omega)]
theorem dOf_spec {w : World} {neg : Bool} {s : Slc} {x : Nat} {e : Int} (h : RN w s x) (hl : (digs B32 x).length ≤ 2 ^ 45) (he : -4611686018427387904 ≤ e ∧ e ≤ 4611686018427387904) :
    Calls pr surdref08_Of_id #[.agg (c2 (nD neg x) s), .int .i64 e] w fun en w' => Ahead w w' ∧ ∃ s', en = .returned (.agg (c3 (nD neg x) s' (eD x e))) ∧ RN w' s' (od x) :=
  Calls.mono (dOf_specN h hl he) fun en w' ⟨h1, s', h2, h3, _⟩ => ⟨h1, s', h2, h3⟩
theorem dInt_spec {w : World} {v e : Int} (h0 : -9223372036854775808 ≤ v) (h1 : v ≤ 9223372036854775807) (he : -4611686018427387904 ≤ e ∧ e ≤ 4611686018427387904) :
    Calls pr surdref08_Int_id #[.int .i64 v, .int .i64 e] w fun en w' => Ahead w w' ∧ ∃ s', en = .returned (.agg (c3 (nD (decide (v < 0)) v.natAbs) s' (eD v.natAbs e))) ∧ RN w' s' (od v.natAbs) := by
  refine surdref08_Int_vc v e w _ (newC_b fun b1 w1 hb1 h1' hs1 B1 => Calls.mono (zInt_spec h0 h1) ?_)
  rintro en w2 ⟨h2, s1, rfl, r1⟩
  have hl : (digs B32 v.natAbs).length ≤ 2 := digs_length_le two32 (by rw [B32v]; omega)
  refine ⟨_, _, rfl, Calls.mono (dOf_spec r1 (by omega) he) ?_⟩
  rintro en w3 ⟨h3, s2, rfl, r2⟩
  exact ⟨_, _, _, rfl, ret3 ((B1.ahead h2).ahead h3) fun w' u _ => ⟨u.ahead ((h1'.trans h2).trans h3) (by omega), s2, rfl, u.rd _ _ r2⟩⟩
theorem dIs_spec {w : World} {neg : Bool} {s t : Slc} {x : Nat} {e : Int} (h : RN w s x) (ht : Rd .u64 w t (nn (digs B64 x))) (hl : (digs B64 x).length ≤ 2 ^ 44) :
    Calls pr surdref08_D_Is_id #[.agg (c3 neg s e), .bool neg, t.v, .int .i64 e] w fun en w' => Ahead w w' ∧ en = .returned (.bool true) := by
  refine surdref08_D_Is_vc neg s e neg t e w _ (newC_b fun b w1 hb h1 hs1 B1 => get2 B1 rfl rfl (Calls.mono (zIs_spec (h.ahead h1) (ht.ahead h1) hl) ?_))
  rintro en w2 ⟨h2, rfl⟩
  exact ⟨_, rfl, br_true rfl (ldI_b 2 (B1.ahead h2) rfl ⟨h1.trans h2, by simp⟩)⟩

theorem num_spec {w : World} {c : Int} : Calls pr surdlaw08_num_id #[.int .i64 c] w fun e w' => w' = w ∧ e = .returned (.int .i64 c) :=
  surdlaw08_num_vc c w _ ⟨rfl, rfl⟩

theorem awake_spec {w : World} (hT : Tab w) : Calls pr surdlaw08_awake_id #[] w (Yes w) := by
  have hB := B64v
  refine surdlaw08_awake_vc w _ (newC_b fun b1 w1 hb1 h1 hs1 B1 => ?_)
  have hrd : Rd .u64 w1 ⟨some ⟨b1, 0, none⟩, 1, 1⟩ (nn [12]) := by
    obtain ⟨t, hm⟩ := B1
    exact ⟨rfl, Nat.le_refl _, fun i hi => ⟨_, rfl, by
      have : i = 0 := by simpa using hi
      subst this
      simp [World.cell?, Addr.add, hm, nn]⟩⟩
  have hnum : Num w1 ⟨some ⟨b1, 0, none⟩, 1, 1⟩ 12 := ⟨[12], hrd, by simp, fun z hz => by simp at hz; omega, by simp [val]⟩
  refine Calls.mono (Make_spec (e := -3) (hT.ahead h1) hnum) ?_
  have htz : tz 12 = 2 := tz_eq (k := 2) (m := 1) rfl
  have hod : od 12 = 3 := by rw [od, htz]
  have hwi : wi (-3) := by unfold wi; omega
  have htc : tC 12 (-3) = 0 := by
    have : bl 3 ≤ 2 := bl_le (by omega)
    rw [tC, hod, if_neg (by omega), if_pos (by rw [eD, if_neg (by omega), htz]; unfold wi; omega)]
  rw [if_pos hwi, htc]
  rintro en w2 ⟨h2, s1, rfl, o1⟩
  rw [if_pos rfl, hod] at o1
  have hnD : nD false 12 = false := rfl
  have heD : eD 12 (-3) = -1 := by rw [eD, if_neg (by omega), htz]; rfl
  rw [if_pos rfl, if_pos rfl, hnD, heD]
  refine ⟨_, _, _, _, rfl, newC_b fun b2 w3 hb2 h3 hs3 B2 => set3 B2 fun w6 u C2 => ?_⟩
  have h06 : Ahead w w6 := u.ahead ((h1.trans h2).trans h3) (by have := (h1.trans h2).size; omega)
  have hd := Ahead.drew w6
  refine Calls.mono num_spec ?_
  rintro en w7 ⟨rfl, rfl⟩
  refine ⟨_, rfl, Ahead.refl _, br_true rfl (get3 (C2.ahead hd) (Calls.mono (dInt_spec (v := 3) (e := -1) (by omega) (by omega) (by omega)) ?_))⟩
  rintro en w8 ⟨h8, s3, rfl, r3⟩
  have o3 : od (3 : Int).natAbs = 3 := od_of_odd rfl
  have t3 : tz 3 = 0 := tz_odd rfl
  have n3 : nD (decide ((3 : Int) < 0)) (3 : Int).natAbs = false := rfl
  have e3 : eD (3 : Int).natAbs (-1) = -1 := by show eD 3 (-1) = -1; rw [eD, if_neg (by omega), t3]; rfl
  rw [o3] at r3
  rw [n3, e3]
  have o6 := u.own2 o1 h3 (by omega)
  have hl : (digs B64 3).length ≤ 1 := digs_length_le two64 (by rw [B64v]; omega)
  refine ⟨_, _, _, rfl, h8, Calls.mono (dIs_spec r3 ((o6.ahead hd).ahead h8).rd (by omega)) ?_⟩
  rintro en w9 ⟨h9, rfl⟩
  exact ⟨_, rfl, h9, rfl, ((h06.trans hd).trans h8).trans h9⟩

end Dy
end Go.Proofs.YtahbekmnphkiiaaDoor
namespace Go.Proofs.YtahbekmnphkiiaaDoor
open Go Go.RowKit Eng Sp Dg
set_option linter.unusedVariables false
set_option linter.unusedSimpArgs false
set_option maxRecDepth 100000
namespace Dy
open _root_.Go.Proofs.YtahbekmnphkiiaaDoor.Nat (ldN OwnNil Num Num.bl OwnNil.mono bigC digs_len_bl Yes num_of)
open _root_.Go.Proofs.YtahbekmnphkiiaaDoor.Ref (RN RN.nil Of_spec Is_spec zero_spec)
open Sb

theorem same_spec {w : World} {neg : Bool} {s t : Slc} {x : Nat} {e : Int} (hs : Rd .u64 w s (nn (digs B64 x))) (ht : Rd .u64 w t (nn (digs B64 x))) (hl : (digs B64 x).length * 8 ≤ 140737488351232) (hn : nD neg x = neg) :
    Calls pr surdlaw08_same_id #[.agg (c3 neg s e), .agg (c3 neg t e)] w fun en w' => Ahead w w' ∧ en = .returned (.bool true) := by
  refine surdlaw08_same_vc neg s e neg t e w _ (newC_b fun b1 w1 hb1 h1 hs1 B1 => newC_b fun b2 w2 hb2 h2 hs2 B2 => ?_)
  have hd := Ahead.drew w2
  have h02 := (h1.trans h2).trans hd
  refine get2 ((B1.ahead h2).ahead hd) rfl rfl (get2 (B2.ahead hd) rfl rfl (Calls.mono (zOf_spec (hs.ahead h02) hl (ok_digs two64 _)) ?_))
  rw [val_digs two64, hn]
  rintro en w3 ⟨h3, s3, rfl, r3⟩
  have h03 := h02.trans h3
  refine ⟨_, _, rfl, h3, Calls.mono (zIs_spec r3 (ht.ahead h03) (by omega)) ?_⟩
  rintro en w4 ⟨h4, rfl⟩
  have h24 := (hd.trans h3).trans h4
  exact ⟨_, rfl, h4, br_true rfl (ldI_b 2 ((B1.ahead h2).ahead h24) rfl (ldI_b 2 (B2.ahead h24) rfl ⟨h03.trans h4, by simp⟩))⟩

theorem tC_zero {x : Nat} {e : Int} (h : tC x e = 0) : bl (od x) ≤ 67108864 ∧ wi (eD x e) := by
  unfold tC at h
  split at h
  · omega
  · split at h
    · exact ⟨by omega, by assumption⟩
    · omega

end Dy
end Go.Proofs.YtahbekmnphkiiaaDoor
namespace Go.Proofs.YtahbekmnphkiiaaDoor
open Go Go.RowKit Eng Sp Dg
set_option linter.unusedVariables false
set_option linter.unusedSimpArgs false
namespace L2

/-- Types of rows: no local variable's block has such a type. -/
def rowTy (t : TypeId) : Bool := t == tU64 || t == tInt || t == tU64s || t == tInts || t == 43 || t == 40
def noU (cs : Array Value) : Bool := cs.toList.all fun v => match v with
  | .int .u64 _ => false
  | _ => true
/-- The block's cells. -/
def Blt (w : World) (b : Nat) (t : TypeId) (cs : Array Value) : Prop := w.heap[b]? = some (Obj.cells cs t (0, 0))
/-- Rows of numbers stay, and every limb. -/
structure Ext (w w' : World) : Prop where
  size : w.heap.size ≤ w'.heap.size
  row : ∀ (k : Nat) (cs : Array Value) (t : TypeId) (m : Nat × Nat), w.heap[k]? = some (Obj.cells cs t m) → rowTy t = true → w'.heap[k]? = some (Obj.cells cs t m)
  cell : ∀ (ad : Addr) (x : Int), w.cell? ad = some (.int .u64 x) → w'.cell? ad = some (.int .u64 x)
theorem Ext.refl (w : World) : Ext w w := ⟨Nat.le_refl _, fun _ _ _ _ h _ => h, fun _ _ h => h⟩
theorem Ext.trans {a b c : World} (h : Ext a b) (k : Ext b c) : Ext a c :=
  ⟨Nat.le_trans h.size k.size, fun i cs t m hi ht => k.row i cs t m (h.row i cs t m hi ht) ht, fun ad x hx => k.cell ad x (h.cell ad x hx)⟩
theorem Ext.of_ahead {a b : World} (h : Ahead a b) : Ext a b :=
  ⟨h.size, fun k cs t m hk _ => by rw [Below.block h k (Array.getElem?_eq_some_iff.1 hk).1]; exact hk, fun ad x hx => h.cell hx⟩
theorem _root_.Go.Proofs.YtahbekmnphkiiaaDoor.Eng.Ahead.ext {a b : World} (h : Ahead a b) : Ext a b := Ext.of_ahead h

theorem Blt.lt {w : World} {b : Nat} {t : TypeId} {cs : Array Value} (h : Blt w b t cs) : b < w.heap.size := (Array.getElem?_eq_some_iff.1 h).1
theorem Blt.ahead {w w' : World} {b : Nat} {t : TypeId} {cs : Array Value} (h : Blt w b t cs) (ha : Ahead w w') : Blt w' b t cs := by
  unfold Blt; rw [Below.block ha b h.lt]; exact h
theorem Blt.cell {w : World} {b i : Nat} {t : TypeId} {cs : Array Value} {v : Value} (h : Blt w b t cs) (hc : cs[i]? = some v) : w.cell? ⟨b, i, none⟩ = some v := by
  unfold Blt at h
  simp [World.cell?, h, hc]

theorem newC_t {w : World} {cs : Array Value} {t : TypeId} {K : Addr → World → Prop} (h : ∀ b w', b = w.heap.size → Ahead w w' → w'.heap.size = b + 1 → Blt w' b t cs → K ⟨b, 0, none⟩ w') : newC w cs t K :=
  h _ _ rfl (Ahead.alloc _ _) (size_alloc _ _) (get_alloc _ _)
theorem newC_map {w : World} {cs : Array Value} {t : TypeId} {K K' : Addr → World → Prop} (h : newC w cs t K) (hk : ∀ ad w', Ahead w w' → K ad w' → K' ad w') : newC w cs t K' :=
  hk _ _ (Ahead.alloc _ _) h

/-- Nothing but the block has changed; it holds no limb, before and behind. -/
structure Upt (b : Nat) (w w' : World) : Prop where
  os : w'.os = w.os
  tape : w'.tape = w.tape
  output : w'.output = w.output
  size : w'.heap.size = w.heap.size
  block : ∀ k, k ≠ b → w'.heap[k]? = w.heap[k]?
  ext : Ext w w'
theorem Upt.trans {b : Nat} {x y z : World} (h : Upt b x y) (k : Upt b y z) : Upt b x z :=
  ⟨k.os.trans h.os, k.tape.trans h.tape, k.output.trans h.output, k.size.trans h.size, fun i hi => (k.block i hi).trans (h.block i hi), h.ext.trans k.ext⟩
theorem Upt.ahead {b : Nat} {w0 w w' : World} (h : Upt b w w') (ha : Ahead w0 w) (hb : w0.heap.size ≤ b) : Ahead w0 w' :=
  Below.trans ha ⟨h.os, h.tape, h.output, Nat.le_of_eq h.size.symm, fun k hk => h.block k (by omega)⟩
theorem Upt.blt {b k : Nat} {w w' : World} {t : TypeId} {cs : Array Value} (h : Upt k w w') (hr : Blt w b t cs) (hne : b ≠ k) : Blt w' b t cs := by
  unfold Blt; rw [h.block b hne]; exact hr
theorem Upt.bar {b : Nat} {V : Nat → Prop} {w w' : World} (h : Upt b w w') (hv : V b) : Bar V w w' :=
  ⟨h.os, h.tape, h.output, Nat.le_of_eq h.size.symm, fun k _ hk => h.block k fun e => hk (e ▸ hv)⟩

theorem no_limb {w : World} {b : Nat} {t : TypeId} {cs : Array Value} (h : Blt w b t cs) (hn : noU cs = true) (ad : Addr) (x : Int) (hc : w.cell? ad = some (.int .u64 x)) : ad.block ≠ b := by
  intro hb
  unfold Blt at h
  rw [World.cell?, hb, h] at hc
  simp only at hc
  split at hc
  · cases hc
  · have hm := Array.mem_of_getElem? hc
    unfold noU at hn
    have := List.all_eq_true.1 hn _ (Array.mem_toList_iff.2 hm)
    simp at this

theorem stC_t (i : Nat) {w : World} {b : Nat} {t : TypeId} {cs : Array Value} {ad : Addr} {v : Value} {K : World → Prop} (h : Blt w b t cs) (hi : Nat.blt i cs.size = true) (hn : noU cs = true) (ht : rowTy t = false)
    (hk : ∀ w', Upt b w w' → Blt w' b t (cs.setIfInBounds i v) → K w') (hA : ad = ⟨b, i, none⟩ := by first | rfl | exact add_off) : stC ad v w K := by
  subst hA
  have hi' : i < cs.size := by simpa [Nat.blt_eq] using hi
  have hh : w.heap[b]? = some (Obj.cells cs t (0, 0)) := h
  have hlt := (Array.getElem?_eq_some_iff.1 hh).1
  have hget := (Array.getElem?_eq_some_iff.1 hh).2
  have hblk : ∀ k, k ≠ b → (w.setCell ⟨b, i, none⟩ v).heap[k]? = w.heap[k]? := fun k hk => Below.heap_setCell _ _ _ _ hk
  refine ⟨⟨cs[i], by simp [World.cell?, hh, hi']⟩, by simp [World.frozen?, hh], hk _ ⟨rfl, rfl, rfl, by simp [World.setCell], hblk, ⟨by simp [World.setCell], fun k cs' t' m hk' ht' => ?_, fun ad x hx => ?_⟩⟩ ?_⟩
  · by_cases e : k = b
    · subst e
      rw [hh] at hk'
      have := Option.some.inj hk'
      injection this with h1 h2 h3
      subst h2
      rw [ht] at ht'
      cases ht'
    · rw [hblk k e]; exact hk'
  · have hne := no_limb h hn ad x hx
    rw [World.cell?_of_block (hblk _ hne)]; exact hx
  · unfold Blt
    simp [World.setCell, Array.getElem?_modify, hh]

theorem nl {a b : Nat} (h : a < b) : a ≠ b := Nat.ne_of_lt h
theorem ng {a b : Nat} (h : b < a) : a ≠ b := Nat.ne_of_gt h
theorem nd {a b : Nat} {P : Prop} (h : P) (d : a ≠ b := by first | exact nl (by assumption) | exact ng (by assumption) | assumption | exact Ne.symm (by assumption) | omega) : a ≠ b ∧ P := ⟨d, h⟩
theorem up1 {k : Nat} {w w' : World} (u : Upt k w w') {b1 : Nat} {t1 : TypeId} {c1 : Array Value} (h1 : Blt w b1 t1 c1) (d : b1 ≠ k := by first | exact nl (by assumption) | exact ng (by assumption) | assumption | exact Ne.symm (by assumption) | omega) : Blt w' b1 t1 c1 := u.blt h1 d
theorem lt1 {b : Nat} {w : World} (e : b = w.heap.size) {b1 : Nat} {t1 : TypeId} {c1 : Array Value} (h1 : Blt w b1 t1 c1) : b1 < b := by
  subst e
  exact h1.lt
theorem ah2 {w w' : World} (a : Ahead w w') {b1 b2 : Nat} {t1 t2 : TypeId} {c1 c2 : Array Value} (h1 : Blt w b1 t1 c1) (h2 : Blt w b2 t2 c2) : Blt w' b1 t1 c1 ∧ Blt w' b2 t2 c2 := ⟨h1.ahead a, h2.ahead a⟩
theorem up2 {k : Nat} {w w' : World} (u : Upt k w w') {b1 b2 : Nat} {t1 t2 : TypeId} {c1 c2 : Array Value} (h1 : Blt w b1 t1 c1) (h2 : Blt w b2 t2 c2) (d : b1 ≠ k ∧ b2 ≠ k := by refine ⟨?_, ?_⟩ <;> first | exact nl (by assumption) | exact ng (by assumption) | assumption | exact Ne.symm (by assumption) | omega) : Blt w' b1 t1 c1 ∧ Blt w' b2 t2 c2 := by
  obtain ⟨d1, d2⟩ := d
  exact ⟨u.blt h1 d1, u.blt h2 d2⟩
theorem lt2 {b : Nat} {w : World} (e : b = w.heap.size) {b1 b2 : Nat} {t1 t2 : TypeId} {c1 c2 : Array Value} (h1 : Blt w b1 t1 c1) (h2 : Blt w b2 t2 c2) : b1 < b ∧ b2 < b := by
  subst e
  exact ⟨h1.lt, h2.lt⟩
theorem ah3 {w w' : World} (a : Ahead w w') {b1 b2 b3 : Nat} {t1 t2 t3 : TypeId} {c1 c2 c3 : Array Value} (h1 : Blt w b1 t1 c1) (h2 : Blt w b2 t2 c2) (h3 : Blt w b3 t3 c3) : Blt w' b1 t1 c1 ∧ Blt w' b2 t2 c2 ∧ Blt w' b3 t3 c3 := ⟨h1.ahead a, h2.ahead a, h3.ahead a⟩
theorem up3 {k : Nat} {w w' : World} (u : Upt k w w') {b1 b2 b3 : Nat} {t1 t2 t3 : TypeId} {c1 c2 c3 : Array Value} (h1 : Blt w b1 t1 c1) (h2 : Blt w b2 t2 c2) (h3 : Blt w b3 t3 c3) (d : b1 ≠ k ∧ b2 ≠ k ∧ b3 ≠ k := by refine ⟨?_, ?_, ?_⟩ <;> first | exact nl (by assumption) | exact ng (by assumption) | assumption | exact Ne.symm (by assumption) | omega) : Blt w' b1 t1 c1 ∧ Blt w' b2 t2 c2 ∧ Blt w' b3 t3 c3 := by
  obtain ⟨d1, d2, d3⟩ := d
  exact ⟨u.blt h1 d1, u.blt h2 d2, u.blt h3 d3⟩
theorem lt3 {b : Nat} {w : World} (e : b = w.heap.size) {b1 b2 b3 : Nat} {t1 t2 t3 : TypeId} {c1 c2 c3 : Array Value} (h1 : Blt w b1 t1 c1) (h2 : Blt w b2 t2 c2) (h3 : Blt w b3 t3 c3) : b1 < b ∧ b2 < b ∧ b3 < b := by
  subst e
  exact ⟨h1.lt, h2.lt, h3.lt⟩
theorem ah4 {w w' : World} (a : Ahead w w') {b1 b2 b3 b4 : Nat} {t1 t2 t3 t4 : TypeId} {c1 c2 c3 c4 : Array Value} (h1 : Blt w b1 t1 c1) (h2 : Blt w b2 t2 c2) (h3 : Blt w b3 t3 c3) (h4 : Blt w b4 t4 c4) : Blt w' b1 t1 c1 ∧ Blt w' b2 t2 c2 ∧ Blt w' b3 t3 c3 ∧ Blt w' b4 t4 c4 := ⟨h1.ahead a, h2.ahead a, h3.ahead a, h4.ahead a⟩
theorem up4 {k : Nat} {w w' : World} (u : Upt k w w') {b1 b2 b3 b4 : Nat} {t1 t2 t3 t4 : TypeId} {c1 c2 c3 c4 : Array Value} (h1 : Blt w b1 t1 c1) (h2 : Blt w b2 t2 c2) (h3 : Blt w b3 t3 c3) (h4 : Blt w b4 t4 c4) (d : b1 ≠ k ∧ b2 ≠ k ∧ b3 ≠ k ∧ b4 ≠ k := by refine ⟨?_, ?_, ?_, ?_⟩ <;> first | exact nl (by assumption) | exact ng (by assumption) | assumption | exact Ne.symm (by assumption) | omega) : Blt w' b1 t1 c1 ∧ Blt w' b2 t2 c2 ∧ Blt w' b3 t3 c3 ∧ Blt w' b4 t4 c4 := by
  obtain ⟨d1, d2, d3, d4⟩ := d
  exact ⟨u.blt h1 d1, u.blt h2 d2, u.blt h3 d3, u.blt h4 d4⟩
theorem lt4 {b : Nat} {w : World} (e : b = w.heap.size) {b1 b2 b3 b4 : Nat} {t1 t2 t3 t4 : TypeId} {c1 c2 c3 c4 : Array Value} (h1 : Blt w b1 t1 c1) (h2 : Blt w b2 t2 c2) (h3 : Blt w b3 t3 c3) (h4 : Blt w b4 t4 c4) : b1 < b ∧ b2 < b ∧ b3 < b ∧ b4 < b := by
  subst e
  exact ⟨h1.lt, h2.lt, h3.lt, h4.lt⟩
theorem ah5 {w w' : World} (a : Ahead w w') {b1 b2 b3 b4 b5 : Nat} {t1 t2 t3 t4 t5 : TypeId} {c1 c2 c3 c4 c5 : Array Value} (h1 : Blt w b1 t1 c1) (h2 : Blt w b2 t2 c2) (h3 : Blt w b3 t3 c3) (h4 : Blt w b4 t4 c4) (h5 : Blt w b5 t5 c5) : Blt w' b1 t1 c1 ∧ Blt w' b2 t2 c2 ∧ Blt w' b3 t3 c3 ∧ Blt w' b4 t4 c4 ∧ Blt w' b5 t5 c5 := ⟨h1.ahead a, h2.ahead a, h3.ahead a, h4.ahead a, h5.ahead a⟩
theorem up5 {k : Nat} {w w' : World} (u : Upt k w w') {b1 b2 b3 b4 b5 : Nat} {t1 t2 t3 t4 t5 : TypeId} {c1 c2 c3 c4 c5 : Array Value} (h1 : Blt w b1 t1 c1) (h2 : Blt w b2 t2 c2) (h3 : Blt w b3 t3 c3) (h4 : Blt w b4 t4 c4) (h5 : Blt w b5 t5 c5) (d : b1 ≠ k ∧ b2 ≠ k ∧ b3 ≠ k ∧ b4 ≠ k ∧ b5 ≠ k := by refine ⟨?_, ?_, ?_, ?_, ?_⟩ <;> first | exact nl (by assumption) | exact ng (by assumption) | assumption | exact Ne.symm (by assumption) | omega) : Blt w' b1 t1 c1 ∧ Blt w' b2 t2 c2 ∧ Blt w' b3 t3 c3 ∧ Blt w' b4 t4 c4 ∧ Blt w' b5 t5 c5 := by
  obtain ⟨d1, d2, d3, d4, d5⟩ := d
  exact ⟨u.blt h1 d1, u.blt h2 d2, u.blt h3 d3, u.blt h4 d4, u.blt h5 d5⟩
theorem lt5 {b : Nat} {w : World} (e : b = w.heap.size) {b1 b2 b3 b4 b5 : Nat} {t1 t2 t3 t4 t5 : TypeId} {c1 c2 c3 c4 c5 : Array Value} (h1 : Blt w b1 t1 c1) (h2 : Blt w b2 t2 c2) (h3 : Blt w b3 t3 c3) (h4 : Blt w b4 t4 c4) (h5 : Blt w b5 t5 c5) : b1 < b ∧ b2 < b ∧ b3 < b ∧ b4 < b ∧ b5 < b := by
  subst e
  exact ⟨h1.lt, h2.lt, h3.lt, h4.lt, h5.lt⟩
theorem ah6 {w w' : World} (a : Ahead w w') {b1 b2 b3 b4 b5 b6 : Nat} {t1 t2 t3 t4 t5 t6 : TypeId} {c1 c2 c3 c4 c5 c6 : Array Value} (h1 : Blt w b1 t1 c1) (h2 : Blt w b2 t2 c2) (h3 : Blt w b3 t3 c3) (h4 : Blt w b4 t4 c4) (h5 : Blt w b5 t5 c5) (h6 : Blt w b6 t6 c6) : Blt w' b1 t1 c1 ∧ Blt w' b2 t2 c2 ∧ Blt w' b3 t3 c3 ∧ Blt w' b4 t4 c4 ∧ Blt w' b5 t5 c5 ∧ Blt w' b6 t6 c6 := ⟨h1.ahead a, h2.ahead a, h3.ahead a, h4.ahead a, h5.ahead a, h6.ahead a⟩
/-- No limb. -/
def nuV (v : Value) : Bool := match v with
  | .int .u64 _ => false
  | _ => true
theorem noU_cons {v : Value} {l : List Value} (h : nuV v = true) (k : noU l.toArray = true) : noU (v :: l).toArray = true := by
  unfold noU at *
  show (v :: l).all _ = true
  rw [List.all_cons, Bool.and_eq_true]
  exact ⟨h, k⟩
theorem noU_3 {a b c : Value} (h : (nuV a && nuV b && nuV c) = true) : noU #[a, b, c] = true := by
  simp only [Bool.and_eq_true] at h
  exact noU_cons h.1.1 (noU_cons h.1.2 (noU_cons h.2 rfl))
theorem noU_2 {a b : Value} (h : (nuV a && nuV b) = true) : noU #[a, b] = true := by
  simp only [Bool.and_eq_true] at h
  exact noU_cons h.1 (noU_cons h.2 rfl)
theorem s2_t {w : World} {b : Nat} {t : TypeId} {c0 c1 v0 v1 : Value} {ad0 ad1 : Addr} {K : World → Prop} (h : Blt w b t #[c0, c1])
    (hk : ∀ w', Upt b w w' → Blt w' b t #[v0, v1] → K w') (ht : rowTy t = false := by rfl) (m0 : nuV c0 = true := by rfl) (m1 : nuV c1 = true := by rfl) (r0 : nuV v0 = true := by rfl) (r1 : nuV v1 = true := by rfl) (hA0 : ad0 = ⟨b, 0, none⟩ := by first | rfl | exact add_off) (hA1 : ad1 = ⟨b, 1, none⟩ := by first | rfl | exact add_off) : stC ad0 v0 w fun w1 => stC ad1 v1 w1 K :=
  stC_t 0 h rfl (noU_2 (by simp [m0, m1])) ht (fun w1 u1 h1 => stC_t 1 (show Blt w1 b t #[v0, c1] from h1) rfl (noU_2 (by simp [m1, r0])) ht (fun w2 u2 h2 => hk w2 (u1.trans u2) h2) hA1) hA0
theorem s3_t {w : World} {b : Nat} {t : TypeId} {c0 c1 c2 v0 v1 v2 : Value} {ad0 ad1 ad2 : Addr} {K : World → Prop} (h : Blt w b t #[c0, c1, c2])
    (hk : ∀ w', Upt b w w' → Blt w' b t #[v0, v1, v2] → K w') (ht : rowTy t = false := by rfl) (m0 : nuV c0 = true := by rfl) (m1 : nuV c1 = true := by rfl) (m2 : nuV c2 = true := by rfl) (r0 : nuV v0 = true := by rfl) (r1 : nuV v1 = true := by rfl) (r2 : nuV v2 = true := by rfl) (hA0 : ad0 = ⟨b, 0, none⟩ := by first | rfl | exact add_off) (hA1 : ad1 = ⟨b, 1, none⟩ := by first | rfl | exact add_off) (hA2 : ad2 = ⟨b, 2, none⟩ := by first | rfl | exact add_off) : stC ad0 v0 w fun w1 => stC ad1 v1 w1 fun w2 => stC ad2 v2 w2 K :=
  stC_t 0 h rfl (noU_3 (by simp [m0, m1, m2])) ht (fun w1 u1 h1 => stC_t 1 (show Blt w1 b t #[v0, c1, c2] from h1) rfl (noU_3 (by simp [m1, m2, r0])) ht (fun w2 u2 h2 => stC_t 2 (show Blt w2 b t #[v0, v1, c2] from h2) rfl (noU_3 (by simp [m2, r0, r1])) ht (fun w3 u3 h3 => hk w3 ((u1.trans u2).trans u3) h3) hA2) hA1) hA0
theorem st3_t {w : World} {b : Nat} {t : TypeId} {c0 c1 c2 v0 v1 v2 : Value} {ad0 ad1 ad2 : Addr} {K : World → Prop} (h : Blt w b t #[c0, c1, c2]) (n0 : noU #[c0, c1, c2] = true) (n1 : noU #[v0, c1, c2] = true) (n2 : noU #[v0, v1, c2] = true) (ht : rowTy t = false)
    (hk : ∀ w', Upt b w w' → Blt w' b t #[v0, v1, v2] → K w') (hA0 : ad0 = ⟨b, 0, none⟩ := by first | rfl | exact add_off) (hA1 : ad1 = ⟨b, 1, none⟩ := by first | rfl | exact add_off) (hA2 : ad2 = ⟨b, 2, none⟩ := by first | rfl | exact add_off) : stC ad0 v0 w fun w1 => stC ad1 v1 w1 fun w2 => stC ad2 v2 w2 K :=
  stC_t 0 h rfl n0 ht (fun w1 u1 h1 => stC_t 1 (show Blt w1 b t #[v0, c1, c2] from h1) rfl n1 ht (fun w2 u2 h2 => stC_t 2 (show Blt w2 b t #[v0, v1, c2] from h2) rfl n2 ht (fun w3 u3 h3 => hk w3 ((u1.trans u2).trans u3) h3) hA2) hA1) hA0

theorem le_eq {a b c : Nat} (h : a ≤ b) (e : c = b) : a ≤ c := by omega
theorem bb2 {w w' : World} {V0 V1 : Nat → Prop} {P : Prop} (a : Ahead w w') (h : P) : Bar V0 w w' ∧ Bar V1 w w' ∧ P := ⟨Bar.of_ahead a, Bar.of_ahead a, h⟩
theorem axa2 {w0 t w w' : World} (a : Ahead w w') (A : Ahead w0 w) (X : Ext t w) : Ahead w0 w' ∧ Ext t w' := ⟨A.trans a, X.trans (Ext.of_ahead a)⟩
theorem axa3 {w0 t w w' : World} {n : Nat} (a : Ahead w w') (A : Ahead w0 w) (X : Ext t w) (Y : n ≤ w.heap.size) : Ahead w0 w' ∧ Ext t w' ∧ n ≤ w'.heap.size := ⟨A.trans a, X.trans (Ext.of_ahead a), Nat.le_trans Y a.size⟩
theorem axr2 {w0 w w' : World} (a : Ahead w w') (A : Ahead w0 w) : Ahead w0 w' ∧ Ext w' w' := ⟨A.trans a, Ext.refl _⟩
theorem axr3 {w0 w w' : World} {n : Nat} (a : Ahead w w') (A : Ahead w0 w) (Y : n ≤ w.heap.size) : Ahead w0 w' ∧ Ext w' w' ∧ n ≤ w'.heap.size := ⟨A.trans a, Ext.refl _, Nat.le_trans Y a.size⟩
theorem axu2 {w0 t w w' : World} {k : Nat} (u : Upt k w w') (g : w0.heap.size ≤ k) (A : Ahead w0 w) (X : Ext t w) : Ahead w0 w' ∧ Ext t w' := ⟨u.ahead A g, X.trans u.ext⟩
theorem axu3 {w0 t w w' : World} {k n : Nat} (u : Upt k w w') (g : w0.heap.size ≤ k) (A : Ahead w0 w) (X : Ext t w) (Y : n ≤ w.heap.size) : Ahead w0 w' ∧ Ext t w' ∧ n ≤ w'.heap.size := ⟨u.ahead A g, X.trans u.ext, Nat.le_trans Y (Nat.le_of_eq u.size.symm)⟩
theorem ldB_t (i : Nat) {w : World} {b : Nat} {t : TypeId} {cs : Array Value} {ad : Addr} {x : Bool} {K : Bool → Prop} (h : Blt w b t cs) (hc : cs[i]? = some (.bool x)) (hk : K x) (hA : ad = ⟨b, i, none⟩ := by first | rfl | exact add_off) : ldB ad w K := by
  subst hA; exact ⟨x, h.cell hc, hk⟩
theorem ldS_t (i : Nat) {w : World} {b : Nat} {t : TypeId} {cs : Array Value} {ad : Addr} {x : Slc} {K : Slc → Prop} (h : Blt w b t cs) (hc : cs[i]? = some x.v) (hk : K x) (hA : ad = ⟨b, i, none⟩ := by first | rfl | exact add_off) : ldS ad w K := by
  subst hA; exact ⟨x, h.cell hc, hk⟩
theorem ldI_t (i : Nat) {w : World} {b : Nat} {t : TypeId} {cs : Array Value} {ad : Addr} {k : IntKind} {x : Int} {K : Int → Prop} (h : Blt w b t cs) (hc : cs[i]? = some (.int k x)) (hk : K x) (hA : ad = ⟨b, i, none⟩ := by first | rfl | exact add_off) : ldI k ad w K := by
  subst hA; exact ⟨x, h.cell hc, hk⟩

theorem l2_t {w : World} {b : Nat} {t : TypeId} {x0 : Bool} {x1 : Slc} {ad0 ad1 : Addr} {K : Bool → Slc → Prop} (h : Blt w b t #[.bool x0, x1.v]) (hk : K x0 x1) (hA0 : ad0 = ⟨b, 0, none⟩ := by first | rfl | exact add_off) (hA1 : ad1 = ⟨b, 1, none⟩ := by first | rfl | exact add_off) : ldB ad0 w fun y0 => ldS ad1 w fun y1 => K y0 y1 :=
  ldB_t (x := x0) 0 h rfl (ldS_t (x := x1) 1 h rfl hk hA1) hA0
theorem l3_t {w : World} {b : Nat} {t : TypeId} {x0 : Bool} {x1 : Slc} {x2 : Int} {ad0 ad1 ad2 : Addr} {K : Bool → Slc → Int → Prop} (h : Blt w b t #[.bool x0, x1.v, .int .i64 x2]) (hk : K x0 x1 x2) (hA0 : ad0 = ⟨b, 0, none⟩ := by first | rfl | exact add_off) (hA1 : ad1 = ⟨b, 1, none⟩ := by first | rfl | exact add_off) (hA2 : ad2 = ⟨b, 2, none⟩ := by first | rfl | exact add_off) : ldB ad0 w fun y0 => ldS ad1 w fun y1 => ldI .i64 ad2 w fun y2 => K y0 y1 y2 :=
  ldB_t (x := x0) 0 h rfl (ldS_t (x := x1) 1 h rfl (ldI_t (x := x2) 2 h rfl hk hA2) hA1) hA0
theorem out_t {V : Nat → Prop} {ad : Addr} {b i : Nat} {p : Prop} (hA : ad = ⟨b, i, none⟩) (hv : ¬ V b) (h : p) : Out V ad p := by subst hA; exact ⟨hv, h⟩
theorem br_map {b : Bool} {X Y X' Y' : Prop} (h : br b X Y) (hx : X → X') (hy : Y → Y') : br b X' Y' := by cases b; exact hy h; exact hx h
theorem semwp_map {P : Program} {α : Type} {e : Sem α} {w : World} {Q Q' : α → World → Prop} {E : Halt → World → Prop} (h : Sem.wp P e Q E w) (hq : ∀ a w', Q a w' → Q' a w') : Sem.wp P e Q' E w := by
  rw [Sem.wp_iff_run] at h ⊢
  generalize e.run P w = r at h
  cases r with
  | halt x w' => exact h
  | ok n w' => exact hq _ _ h
section
variable {P : Program} {e : Sem Value} {w : World}
theorem semA_map {K K' : Addr → World → Prop} (h : semA P e w K) (hk : ∀ x w', K x w' → K' x w') : semA P e w K' := semwp_map h fun _ _ ⟨x, h1, h2⟩ => ⟨x, h1, hk _ _ h2⟩
end

theorem _root_.Go.Proofs.YtahbekmnphkiiaaDoor.Sp.Rd.ext {w w' : World} {s : Slc} {l : List Int} (h : Rd .u64 w s l) (x : Ext w w') : Rd .u64 w' s l :=
  ⟨h.n, h.c, fun i hi => by obtain ⟨ad, e, hc⟩ := h.get i hi; exact ⟨ad, e, x.cell _ _ hc⟩⟩
theorem _root_.Go.Proofs.YtahbekmnphkiiaaDoor.Sp.Owr.ext {k : IntKind} {t : TypeId} {w w' : World} {s : Slc} {l : List Int} {b : Nat} (h : Owr k t w s l b) (x : Ext w w') (ht : rowTy t = true := by rfl) : Owr k t w' s l b := by
  obtain ⟨sp, h1, h2⟩ := h.mem
  exact ⟨h.hd, sp, h1, x.row _ _ _ _ h2 ht⟩

end L2
end Go.Proofs.YtahbekmnphkiiaaDoor
namespace Go.Proofs.YtahbekmnphkiiaaDoor
open Go Go.RowKit Eng Sp Dg
set_option linter.unusedVariables false
set_option linter.unusedSimpArgs false
set_option maxRecDepth 100000
namespace Ref
open _root_.Go.Proofs.YtahbekmnphkiiaaDoor.Nat (ldN OwnNil)

/-- The slice's row lies in this block. -/
def Bk (s : Slc) (k : Nat) : Prop := s.A = some ⟨k, 0, none⟩

theorem OwnNil.block {base : Nat} {w w' : World} {s : Slc} {l : List Nat} (h : OwnNil base w s l) (hb : ∀ k, k < w.heap.size → Bk s k → w'.heap[k]? = w.heap[k]?) : OwnNil base w' s l := by
  rcases h with h | ⟨b, h1, h2, h3⟩
  · exact .inl h
  · refine .inr ⟨b, h1, h2, h3.hd, ?_⟩
    obtain ⟨sp, hc, hm⟩ := h3.mem
    exact ⟨sp, hc, by rw [hb b h3.lt h3.A]; exact hm⟩

end Ref
end Go.Proofs.YtahbekmnphkiiaaDoor
namespace Go.Proofs.YtahbekmnphkiiaaDoor
open Go Go.RowKit Eng Sp Dg
set_option linter.unusedVariables false
set_option linter.unusedSimpArgs false
set_option maxRecDepth 100000
namespace Ref
open _root_.Go.Proofs.YtahbekmnphkiiaaDoor.Nat (OwnNil Num Ret bigC subC Yes own_num num_of digs_len_bl)

theorem digs_add_len {B x y k : Nat} (hB : 2 ≤ B) (hx : (digs B x).length ≤ k) (hy : (digs B y).length ≤ k) : (digs B (x + y)).length ≤ k + 1 := by
  have h : ∀ z, (digs B z).length ≤ k → z < B ^ k := fun z hz => by
    have := val_lt (ok_digs hB z)
    rw [val_digs hB] at this
    exact Nat.lt_of_lt_of_le this (Nat.pow_le_pow_right (by omega) hz)
  refine digs_length_le hB ?_
  have h1 := h x hx
  have h2 := h y hy
  rw [Nat.pow_succ]
  have := Nat.mul_le_mul_left (B ^ k) hB
  omega

end Ref
end Go.Proofs.YtahbekmnphkiiaaDoor
namespace Go.Proofs.YtahbekmnphkiiaaDoor
open Go Go.RowKit Eng Sp Dg L2
set_option linter.unusedVariables false
namespace Nat
theorem OwnNil.ext {base : Nat} {w w' : World} {s : Slc} {l : List Nat} (h : OwnNil base w s l) (x : Ext w w') : OwnNil base w' s l := by
  rcases h with h | ⟨b, h1, h2, h3⟩
  · exact .inl h
  · exact .inr ⟨b, h1, h2, h3.ext x⟩
theorem Num.ext {w w' : World} {s : Slc} {n : Nat} (h : Num w s n) (x : Ext w w') : Num w' s n := by
  obtain ⟨l, h1, h2⟩ := h
  exact ⟨l, h1.ext x, h2⟩
end Nat
namespace Ref
end Ref
end Go.Proofs.YtahbekmnphkiiaaDoor
namespace Go.Proofs.YtahbekmnphkiiaaDoor
open Go Go.RowKit Eng
set_option linter.unusedVariables false

set_option maxRecDepth 100000 in
/-- surd/dyadic.two: function 40. -/
theorem dyadic_two_vc (a0_a_0 : Bool) (a0_a_1 : Slc) (a0_a_2 : Int) (a1_b_0 : Bool) (a1_b_1 : Slc) (a1_b_2 : Int) (w : World) (R : Ending → World → Prop)
    
    (h : newC w #[Value.bool a0_a_0, a0_a_1.v, Value.int .i64 a0_a_2] 39 fun ad1 w1 =>
    newC w1 #[Value.bool a1_b_0, a1_b_1.v, Value.int .i64 a1_b_2] 39 fun ad2 w2 =>
    newC w2 #[Value.bool false, (⟨none, 0, 0⟩ : Slc).v, Value.int .i64 0] 76 fun ad3 w3 =>
    newC w3 #[Value.bool false, (⟨none, 0, 0⟩ : Slc).v, Value.int .i64 0] 76 fun ad4 w4 =>
    ldB ad1 w4 fun b1 =>
    ldS (ad1.add 1) w4 fun s1 =>
    ldI .i64 (ad1.add 2) w4 fun x1 =>
    Calls Tryd.prog 36 #[Value.agg #[Value.bool b1, s1.v, Value.int .i64 x1]] w4 fun e1 w5 =>
    ∃ b2 : Bool, ∃ s2 : Slc, ∃ x2 : Int, ∃ x3 : Int, e1 = .returned (Value.tuple #[Value.agg #[Value.bool b2, s2.v, Value.int .i64 x2], Value.int .i64 x3]) ∧
    (newC w5 #[Value.bool false, (⟨none, 0, 0⟩ : Slc).v, Value.int .i64 0] 76 fun ad5 w6 =>
     stC ad5 (Value.bool b2) w6 fun w7 =>
     stC (ad5.add 1) s2.v w7 fun w8 =>
     stC (ad5.add 2) (Value.int .i64 x2) w8 fun w9 =>
     br (x3 != 0)
     (∃ V1 : Nat → Nat → Prop, Out (V1 0) ad5 (ldB ad5 w9.drew fun b3 =>
       ldS (ad5.add 1) w9.drew fun s3 =>
       ldI .i64 (ad5.add 2) w9.drew fun x4 =>
       Out (V1 1) ad5 (ldB ad5 w9.drew fun b4 =>
        ldS (ad5.add 1) w9.drew fun s4 =>
        ldI .i64 (ad5.add 2) w9.drew fun x5 =>
        stC ad3 (Value.bool b3) w9.drew fun w10 =>
        stC (ad3.add 1) s3.v w10 fun w11 =>
        stC (ad3.add 2) (Value.int .i64 x4) w11 fun w12 =>
        Bar (V1 1) w9.drew w12 ∧
        (stC ad4 (Value.bool b4) w12 fun w13 =>
         stC (ad4.add 1) s4.v w13 fun w14 =>
         stC (ad4.add 2) (Value.int .i64 x5) w14 fun w15 =>
         ldB ad3 w15 fun b5 =>
         ldS (ad3.add 1) w15 fun s5 =>
         ldI .i64 (ad3.add 2) w15 fun x6 =>
         ldB ad4 w15 fun b6 =>
         ldS (ad4.add 1) w15 fun s6 =>
         ldI .i64 (ad4.add 2) w15 fun x7 =>
         R (.returned (Value.tuple #[Value.agg #[Value.bool b5, s5.v, Value.int .i64 x6], Value.agg #[Value.bool b6, s6.v, Value.int .i64 x7], Value.int .i64 x3])) w15))))
     (ldB ad2 w9 fun b7 =>
      ldS (ad2.add 1) w9 fun s7 =>
      ldI .i64 (ad2.add 2) w9 fun x8 =>
      Calls Tryd.prog 36 #[Value.agg #[Value.bool b7, s7.v, Value.int .i64 x8]] w9 fun e2 w16 =>
      ∃ b8 : Bool, ∃ s8 : Slc, ∃ x9 : Int, ∃ x10 : Int, e2 = .returned (Value.tuple #[Value.agg #[Value.bool b8, s8.v, Value.int .i64 x9], Value.int .i64 x10]) ∧
      (newC w16 #[Value.bool false, (⟨none, 0, 0⟩ : Slc).v, Value.int .i64 0] 76 fun ad6 w17 =>
       stC ad6 (Value.bool b8) w17 fun w18 =>
       stC (ad6.add 1) s8.v w18 fun w19 =>
       stC (ad6.add 2) (Value.int .i64 x9) w19 fun w20 =>
       ∃ V2 : Nat → Nat → Prop, Out (V2 0) ad5 (ldB ad5 w20.drew fun b9 =>
        ldS (ad5.add 1) w20.drew fun s9 =>
        ldI .i64 (ad5.add 2) w20.drew fun x11 =>
        Out (V2 1) ad6 (ldB ad6 w20.drew fun b10 =>
         ldS (ad6.add 1) w20.drew fun s10 =>
         ldI .i64 (ad6.add 2) w20.drew fun x12 =>
         stC ad3 (Value.bool b9) w20.drew fun w21 =>
         stC (ad3.add 1) s9.v w21 fun w22 =>
         stC (ad3.add 2) (Value.int .i64 x11) w22 fun w23 =>
         Bar (V2 1) w20.drew w23 ∧
         (stC ad4 (Value.bool b10) w23 fun w24 =>
          stC (ad4.add 1) s10.v w24 fun w25 =>
          stC (ad4.add 2) (Value.int .i64 x12) w25 fun w26 =>
          ldB ad3 w26 fun b11 =>
          ldS (ad3.add 1) w26 fun s11 =>
          ldI .i64 (ad3.add 2) w26 fun x13 =>
          ldB ad4 w26 fun b12 =>
          ldS (ad4.add 1) w26 fun s12 =>
          ldI .i64 (ad4.add 2) w26 fun x14 =>
          R (.returned (Value.tuple #[Value.agg #[Value.bool b11, s11.v, Value.int .i64 x13], Value.agg #[Value.bool b12, s12.v, Value.int .i64 x14], Value.int .i64 x10])) w26))))))) :
    Calls Tryd.prog 40 #[Value.agg #[Value.bool a0_a_0, a0_a_1.v, Value.int .i64 a0_a_2], Value.agg #[Value.bool a1_b_0, a1_b_1.v, Value.int .i64 a1_b_2]] w R := by
  refine calls_of_vc (marks [2000003, 2000005] (fun _ => none)) (by kernel_rfl) Tryd.func40 rfl ?_ ?_
  · refine kcast h ?_; kernel_rfl
  · exact (obl_seq rfl (obl_reg (obl_seq rfl (obl_reg (obl_seq rfl (obl_seq rfl (obl_reg (obl_cond (obl_seq rfl (obl_store _ rfl (by kernel_rfl) (obl_ret (obl_skip (obl_seq rfl (obl_reg (obl_seq rfl (obl_store _ rfl (by kernel_rfl) (obl_ret trivial)))))))))))))))))

def dyadic_sum_cut (K4 : Addr → Addr → Addr → World → Prop) (K8 : Addr → Addr → Addr → World → Prop) (K11 : Addr → Addr → Addr → Int → World → Prop) (K12 : Addr → Addr → Addr → Addr → Int → World → Prop) : Nat → Option ((Act → World → Prop) × (Act → World → Nat))
  | 3000004 => some (fun a_ w_ => atSz a_ 97 (atA a_ 2 fun t2 => atA a_ 3 fun t3 => atA a_ 4 fun t4 => K4 t2 t3 t4 w_), fun _ _ => 0)
  | 3000008 => some (fun a_ w_ => atSz a_ 97 (atA a_ 2 fun t2 => atA a_ 3 fun t3 => atA a_ 4 fun t4 => K8 t2 t3 t4 w_), fun _ _ => 0)
  | 3000011 => some (fun a_ w_ => atSz a_ 97 (atA a_ 2 fun t2 => atA a_ 3 fun t3 => atA a_ 4 fun t4 => atI .i64 a_ 6 fun t6 => K11 t2 t3 t4 t6 w_), fun _ _ => 0)
  | 3000012 => some (fun a_ w_ => atSz a_ 97 (atA a_ 2 fun t2 => atA a_ 3 fun t3 => atA a_ 4 fun t4 => atA a_ 7 fun t7 => atI .i64 a_ 8 fun t8 => K12 t2 t3 t4 t7 t8 w_), fun _ _ => 0)
  | _ => none

set_option maxRecDepth 100000 in
/-- surd/dyadic.sum: function 57. -/
theorem dyadic_sum_vc (a0_0 : Bool) (a0_1 : Slc) (a0_2 : Int) (a1_0 : Bool) (a1_1 : Slc) (a1_2 : Int) (w : World) (R : Ending → World → Prop)
    (K4 : Addr → Addr → Addr → World → Prop) (K8 : Addr → Addr → Addr → World → Prop) (K11 : Addr → Addr → Addr → Int → World → Prop) (K12 : Addr → Addr → Addr → Addr → Int → World → Prop)
    (h : newC w #[Value.bool a0_0, a0_1.v, Value.int .i64 a0_2] 76 fun ad1 w1 =>
    newC w1 #[Value.bool a1_0, a1_1.v, Value.int .i64 a1_2] 76 fun ad2 w2 =>
    newC w2 #[Value.bool false, (⟨none, 0, 0⟩ : Slc).v, Value.int .i64 0] 39 fun ad3 w3 =>
    ldB ad1 w3 fun b1 =>
    ldS (ad1.add 1) w3 fun s1 =>
    Calls Tryd.prog 64 #[Value.agg #[Value.bool b1, s1.v]] w3 fun e1 w4 =>
    ∃ x1 : Int, e1 = .returned (Value.int .i64 x1) ∧
    (br (x1 == 0)
     (ldB ad2 w4 fun b2 =>
      ldS (ad2.add 1) w4 fun s2 =>
      ldI .i64 (ad2.add 2) w4 fun x2 =>
      ldB ad1 w4 fun b3 =>
      ldS (ad1.add 1) w4 fun s3 =>
      ldI .i64 (ad1.add 2) w4 fun x3 =>
      stC ad1 (Value.bool b2) w4 fun w5 =>
      stC (ad1.add 1) s2.v w5 fun w6 =>
      stC (ad1.add 2) (Value.int .i64 x2) w6 fun w7 =>
      stC ad2 (Value.bool b3) w7 fun w8 =>
      stC (ad2.add 1) s3.v w8 fun w9 =>
      stC (ad2.add 2) (Value.int .i64 x3) w9 fun w10 =>
      K4 ad1 ad2 ad3 w10)
     (K4 ad1 ad2 ad3 w4)))
    (h3000004 : ∀ (t2 : Addr) (t3 : Addr) (t4 : Addr) (w_ : World), K4 t2 t3 t4 w_ → 
    ldB t3 w_ fun b4 =>
    ldS (t3.add 1) w_ fun s4 =>
    Calls Tryd.prog 64 #[Value.agg #[Value.bool b4, s4.v]] w_ fun e2 w11 =>
    ∃ x4 : Int, e2 = .returned (Value.int .i64 x4) ∧
    (br (x4 == 0)
     (ldB t2 w11 fun b5 =>
      ldS (t2.add 1) w11 fun s5 =>
      ldI .i64 (t2.add 2) w11 fun x5 =>
      Calls Tryd.prog 42 #[Value.agg #[Value.bool b5, s5.v], Value.int .i64 x5] w11 fun e3 w12 =>
      ∃ b6 : Bool, ∃ s6 : Slc, ∃ x6 : Int, ∃ x7 : Int, e3 = .returned (Value.tuple #[Value.agg #[Value.bool b6, s6.v, Value.int .i64 x6], Value.int .i64 x7]) ∧
      (stC t4 (Value.bool b6) w12 fun w13 =>
       stC (t4.add 1) s6.v w13 fun w14 =>
       stC (t4.add 2) (Value.int .i64 x6) w14 fun w15 =>
       ldB t4 w15 fun b7 =>
       ldS (t4.add 1) w15 fun s7 =>
       ldI .i64 (t4.add 2) w15 fun x8 =>
       R (.returned (Value.tuple #[Value.agg #[Value.bool b7, s7.v, Value.int .i64 x8], Value.int .i64 x7])) w15))
     (ldI .i64 (t2.add 2) w11 fun x9 =>
      ldI .i64 (t3.add 2) w11 fun x10 =>
      br (decide (x9 < x10))
      (ldB t3 w11 fun b8 =>
       ldS (t3.add 1) w11 fun s8 =>
       ldI .i64 (t3.add 2) w11 fun x11 =>
       ldB t2 w11 fun b9 =>
       ldS (t2.add 1) w11 fun s9 =>
       ldI .i64 (t2.add 2) w11 fun x12 =>
       stC t2 (Value.bool b8) w11 fun w16 =>
       stC (t2.add 1) s8.v w16 fun w17 =>
       stC (t2.add 2) (Value.int .i64 x11) w17 fun w18 =>
       stC t3 (Value.bool b9) w18 fun w19 =>
       stC (t3.add 1) s9.v w19 fun w20 =>
       stC (t3.add 2) (Value.int .i64 x12) w20 fun w21 =>
       K8 t2 t3 t4 w21)
      (K8 t2 t3 t4 w11))))
    (h3000008 : ∀ (t2 : Addr) (t3 : Addr) (t4 : Addr) (w_ : World), K8 t2 t3 t4 w_ → 
    ldI .i64 (t2.add 2) w_ fun x13 =>
    ldI .i64 (t3.add 2) w_ fun x14 =>
    br (decide ((IntKind.i64.wrap (x13 - x14)) > 0))
    (ldB t2 w_.drew fun b10 =>
     ldS (t2.add 1) w_.drew fun s10 =>
     ldI .i64 (t2.add 2) w_.drew fun x15 =>
     ldB t3 w_.drew fun b11 =>
     ldS (t3.add 1) w_.drew fun s11 =>
     ldI .i64 (t3.add 2) w_.drew fun x16 =>
     ldI .i64 (t3.add 2) w_.drew fun x17 =>
     Calls Tryd.prog 78 #[Value.agg #[Value.bool b10, s10.v, Value.int .i64 x15]] w_.drew fun e4 w22 =>
     ∃ x18 : Int, e4 = .returned (Value.int .i64 x18) ∧
     (Ahead w_.drew w22 ∧
      (Calls Tryd.prog 78 #[Value.agg #[Value.bool b11, s11.v, Value.int .i64 x16]] w22 fun e5 w23 =>
       ∃ x19 : Int, e5 = .returned (Value.int .i64 x19) ∧
       (Ahead w22 w23 ∧
        (br (decide ((IntKind.i64.wrap ((maxI x18 (IntKind.i64.wrap (x19 + 1))) - x17)) > 67108866))
         (stC t4 (Value.bool false) w23 fun w24 =>
          stC (t4.add 1) ((⟨none, 0, 0⟩ : Slc).v) w24 fun w25 =>
          stC (t4.add 2) (Value.int .i64 0) w25 fun w26 =>
          ldB t4 w26 fun b12 =>
          ldS (t4.add 1) w26 fun s12 =>
          ldI .i64 (t4.add 2) w26 fun x20 =>
          R (.returned (Value.tuple #[Value.agg #[Value.bool b12, s12.v, Value.int .i64 x20], Value.int .i64 3])) w26)
         (K11 t2 t3 t4 (IntKind.i64.wrap (x13 - x14)) w23))))))
    (K11 t2 t3 t4 (IntKind.i64.wrap (x13 - x14)) w_.drew))
    (h3000011 : ∀ (t2 : Addr) (t3 : Addr) (t4 : Addr) (t6 : Int) (w_ : World), K11 t2 t3 t4 t6 w_ → 
    ∃ V1 : Nat → Nat → Prop, Out (V1 3) t2 (ldB t2 w_.drew fun b13 =>
     Out (V1 7) (t2.add 1) (ldS (t2.add 1) w_.drew fun s13 =>
      (Calls Tryd.prog 80 #[s13.v, Value.int .i64 t6] w_.drew fun e6 w27 =>
       ∃ s14 : Slc, e6 = .returned s14.v ∧
       (Bar (V1 3) w_.drew w27 ∧
        ((Calls Tryd.prog 79 #[Value.bool b13, s14.v] w27 fun e7 w28 =>
          ∃ b14 : Bool, ∃ s15 : Slc, ∃ x21 : Int, e7 = .returned (Value.tuple #[Value.agg #[Value.bool b14, s15.v], Value.int .i64 x21]) ∧
          (newC w28 #[Value.bool false, (⟨none, 0, 0⟩ : Slc).v] 37 fun ad4 w29 =>
           Bar (V1 3) w28 w29 ∧
           (Bar (V1 7) w28 w29 ∧
            (stC ad4 (Value.bool b14) w29 fun w30 =>
             stC (ad4.add 1) s15.v w30 fun w31 =>
             K12 t2 t3 t4 ad4 x21 w31)))) ∧
         (newC w27 #[Value.bool false, (⟨none, 0, 0⟩ : Slc).v] 37 fun ad6 w48 =>
          Bar (V1 3) w27 w48 ∧
          (Bar (V1 7) w27 w48 ∧
           (Calls Tryd.prog 79 #[Value.bool b13, s14.v] w48 fun e12 w49 =>
            ∃ b29 : Bool, ∃ s30 : Slc, ∃ x37 : Int, e12 = .returned (Value.tuple #[Value.agg #[Value.bool b29, s30.v], Value.int .i64 x37]) ∧
            (stC ad6 (Value.bool b29) w49 fun w50 =>
             stC (ad6.add 1) s30.v w50 fun w51 =>
             K12 t2 t3 t4 ad6 x37 w51))))))) ∧
      (newC w_.drew #[Value.bool false, (⟨none, 0, 0⟩ : Slc).v] 37 fun ad7 w52 =>
       Bar (V1 3) w_.drew w52 ∧
       (Bar (V1 7) w_.drew w52 ∧
        (Calls Tryd.prog 80 #[s13.v, Value.int .i64 t6] w52 fun e13 w53 =>
         ∃ s31 : Slc, e13 = .returned s31.v ∧
         (Bar (V1 3) w52 w53 ∧
          (Calls Tryd.prog 79 #[Value.bool b13, s31.v] w53 fun e14 w54 =>
           ∃ b30 : Bool, ∃ s32 : Slc, ∃ x38 : Int, e14 = .returned (Value.tuple #[Value.agg #[Value.bool b30, s32.v], Value.int .i64 x38]) ∧
           (stC ad7 (Value.bool b30) w54 fun w55 =>
            stC (ad7.add 1) s32.v w55 fun w56 =>
            K12 t2 t3 t4 ad7 x38 w56)))))))))
    (h3000012 : ∀ (t2 : Addr) (t3 : Addr) (t4 : Addr) (t7 : Addr) (t8 : Int) (w_ : World), K12 t2 t3 t4 t7 t8 w_ → 
    br (t8 != 0)
    (ldB t2 w_ fun b15 =>
     ldS (t2.add 1) w_ fun s16 =>
     ldI .i64 (t2.add 2) w_ fun x22 =>
     ldB t3 w_ fun b16 =>
     ldS (t3.add 1) w_ fun s17 =>
     ldI .i64 (t3.add 2) w_ fun x23 =>
     Calls Tryd.prog 81 #[Value.agg #[Value.bool b15, s16.v, Value.int .i64 x22], Value.agg #[Value.bool b16, s17.v, Value.int .i64 x23]] w_ fun e8 w32 =>
     ∃ b17 : Bool, ∃ s18 : Slc, ∃ x24 : Int, ∃ x25 : Int, e8 = .returned (Value.tuple #[Value.agg #[Value.bool b17, s18.v, Value.int .i64 x24], Value.int .i64 x25]) ∧
     (stC t4 (Value.bool b17) w32 fun w33 =>
      stC (t4.add 1) s18.v w33 fun w34 =>
      stC (t4.add 2) (Value.int .i64 x24) w34 fun w35 =>
      ldB t4 w35 fun b18 =>
      ldS (t4.add 1) w35 fun s19 =>
      ldI .i64 (t4.add 2) w35 fun x26 =>
      R (.returned (Value.tuple #[Value.agg #[Value.bool b18, s19.v, Value.int .i64 x26], Value.int .i64 x25])) w35))
    (ldB t7 w_ fun b19 =>
     ldS (t7.add 1) w_ fun s20 =>
     ldB t3 w_ fun b20 =>
     ldS (t3.add 1) w_ fun s21 =>
     Calls Tryd.prog 82 #[Value.agg #[Value.bool b19, s20.v], Value.agg #[Value.bool b20, s21.v]] w_ fun e9 w36 =>
     ∃ b21 : Bool, ∃ s22 : Slc, ∃ x27 : Int, e9 = .returned (Value.tuple #[Value.agg #[Value.bool b21, s22.v], Value.int .i64 x27]) ∧
     (newC w36 #[Value.bool false, (⟨none, 0, 0⟩ : Slc).v] 37 fun ad5 w37 =>
      stC ad5 (Value.bool b21) w37 fun w38 =>
      stC (ad5.add 1) s22.v w38 fun w39 =>
      br (x27 != 0)
      (ldB t2 w39 fun b22 =>
       ldS (t2.add 1) w39 fun s23 =>
       ldI .i64 (t2.add 2) w39 fun x28 =>
       ldB t3 w39 fun b23 =>
       ldS (t3.add 1) w39 fun s24 =>
       ldI .i64 (t3.add 2) w39 fun x29 =>
       Calls Tryd.prog 81 #[Value.agg #[Value.bool b22, s23.v, Value.int .i64 x28], Value.agg #[Value.bool b23, s24.v, Value.int .i64 x29]] w39 fun e10 w40 =>
       ∃ b24 : Bool, ∃ s25 : Slc, ∃ x30 : Int, ∃ x31 : Int, e10 = .returned (Value.tuple #[Value.agg #[Value.bool b24, s25.v, Value.int .i64 x30], Value.int .i64 x31]) ∧
       (stC t4 (Value.bool b24) w40 fun w41 =>
        stC (t4.add 1) s25.v w41 fun w42 =>
        stC (t4.add 2) (Value.int .i64 x30) w42 fun w43 =>
        ldB t4 w43 fun b25 =>
        ldS (t4.add 1) w43 fun s26 =>
        ldI .i64 (t4.add 2) w43 fun x32 =>
        R (.returned (Value.tuple #[Value.agg #[Value.bool b25, s26.v, Value.int .i64 x32], Value.int .i64 x31])) w43))
      (ldB ad5 w39 fun b26 =>
       ldS (ad5.add 1) w39 fun s27 =>
       ldI .i64 (t3.add 2) w39 fun x33 =>
       Calls Tryd.prog 42 #[Value.agg #[Value.bool b26, s27.v], Value.int .i64 x33] w39 fun e11 w44 =>
       ∃ b27 : Bool, ∃ s28 : Slc, ∃ x34 : Int, ∃ x35 : Int, e11 = .returned (Value.tuple #[Value.agg #[Value.bool b27, s28.v, Value.int .i64 x34], Value.int .i64 x35]) ∧
       (stC t4 (Value.bool b27) w44 fun w45 =>
        stC (t4.add 1) s28.v w45 fun w46 =>
        stC (t4.add 2) (Value.int .i64 x34) w46 fun w47 =>
        ldB t4 w47 fun b28 =>
        ldS (t4.add 1) w47 fun s29 =>
        ldI .i64 (t4.add 2) w47 fun x36 =>
        R (.returned (Value.tuple #[Value.agg #[Value.bool b28, s29.v, Value.int .i64 x36], Value.int .i64 x35])) w47))))) :
    Calls Tryd.prog 57 #[Value.agg #[Value.bool a0_0, a0_1.v, Value.int .i64 a0_2], Value.agg #[Value.bool a1_0, a1_1.v, Value.int .i64 a1_2]] w R := by
  refine calls_of_vc (marks [2000010] (dyadic_sum_cut K4 K8 K11 K12)) (by kernel_rfl) Tryd.func57 rfl ?_ ?_
  · refine kcast h ?_; kernel_rfl
  · exact (obl_seq rfl (obl_reg (obl_join _ rfl (obl_seq rfl (obl_reg (obl_cond (obl_reg (obl_skip trivial))))) (fun a_ w_ hL_ => (by
    obtain ⟨hz_, hd_, hL_⟩ := atSz_out hL_
    obtain ⟨t2, h2_, hL_⟩ := atA_out hL_
    obtain ⟨t3, h3_, hL_⟩ := atA_out hL_
    obtain ⟨t4, h4_, hL_⟩ := atA_out hL_
    obtain ⟨g3000004, rfl⟩ : ∃ g, a_ = Fr 97 [(2, Value.pointer (some t2)), (3, Value.pointer (some t3)), (4, Value.pointer (some t4))] g := ⟨_, fr_of hz_ hd_ [(2, Value.pointer (some t2)), (3, Value.pointer (some t3)), (4, Value.pointer (some t4))] (sel_cons h2_ (sel_cons h3_ (sel_cons h4_ sel_nil)))⟩
    clear hz_ hd_ h2_ h3_ h4_
    have hJ3000004_ := hL_
    refine ⟨(marks [2000010] (dyadic_sum_cut K4 K8 K11 K12)), kcast (h3000004 t2 t3 t4 w_ hJ3000004_) ?_, ?_⟩
    · kernel_rfl
    · exact (obl_seq rfl (obl_seq rfl (obl_reg (obl_cond (obl_seq rfl (obl_reg (obl_ret (obl_skip (obl_join _ rfl (obl_seq rfl (obl_reg (obl_cond (obl_reg (obl_skip trivial))))) (fun a_ w_ hL_ => (by
      obtain ⟨hz_, hd_, hL_⟩ := atSz_out hL_
      obtain ⟨t2, h2_, hL_⟩ := atA_out hL_
      obtain ⟨t3, h3_, hL_⟩ := atA_out hL_
      obtain ⟨t4, h4_, hL_⟩ := atA_out hL_
      obtain ⟨g3000008, rfl⟩ : ∃ g, a_ = Fr 97 [(2, Value.pointer (some t2)), (3, Value.pointer (some t3)), (4, Value.pointer (some t4))] g := ⟨_, fr_of hz_ hd_ [(2, Value.pointer (some t2)), (3, Value.pointer (some t3)), (4, Value.pointer (some t4))] (sel_cons h2_ (sel_cons h3_ (sel_cons h4_ sel_nil)))⟩
      clear hz_ hd_ h2_ h3_ h4_
      have hJ3000008_ := hL_
      refine ⟨(marks [2000010] (dyadic_sum_cut K4 K8 K11 K12)), kcast (h3000008 t2 t3 t4 w_ hJ3000008_) ?_, ?_⟩
      · kernel_rfl
      · exact (obl_seq rfl (obl_reg (obl_join _ rfl (obl_seq rfl (obl_held (by kernel_rfl) (by kernel_rfl) (by kernel_rfl) (obl_cond (obl_seq rfl (obl_reg (obl_ret (obl_skip trivial))))))) (fun a_ w_ hL_ => (by
        obtain ⟨hz_, hd_, hL_⟩ := atSz_out hL_
        obtain ⟨t2, h2_, hL_⟩ := atA_out hL_
        obtain ⟨t3, h3_, hL_⟩ := atA_out hL_
        obtain ⟨t4, h4_, hL_⟩ := atA_out hL_
        obtain ⟨t6, h6_, hL_⟩ := atI_out hL_
        obtain ⟨g3000011, rfl⟩ : ∃ g, a_ = Fr 97 [(2, Value.pointer (some t2)), (3, Value.pointer (some t3)), (4, Value.pointer (some t4)), (6, Value.int .i64 t6)] g := ⟨_, fr_of hz_ hd_ [(2, Value.pointer (some t2)), (3, Value.pointer (some t3)), (4, Value.pointer (some t4)), (6, Value.int .i64 t6)] (sel_cons h2_ (sel_cons h3_ (sel_cons h4_ (sel_cons h6_ sel_nil))))⟩
        clear hz_ hd_ h2_ h3_ h4_ h6_
        have hJ3000011_ := hL_
        refine ⟨(marks [2000010] (dyadic_sum_cut K4 K8 K11 K12)), kcast (h3000011 t2 t3 t4 t6 w_ hJ3000011_) ?_, ?_⟩
        · kernel_rfl
        · exact (obl_join _ rfl (obl_store _ rfl (by kernel_rfl) trivial) (fun a_ w_ hL_ => (by
          obtain ⟨hz_, hd_, hL_⟩ := atSz_out hL_
          obtain ⟨t2, h2_, hL_⟩ := atA_out hL_
          obtain ⟨t3, h3_, hL_⟩ := atA_out hL_
          obtain ⟨t4, h4_, hL_⟩ := atA_out hL_
          obtain ⟨t7, h7_, hL_⟩ := atA_out hL_
          obtain ⟨t8, h8_, hL_⟩ := atI_out hL_
          obtain ⟨g3000012, rfl⟩ : ∃ g, a_ = Fr 97 [(2, Value.pointer (some t2)), (3, Value.pointer (some t3)), (4, Value.pointer (some t4)), (7, Value.pointer (some t7)), (8, Value.int .i64 t8)] g := ⟨_, fr_of hz_ hd_ [(2, Value.pointer (some t2)), (3, Value.pointer (some t3)), (4, Value.pointer (some t4)), (7, Value.pointer (some t7)), (8, Value.int .i64 t8)] (sel_cons h2_ (sel_cons h3_ (sel_cons h4_ (sel_cons h7_ (sel_cons h8_ sel_nil)))))⟩
          clear hz_ hd_ h2_ h3_ h4_ h7_ h8_
          have hJ3000012_ := hL_
          refine ⟨(marks [2000010] (dyadic_sum_cut K4 K8 K11 K12)), kcast (h3000012 t2 t3 t4 t7 t8 w_ hJ3000012_) ?_, ?_⟩
          · kernel_rfl
          · exact (obl_seq rfl (obl_seq rfl (obl_reg (obl_cond (obl_seq rfl (obl_reg (obl_ret (obl_skip (obl_seq rfl (obl_reg (obl_seq rfl (obl_seq rfl (obl_reg (obl_cond (obl_seq rfl (obl_reg (obl_ret (obl_skip (obl_seq rfl (obl_reg (obl_ret trivial)))))))))))))))))))))))))))))))))))))))))))))

set_option maxRecDepth 100000 in
/-- surd/whole.fits: function 95. -/
theorem whole_fits_vc (a0_a_0 : Bool) (a0_a_1 : Slc) (w : World) (R : Ending → World → Prop)
    
    (h : newC w #[Value.bool a0_a_0, a0_a_1.v] 37 fun ad1 w1 =>
    newC w1 #[Value.bool false, (⟨none, 0, 0⟩ : Slc).v] 37 fun ad2 w2 =>
    ldS (ad1.add 1) w2 fun s1 =>
    Calls Tryd.prog 85 #[s1.v] w2 fun e1 w3 =>
    ∃ x1 : Int, e1 = .returned (Value.int .i64 x1) ∧
    (br (decide (x1 > 67108864))
     (stC ad2 (Value.bool false) w3 fun w4 =>
      stC (ad2.add 1) ((⟨none, 0, 0⟩ : Slc).v) w4 fun w5 =>
      ldB ad2 w5 fun b1 =>
      ldS (ad2.add 1) w5 fun s2 =>
      R (.returned (Value.tuple #[Value.agg #[Value.bool b1, s2.v], Value.int .i64 3])) w5)
     (ldB ad1 w3 fun b2 =>
      ldS (ad1.add 1) w3 fun s3 =>
      Calls Tryd.prog 101 #[Value.agg #[Value.bool b2, s3.v]] w3 fun e2 w6 =>
      ∃ b3 : Bool, ∃ s4 : Slc, e2 = .returned (Value.agg #[Value.bool b3, s4.v]) ∧
      (stC ad2 (Value.bool b3) w6 fun w7 =>
       stC (ad2.add 1) s4.v w7 fun w8 =>
       ldB ad2 w8 fun b4 =>
       ldS (ad2.add 1) w8 fun s5 =>
       R (.returned (Value.tuple #[Value.agg #[Value.bool b4, s5.v], Value.int .i64 0])) w8)))) :
    Calls Tryd.prog 95 #[Value.agg #[Value.bool a0_a_0, a0_a_1.v]] w R := by
  refine calls_of_vc (fun _ => none) (by kernel_rfl) Tryd.func95 rfl ?_ ?_
  · refine kcast h ?_; kernel_rfl
  · exact (obl_seq rfl (obl_reg (obl_seq rfl (obl_seq rfl (obl_reg (obl_cond (obl_seq rfl (obl_reg (obl_ret (obl_skip (obl_seq rfl (obl_reg (obl_ret trivial)))))))))))))

set_option maxRecDepth 100000 in
/-- surd/whole.norm: function 101. -/
theorem whole_norm_vc (a0_a_0 : Bool) (a0_a_1 : Slc) (w : World) (R : Ending → World → Prop)
    
    (h : newC w #[Value.bool a0_a_0, a0_a_1.v] 37 fun ad1 w1 =>
    newC w1 #[Value.bool false, (⟨none, 0, 0⟩ : Slc).v] 37 fun ad2 w2 =>
    ldS (ad1.add 1) w2 fun s1 =>
    Calls Tryd.prog 86 #[s1.v] w2 fun e1 w3 =>
    ∃ s2 : Slc, e1 = .returned s2.v ∧
    (ldB ad1 w3 fun b1 =>
     br b1
     (stC ad2 (Value.bool (decide ((s2.n : Int) > 0))) w3 fun w4 =>
      stC (ad2.add 1) s2.v w4 fun w5 =>
      ldB ad2 w5 fun b2 =>
      ldS (ad2.add 1) w5 fun s3 =>
      R (.returned (Value.agg #[Value.bool b2, s3.v])) w5)
     (stC ad2 (Value.bool false) w3 fun w6 =>
      stC (ad2.add 1) s2.v w6 fun w7 =>
      ldB ad2 w7 fun b3 =>
      ldS (ad2.add 1) w7 fun s4 =>
      R (.returned (Value.agg #[Value.bool b3, s4.v])) w7))) :
    Calls Tryd.prog 101 #[Value.agg #[Value.bool a0_a_0, a0_a_1.v]] w R := by
  refine calls_of_vc (fun _ => none) (by kernel_rfl) Tryd.func101 rfl ?_ ?_
  · refine kcast h ?_; kernel_rfl
  · exact (obl_seq rfl (obl_reg (obl_seq rfl (obl_reg (obl_seq rfl (obl_reg (obl_ret trivial)))))))

set_option maxRecDepth 100000 in
/-- surd/whole.result: function 67. -/
theorem whole_result_vc (a0_neg : Bool) (a1_n : Slc) (a2_e : Int) (w : World) (R : Ending → World → Prop)
    
    (h : newC w #[Value.bool false, (⟨none, 0, 0⟩ : Slc).v] 37 fun ad1 w1 =>
    br (a2_e != 0)
    (stC ad1 (Value.bool false) w1 fun w2 =>
     stC (ad1.add 1) ((⟨none, 0, 0⟩ : Slc).v) w2 fun w3 =>
     ldB ad1 w3 fun b1 =>
     ldS (ad1.add 1) w3 fun s1 =>
     R (.returned (Value.tuple #[Value.agg #[Value.bool b1, s1.v], Value.int .i64 a2_e])) w3)
    (Calls Tryd.prog 95 #[Value.agg #[Value.bool a0_neg, a1_n.v]] w1 fun e1 w4 =>
     ∃ b2 : Bool, ∃ s2 : Slc, ∃ x1 : Int, e1 = .returned (Value.tuple #[Value.agg #[Value.bool b2, s2.v], Value.int .i64 x1]) ∧
     (stC ad1 (Value.bool b2) w4 fun w5 =>
      stC (ad1.add 1) s2.v w5 fun w6 =>
      ldB ad1 w6 fun b3 =>
      ldS (ad1.add 1) w6 fun s3 =>
      R (.returned (Value.tuple #[Value.agg #[Value.bool b3, s3.v], Value.int .i64 x1])) w6))) :
    Calls Tryd.prog 67 #[Value.bool a0_neg, a1_n.v, Value.int .i64 a2_e] w R := by
  refine calls_of_vc (fun _ => none) (by kernel_rfl) Tryd.func67 rfl ?_ ?_
  · refine kcast h ?_; kernel_rfl
  · exact (obl_seq rfl (obl_reg (obl_seq rfl (obl_seq rfl (obl_reg (obl_cond (obl_seq rfl (obl_reg (obl_ret (obl_skip (obl_seq rfl (obl_reg (obl_ret trivial)))))))))))))

end Go.Proofs.YtahbekmnphkiiaaDoor
namespace Go.Proofs.YtahbekmnphkiiaaDoor
open Go Go.RowKit Eng Sp Dg L2
set_option linter.unusedVariables false
set_option linter.unusedSimpArgs false
set_option maxRecDepth 100000
namespace Dy
open _root_.Go.Proofs.YtahbekmnphkiiaaDoor.Nat (ldN ldNf stF stFf mkF Fill OwnNil Num Num.bl OwnNil.mono OwnNil.ext OwnNil.rd OwnNil.ahead OwnNil.nil bigC leftC left_num Norm_spec Length_spec len_num semShr semShl fixShl orI_nat digs_len_bl)
open _root_.Go.Proofs.YtahbekmnphkiiaaDoor.Ref (len_mono)
open Sb

theorem limb_spec {w : World} {s : Slc} {l : List Nat} (h : Rd .u64 w s (nn l)) {i : Int} (h0 : 0 ≤ i) :
    Calls pr dyadic_limb_id #[s.v, .int .i64 i] w fun e w' => w' = w ∧ e = .returned (.int .u64 (l.getD i.toNat 0 : Nat)) := by
  have hn : s.n = l.length := by rw [h.n, nn_length]
  refine dyadic_limb_vc s i w _ (br_intro (fun hlt => ?_) (fun hge => ?_))
  · have hlt' : i < l.length := by have := of_decide_eq_true hlt; omega
    exact ldN h h0 hlt' ⟨rfl, rfl⟩
  · refine ⟨rfl, ?_⟩
    rw [getD_ge l 0 (by have := of_decide_eq_false hge; omega)]; rfl

theorem plus_spec {w : World} {p q : Slc} {x y : Nat} (hp : Rd .u64 w p (nn (digs B64 x))) (hq : Rd .u64 w q (nn (digs B64 y))) (la : (digs B64 x).length + 1 ≤ 2 ^ 44) (lb : (digs B64 y).length + 1 ≤ 2 ^ 44) :
    Calls pr dyadic_plus_id #[p.v, q.v] w fun e w' => Ahead w w' ∧ ∃ s, e = .returned (Slc.v s) ∧ OwnNil w.heap.size w' s (digs B64 (x + y)) := by
  have hB := B64v
  have hna : p.n = (digs B64 x).length := by rw [hp.n, nn_length]
  have hnb : q.n = (digs B64 y).length := by rw [hq.n, nn_length]
  have oa := ok_digs two64 x
  have ob := ok_digs two64 y
  have vx := val_digs two64 x
  have vy := val_digs two64 y
  generalize digs B64 x = A at *
  generalize digs B64 y = C at *
  refine dyadic_plus_vc p q w _ (fun s t out k n i w' => s = p ∧ t = q ∧ ∃ (m : Nat) (l : List Nat) (j cr : Nat), n = ((m + 1 : Nat) : Int) ∧ A.length ≤ m ∧ C.length ≤ m ∧ m + 1 ≤ 2 ^ 44 ∧ k = (cr : Int) ∧ cr ≤ 1 ∧ i = (j : Int) ∧ j ≤ m + 1 ∧
    Fill w w' out l (fun _ => True) ∧ l.length = m + 1 ∧ ok B64 l ∧ val B64 (l.take j) + cr * B64 ^ j = val B64 (A.take j) + val B64 (C.take j)) (fun _ _ _ _ n i _ => (n - i).toNat) ?_ ?_
  · have em : maxI (p.n : Int) (q.n : Int) = ((max A.length C.length : Nat) : Int) := by
      unfold maxI; split <;> omega
    rw [em, wrap_i64 (by omega) (by omega)]
    refine mkF (S := fun _ => True) (w0 := w) (by omega) (by omega) (Ahead.refl _) trivial ?_
    intro s w1 hsn hf ha
    refine ⟨rfl, rfl, max A.length C.length, _, 0, 0, by rw [hsn]; omega, by omega, by omega, by omega, rfl, by omega, rfl, Nat.zero_le _, hf, by rw [List.length_replicate]; omega, ok_replicate (by omega) _, by simp [val]⟩
  · rintro s t out k n i w1 ⟨rfl, rfl, m, l, j, cr, rfl, hA, hC, hm, rfl, hcr, rfl, hj, hf, hl, ol, hv⟩
    refine br_intro (fun hlt => ?_) (fun hge => ?_)
    · have hj' : j < m + 1 := by have := of_decide_eq_true hlt; omega
      refine Calls.mono (limb_spec (hp.ahead hf.base) (by omega)) ?_
      rintro e w2 ⟨rfl, rfl⟩
      refine ⟨_, rfl, Calls.mono (limb_spec (hq.ahead hf.base) (by omega)) ?_⟩
      rintro e w3 ⟨rfl, rfl⟩
      refine ⟨_, rfl, ?_⟩
      rw [Int.toNat_natCast]
      have hx := ok_getD oa (by omega : 0 < B64) j
      have hy := ok_getD ob (by omega : 0 < B64) j
      have e8 : IntKind.i64.wrap ((j : Int) + 1) = ((j + 1 : Nat) : Int) := by rw [wrap_i64 (by omega) (by omega)]; omega
      have t1 := val_take_succ' A j (B := B64)
      have t2 := val_take_succ' C j (B := B64)
      generalize A.getD j 0 = a at *
      generalize C.getD j 0 = c at *
      have e1 : IntKind.u64.wrap ((a : Int) + (c : Int)) = (((a + c) % B64 : Nat) : Int) := by rw [wrap_u64, hB]; omega
      have e2 : IntKind.u64.wrap ((((a + c) % B64 : Nat) : Int) + (cr : Int)) = (((a + c + cr) % B64 : Nat) : Int) := by rw [wrap_u64, hB]; omega
      rw [e1, e2]
      -- a round's end
      have fin : ∀ cr' : Nat, cr' = (a + c + cr) / B64 → semA pr (Instr.indexAt 35 out.v (.int .i64 (j : Int))) w3 fun ad1 w4 => stC ad1 (.int .u64 (((a + c + cr) % B64 : Nat) : Int)) w4 fun w5 =>
          (s = s ∧ t = t ∧ ∃ (m' : Nat) (l : List Nat) (j' cr : Nat), ((m + 1 : Nat) : Int) = ((m' + 1 : Nat) : Int) ∧ A.length ≤ m' ∧ C.length ≤ m' ∧ m' + 1 ≤ 2 ^ 44 ∧ (cr' : Int) = (cr : Int) ∧ cr ≤ 1 ∧ IntKind.i64.wrap ((j : Int) + 1) = (j' : Int) ∧ j' ≤ m' + 1 ∧
    Fill w w5 out l (fun _ => True) ∧ l.length = m' + 1 ∧ ok B64 l ∧ val B64 (l.take j') + cr * B64 ^ j' = val B64 (A.take j') + val B64 (C.take j')) ∧ (((m + 1 : Nat) : Int) - IntKind.i64.wrap ((j : Int) + 1)).toNat < (((m + 1 : Nat) : Int) - (j : Int)).toNat := by
        intro cr' hc'
        refine stF hf (by omega) (by omega) ?_
        intro w5 hf5
        simp only [Int.toNat_natCast] at hf5
        refine ⟨⟨rfl, rfl, m, _, j + 1, cr', rfl, hA, hC, hm, rfl, by rw [hc', hB]; omega, e8, hj', hf5, by simpa using hl, ok_set ol (Nat.mod_lt _ (by omega)), ?_⟩, by rw [e8]; omega⟩
        rw [val_take_set _ _ _ (by omega), t1, t2, Nat.pow_succ]
        exact add_step (by have := Nat.mod_add_div (a + c + cr) B64; rw [hc']; omega) hv
      refine br_intro (fun h1 => ?_) (fun h1 => br_intro (fun h2 => ?_) (fun h2 => ?_))
      · exact fin 1 (by have := of_decide_eq_true h1; rw [hB] at this ⊢; omega)
      · exact fin 1 (by have := of_decide_eq_true h2; rw [hB] at this ⊢; omega)
      · exact fin 0 (by have q1 := of_decide_eq_false h1; have q2 := of_decide_eq_false h2; rw [hB] at q1 q2 ⊢; omega)
    · have hj' : j = m + 1 := by have := of_decide_eq_false hge; omega
      subst hj'
      rw [val_take_all l (by omega), val_take_all A (by omega), val_take_all C (by omega), vx, vy] at hv
      have h1 : x < B64 ^ m := by rw [← vx]; exact Nat.lt_of_lt_of_le (val_lt oa) (Nat.pow_le_pow_right (by omega) hA)
      have h2 : y < B64 ^ m := by rw [← vy]; exact Nat.lt_of_lt_of_le (val_lt ob) (Nat.pow_le_pow_right (by omega) hC)
      have h3 : cr = 0 := by
        rcases Nat.lt_or_ge cr 1 with h | h
        · omega
        · have hc1 : cr = 1 := by omega
          subst hc1
          have : 2 * B64 ^ m ≤ B64 ^ (m + 1) := by rw [Nat.pow_succ, Nat.mul_comm]; exact Nat.mul_le_mul_left _ (by omega)
          omega
      subst h3
      have hv' : val B64 l = x + y := by omega
      refine Calls.mono (Norm_spec hf.rd (by omega) ol) ?_
      rw [hv']
      rintro e w6 ⟨h6, s', rfl, hr⟩
      exact ⟨_, rfl, hf.base.trans h6, _, rfl, hr.mono hf.base.size⟩

theorem set_getD_self (l : List Nat) (i : Nat) (h : i < l.length) : l.set i (l.getD i 0) = l := by
  rw [getD_lt _ _ h]; exact List.set_getElem_self h
theorem dleft_spec {w : World} {a : Slc} {x k : Nat} (ra : Rd .u64 w a (nn (digs B64 x))) (na : (digs B64 x).length + k / 64 + 1 ≤ 2 ^ 44) :
    Calls pr dyadic_left_id #[a.v, .int .i64 (k : Int)] w fun e w' => Ahead w w' ∧ ∃ s, e = .returned (Slc.v s) ∧ OwnNil w.heap.size w' s (digs B64 (x * 2 ^ k)) := by
  have hB := B64v
  have h64 : B64 = 2 ^ 64 := rfl
  have hA0 := val_digs two64 x
  have hoA := ok_digs two64 x
  have hw : k % 64 < 64 := Nat.mod_lt _ (by omega)
  have hp2 : B64 ^ (k / 64) * 2 ^ (k % 64) = 2 ^ k := (pow_split k 64).symm
  have hnum : Num w a x := ⟨_, ra, by omega, hoA, hA0⟩
  have hna : a.n = (digs B64 x).length := by rw [ra.n, nn_length]
  generalize digs B64 x = A at *
  refine dyadic_left_vc a k w _ (fun t7 t8 t9 t32 t33 t34 w' => t7 = ((k / 64 : Nat) : Int) ∧ t8 = ((k % 64 : Nat) : Int) ∧ t33 = (A.length : Int) ∧ ∃ (l : List Nat) (j : Nat), t34 = (j : Int) ∧ j ≤ A.length ∧
    Fill w w' t9 l (fun w' => Rd .u64 w' t32 (nn A)) ∧ l.length = k / 64 + A.length + 1 ∧ ok B64 l ∧ val B64 l = val B64 (A.take j) * (B64 ^ (k / 64) * 2 ^ (k % 64))) (fun _ _ _ _ n i _ => (n - i).toNat) ?_ ?_
  · refine Calls.mono (left_num hnum (n := (k : Int)) (by omega) (by omega)) ?_
    rintro e w1 ⟨h1, s, rfl, os⟩
    have ek : ((k : Int)).toNat = k := by omega
    rw [ek] at os
    refine ⟨_, _, rfl, br_intro (fun hc => ?_) (fun hc => ?_)⟩
    · have hc0 : leftC x (k : Int) = 0 := by simpa using hc
      rw [if_pos hc0] at os
      exact ⟨h1, s, rfl, os⟩
    · rw [tdivN (by omega), tmodN, hna, wrap_i64 (x := (A.length : Int) + _) (by omega) (by omega), wrap_i64 (by omega) (by omega), show (A.length : Int) + ((k / 64 : Nat) : Int) + 1 = ((k / 64 + A.length + 1 : Nat) : Int) by omega]
      refine mkF (w0 := w) (S := fun w' => Rd .u64 w' a (nn A)) (by omega) (by omega) h1 (ra.ahead h1) ?_
      intro c w3 hcn hf ha
      refine ⟨rfl, rfl, rfl, _, 0, rfl, Nat.zero_le _, hf, by rw [List.length_replicate]; omega, ok_replicate (by omega) _, ?_⟩
      rw [val_replicate]; simp [val]
  · rintro t7 t8 c t32 t33 t34 w' ⟨rfl, rfl, rfl, l, j, rfl, hj, hf, hl, ol, hv⟩
    have hS := hf.src (fun _ h hs => Rd.ahead hs h)
    refine br_intro (fun hlt => ?_) (fun hge => ?_)
    · have hj' : j < A.length := by have := of_decide_eq_true hlt; omega
      have hfacts := left_facts (w := 64) (l := l) (A := A) (j := j) (wd := k / 64) (s := k % 64) hw (by omega) hoA hj' hv
      refine ldN hS (by omega) (by omega) ?_
      rw [wrap_i64 (x := (j : Int) + ((k / 64 : Nat) : Int)) (by omega) (by omega), show (j : Int) + ((k / 64 : Nat) : Int) = ((k / 64 + j : Nat) : Int) by omega,
        wrap_i64 (x := ((k / 64 + j : Nat) : Int) + 1) (by omega) (by omega), show ((k / 64 + j : Nat) : Int) + 1 = ((k / 64 + j + 1 : Nat) : Int) by omega]
      refine ldN hf.rd (by omega) (by omega) ?_
      refine semShl (by omega) ?_
      have hx := ok_getD hoA (by omega : 0 < B64) j
      have hlk := ok_getD ol (by omega : 0 < B64) (k / 64 + j)
      simp only [Int.toNat_natCast]
      rw [orI_nat hlk (Nat.mod_lt _ (by omega))]
      refine stF hf (by omega) (by omega) ?_
      intro w7 hf7
      simp only [Int.toNat_natCast] at hf7
      have e8 : IntKind.i64.wrap ((j : Int) + 1) = ((j + 1 : Nat) : Int) := by rw [wrap_i64 (by omega) (by omega)]; omega
      have hlo : l.getD (k / 64 + j) 0 ||| A.getD j 0 * 2 ^ (k % 64) % B64 = l.getD (k / 64 + j) 0 + A.getD j 0 * 2 ^ (k % 64) % 2 ^ 64 := by
        have h2 := shl_lo (A.getD j 0) (k % 64) 64 (by omega)
        have h2' : A.getD j 0 * 2 ^ (k % 64) % B64 = _ := h2
        rw [h2', h2, or_add hfacts.1]
      have hlolt : l.getD (k / 64 + j) 0 ||| A.getD j 0 * 2 ^ (k % 64) % B64 < B64 := Nat.or_lt_two_pow (n := 64) hlk (Nat.mod_lt _ (by omega))
      have hhi : A.getD j 0 * 2 ^ (k % 64) / 2 ^ 64 < B64 := by
        rw [shl_hi _ _ _ (by omega)]
        exact Nat.lt_of_le_of_lt (Nat.div_le_self _ _) hx
      have stp := left_step (w := 64) (lo := l.getD (k / 64 + j) 0 ||| A.getD j 0 * 2 ^ (k % 64) % B64) hw (by omega) hoA hj' hv hlo rfl
      refine br_intro (fun hs => ?_) (fun hs => ?_)
      · have hs' : 0 < k % 64 := by have := of_decide_eq_true hs; omega
        rw [show IntKind.u64.wrap (64 - ((k % 64 : Nat) : Int)) = ((64 - k % 64 : Nat) : Int) by rw [wrap_u64' (by omega) (by omega)]; omega]
        refine semShr (by omega) ?_
        rw [← shl_hi _ _ 64 (by omega)]
        refine stF hf7 (by omega) (by simp; omega) ?_
        intro w10 hf10
        simp only [Int.toNat_natCast] at hf10
        exact ⟨⟨by trivial, by trivial, by trivial, _, j + 1, e8, by omega, hf10, by simpa using hl, ok_set (ok_set ol hlolt) hhi, stp⟩, by rw [e8]; omega⟩
      · have hs' : k % 64 = 0 := by have := of_decide_eq_false hs; omega
        have hz : A.getD j 0 * 2 ^ (k % 64) / 2 ^ 64 = 0 := by
          rw [hs', Nat.pow_zero, Nat.mul_one]; exact Nat.div_eq_of_lt hx
        rw [hz] at stp
        have hzero : (l.set (k / 64 + j) (l.getD (k / 64 + j) 0 ||| A.getD j 0 * 2 ^ (k % 64) % B64)).getD (k / 64 + j + 1) 0 = 0 := by
          rw [getD_set _ _ _ _ (by omega), if_neg (by omega)]; exact hfacts.2
        have hsame := set_getD_self (l.set (k / 64 + j) (l.getD (k / 64 + j) 0 ||| A.getD j 0 * 2 ^ (k % 64) % B64)) (k / 64 + j + 1) (by simp; omega)
        rw [hzero] at hsame
        rw [hsame] at stp
        exact ⟨⟨by trivial, by trivial, by trivial, _, j + 1, e8, by omega, hf7, by simpa using hl, ok_set ol hlolt, stp⟩, by rw [e8]; omega⟩
    · have hj' : j = A.length := by have := of_decide_eq_false hge; omega
      subst hj'
      rw [List.take_length, hA0, hp2] at hv
      refine Calls.mono (Norm_spec hf.rd (by omega) ol) ?_
      rw [hv]
      rintro e w3 ⟨h3, s, rfl, os⟩
      exact ⟨_, rfl, hf.base.trans h3, _, rfl, os.mono hf.base.size⟩

end Dy
end Go.Proofs.YtahbekmnphkiiaaDoor
namespace Go.Proofs.YtahbekmnphkiiaaDoor
open Go Go.RowKit Eng Sp Dg L2
set_option linter.unusedVariables false
set_option linter.unusedSimpArgs false
set_option maxRecDepth 100000
namespace Dy
open _root_.Go.Proofs.YtahbekmnphkiiaaDoor.Ref (RN RN.nil RN.ahead Is_spec zero_spec Int_spec len_mono bl_len32)
open Sb

def zb (z : Int) : Bool := decide (z < 0)
/-- The number of a sign and a size. -/
def sg (neg : Bool) (n : Nat) : Int := if neg then -(n : Int) else n
theorem sg_abs (neg : Bool) (n : Nat) : (sg neg n).natAbs = n := by unfold sg; cases neg <;> simp
theorem zb_sg (neg : Bool) (n : Nat) : zb (sg neg n) = nD neg n := by
  unfold zb sg nD
  cases neg
  · simp
  · by_cases h : n = 0
    · subst h; rfl
    · simp [h]; omega
theorem zb_nD (z : Int) : nD (zb z) z.natAbs = zb z := by
  unfold nD zb
  by_cases h : z < 0
  · have : z.natAbs ≠ 0 := by omega
    simp [h, this]
  · simp [h]
theorem sg_zb (z : Int) : sg (zb z) z.natAbs = z := by
  unfold sg zb
  by_cases h : z < 0
  · rw [decide_eq_true h]; simp; omega
  · rw [decide_eq_false h]; simp; omega

end Dy
end Go.Proofs.YtahbekmnphkiiaaDoor
namespace Go.Proofs.YtahbekmnphkiiaaDoor
open Go Go.RowKit Eng Sp Dg
set_option linter.unusedVariables false
set_option linter.unusedSimpArgs false
set_option maxRecDepth 100000
namespace Dy
open _root_.Go.Proofs.YtahbekmnphkiiaaDoor.Nat (ldN OwnNil Num Num.bl OwnNil.mono bigC digs_len_bl Yes num_of)
open _root_.Go.Proofs.YtahbekmnphkiiaaDoor.Ref (RN RN.nil Of_spec Is_spec zero_spec Lent Lent.whole Bk)
open Sb

theorem number_top_spec {w : World} {neg : Bool} {s : Slc} {x : Nat} {e : Int} (h : Num w s x) (he : -4611686018427387904 ≤ e ∧ e ≤ 4611686018427387904) :
    Calls pr dyadic_number_top_id #[.agg (c3 neg s e)] w fun en w' => Ahead w w' ∧ en = .returned (.int .i64 (e + bl x - 1)) := by
  have hbl := Num.bl h
  refine dyadic_number_top_vc neg s e w _ (newC_b fun b w1 hb h1 hs1 B1 => ?_)
  have hd := Ahead.drew w1
  have B1' := B1.ahead hd
  refine ldI_b (x := e) 2 B1' rfl (get2 B1' rfl rfl (Calls.mono (part_length_spec (h.ahead (h1.trans hd))) ?_))
  rintro en w2 ⟨h2, rfl⟩
  refine ⟨_, rfl, h2, (h1.trans hd).trans h2, ?_⟩
  rw [wrap_i64 (x := e + _) (by omega) (by omega), wrap_i64 (by omega) (by omega)]

end Dy
end Go.Proofs.YtahbekmnphkiiaaDoor
namespace Go.Proofs.YtahbekmnphkiiaaDoor
open Go Go.RowKit Eng Sp Dg L2
set_option linter.unusedVariables false
set_option linter.unusedSimpArgs false
set_option maxRecDepth 100000
namespace Dy
open _root_.Go.Proofs.YtahbekmnphkiiaaDoor.Nat (OwnNil Num Num.bl OwnNil.mono OwnNil.ext OwnNil.rd OwnNil.ahead digs_len_bl num_of Yes)
open _root_.Go.Proofs.YtahbekmnphkiiaaDoor.Ref (RN RN.nil RN.ahead Int_spec Lent Lent.whole len_mono bl_len32)
open Sb

theorem eD_far {w : World} {s : Slc} {x : Nat} {e : Int} (h : Num w s x) (he : wi e) : -1125999906842624 - 1099511627776 ≤ eD x e ∧ eD x e ≤ 1125999906842624 + 1099511627776 := by
  have h1 := Num.bl h
  have h2 := tz_le x
  unfold wi at he
  unfold eD
  split <;> omega

end Dy
end Go.Proofs.YtahbekmnphkiiaaDoor
namespace Go.Proofs.YtahbekmnphkiiaaDoor
open Go Go.RowKit Eng L2
set_option linter.unusedVariables false
set_option maxHeartbeats 2000000
set_option maxRecDepth 100000

/-- surd/whole.Make: function 79, its local variables as values. -/
theorem whole_Make_v2 (a0_neg : Bool) (a1_n : Slc) (w : World) (R : Ending → World → Prop)
    
    (h : ∀ w1, Ext w w1 → Ahead w w1 →
    (Calls Tryd.prog 95 #[Value.agg #[Value.bool a0_neg, a1_n.v]] w1 fun e1 w2 =>
     ∃ b1 : Bool, ∃ s1 : Slc, ∃ x1 : Int, e1 = .returned (Value.tuple #[Value.agg #[Value.bool b1, s1.v], Value.int .i64 x1]) ∧ Ahead w1 w2 ∧
     (∀ w3, Ext w2 w3 → Ahead w w3 →
      (R (.returned (Value.tuple #[Value.agg #[Value.bool b1, s1.v], Value.int .i64 x1])) w3))))
     :
    Calls Tryd.prog 79 #[Value.bool a0_neg, a1_n.v] w (fun e_ w_ => Ahead w w_ ∧ R e_ w_) := by
  refine whole_Make_vc a0_neg a1_n w _  ?_
  · have A : Ahead w w := Ahead.refl w
    have X : Ext w w := Ext.refl w
    refine newC_t fun bk1 u1 hb a _ B1 => ?_;have g1 := le_eq A.size hb;obtain ⟨A, X⟩ := axa2 a A X;replace h := h _ X A;refine Calls.mono h ?_;clear h;rintro e1 w2 ⟨b1, s1, x1, he_, a, h⟩;refine ⟨b1, s1, x1, he_, ?_⟩;clear he_;replace B1 := B1.ahead a;obtain ⟨A, X⟩ := axr2 a A;refine s2_t B1 fun u2 k B1 => ?_;obtain ⟨A, X⟩ := axu2 k g1 A X;refine l2_t B1 ?_;replace h := h _ X A;exact ⟨A, h⟩

/-- surd/whole.fits: function 95, its local variables as values. -/
theorem whole_fits_v2 (a0_a_0 : Bool) (a0_a_1 : Slc) (w : World) (R : Ending → World → Prop)
    
    (h : ∀ w1, Ext w w1 → Ahead w w1 →
    (Calls Tryd.prog 85 #[a0_a_1.v] w1 fun e1 w2 =>
     ∃ x1 : Int, e1 = .returned (Value.int .i64 x1) ∧ Ahead w1 w2 ∧
     (br (decide (x1 > 67108864))
      (∀ w3, Ext w2 w3 → Ahead w w3 →
       (R (.returned (Value.tuple #[Value.agg #[Value.bool (false), ((⟨none, 0, 0⟩ : Slc)).v], Value.int .i64 3])) w3))
      (Calls Tryd.prog 101 #[Value.agg #[Value.bool a0_a_0, a0_a_1.v]] w2 fun e2 w4 =>
       ∃ b1 : Bool, ∃ s1 : Slc, e2 = .returned (Value.agg #[Value.bool b1, s1.v]) ∧ Ahead w2 w4 ∧
       (∀ w5, Ext w4 w5 → Ahead w w5 →
        (R (.returned (Value.tuple #[Value.agg #[Value.bool b1, s1.v], Value.int .i64 0])) w5))))))
     :
    Calls Tryd.prog 95 #[Value.agg #[Value.bool a0_a_0, a0_a_1.v]] w (fun e_ w_ => Ahead w w_ ∧ R e_ w_) := by
  refine whole_fits_vc a0_a_0 a0_a_1 w _  ?_
  · have A : Ahead w w := Ahead.refl w
    have X : Ext w w := Ext.refl w
    refine newC_t fun bk1 u1 hb a _ B1 => ?_;have g1 := le_eq A.size hb;obtain ⟨A, X⟩ := axa2 a A X;refine newC_t fun bk2 u2 hb a _ B2 => ?_;have g2 := le_eq A.size hb;have l1_2 := lt1 hb B1;replace B1 := B1.ahead a;obtain ⟨A, X⟩ := axa2 a A X;refine ldS_t 1 B1 rfl ?_;replace h := h _ X A;refine Calls.mono h ?_;clear h;rintro e1 w2 ⟨x1, he_, a, h⟩;refine ⟨x1, he_, ?_⟩;clear he_;obtain ⟨B1, B2⟩ := ah2 a B1 B2;obtain ⟨A, X⟩ := axr2 a A;refine br_map h (fun h_ => ?_) (fun h_ => ?_)
    ·replace h := h_;clear h_;refine s2_t B2 fun u3 k B2 => ?_;replace B1 := up1 k B1;obtain ⟨A, X⟩ := axu2 k g2 A X;refine l2_t B2 ?_;replace h := h _ X A;exact ⟨A, h⟩
    ·replace h := h_;clear h_;refine l2_t B1 ?_;refine Calls.mono h ?_;clear h;rintro e2 w4 ⟨b1, s1, he_, a, h⟩;refine ⟨b1, s1, he_, ?_⟩;clear he_;obtain ⟨B1, B2⟩ := ah2 a B1 B2;obtain ⟨A, X⟩ := axr2 a A;refine s2_t B2 fun u4 k B2 => ?_;replace B1 := up1 k B1;obtain ⟨A, X⟩ := axu2 k g2 A X;refine l2_t B2 ?_;replace h := h _ X A;exact ⟨A, h⟩

/-- surd/whole.norm: function 101, its local variables as values. -/
theorem whole_norm_v2 (a0_a_0 : Bool) (a0_a_1 : Slc) (w : World) (R : Ending → World → Prop)
    
    (h : ∀ w1, Ext w w1 → Ahead w w1 →
    (Calls Tryd.prog 86 #[a0_a_1.v] w1 fun e1 w2 =>
     ∃ s1 : Slc, e1 = .returned s1.v ∧ Ahead w1 w2 ∧
     (br a0_a_0
      (∀ w3, Ext w2 w3 → Ahead w w3 →
       (R (.returned (Value.agg #[Value.bool (decide ((s1.n : Int) > 0)), s1.v])) w3))
      (∀ w4, Ext w2 w4 → Ahead w w4 →
       (R (.returned (Value.agg #[Value.bool (false), s1.v])) w4)))))
     :
    Calls Tryd.prog 101 #[Value.agg #[Value.bool a0_a_0, a0_a_1.v]] w (fun e_ w_ => Ahead w w_ ∧ R e_ w_) := by
  refine whole_norm_vc a0_a_0 a0_a_1 w _  ?_
  · have A : Ahead w w := Ahead.refl w
    have X : Ext w w := Ext.refl w
    refine newC_t fun bk1 u1 hb a _ B1 => ?_;have g1 := le_eq A.size hb;obtain ⟨A, X⟩ := axa2 a A X;refine newC_t fun bk2 u2 hb a _ B2 => ?_;have g2 := le_eq A.size hb;have l1_2 := lt1 hb B1;replace B1 := B1.ahead a;obtain ⟨A, X⟩ := axa2 a A X;refine ldS_t 1 B1 rfl ?_;replace h := h _ X A;refine Calls.mono h ?_;clear h;rintro e1 w2 ⟨s1, he_, a, h⟩;refine ⟨s1, he_, ?_⟩;clear he_;obtain ⟨B1, B2⟩ := ah2 a B1 B2;obtain ⟨A, X⟩ := axr2 a A;refine ldB_t 0 B1 rfl ?_;refine br_map h (fun h_ => ?_) (fun h_ => ?_)
    ·replace h := h_;clear h_;refine s2_t B2 fun u3 k B2 => ?_;replace B1 := up1 k B1;obtain ⟨A, X⟩ := axu2 k g2 A X;refine l2_t B2 ?_;replace h := h _ X A;exact ⟨A, h⟩
    ·replace h := h_;clear h_;refine s2_t B2 fun u4 k B2 => ?_;replace B1 := up1 k B1;obtain ⟨A, X⟩ := axu2 k g2 A X;refine l2_t B2 ?_;replace h := h _ X A;exact ⟨A, h⟩

end Go.Proofs.YtahbekmnphkiiaaDoor
namespace Go.Proofs.YtahbekmnphkiiaaDoor
open Go Go.RowKit Eng Sp Dg L2
set_option linter.unusedVariables false
set_option linter.unusedSimpArgs false
set_option maxRecDepth 100000
namespace Dy
open _root_.Go.Proofs.YtahbekmnphkiiaaDoor.Nat (OwnNil Num Num.bl OwnNil.mono OwnNil.ext OwnNil.rd OwnNil.ahead OwnNil.nil digs_len_bl num_of Yes Norm_spec len_num)
open _root_.Go.Proofs.YtahbekmnphkiiaaDoor.Ref (RN RN.nil RN.ahead Int_spec Lent Lent.whole len_mono bl_len32 Bk)
open Sb

theorem wnorm_spec {w : World} {neg : Bool} {s : Slc} {x : Nat} (h : Num w s x) : Calls pr whole_norm_id #[.agg (c2 neg s)] w fun e w' => Ahead w w' ∧ ∃ s', e = .returned (.agg (c2 (nD neg x) s')) ∧ OwnNil w.heap.size w' s' (digs B64 x) := by
  obtain ⟨l, r, hl, ol, rfl⟩ := h
  refine whole_norm_v2 neg s w _ fun w1 x1 a1 => Calls.mono (Norm_spec (r.ahead a1) hl ol) ?_
  rintro e w2 ⟨h2, s1, rfl, o1⟩
  have hn : s1.n = (digs B64 (val B64 l)).length := by rw [o1.rd.n, nn_length]
  refine ⟨_, rfl, h2, br_intro (fun hb => ?_) (fun hb => ?_)⟩
  · intro w3 x3 a3
    refine ⟨s1, ?_, (o1.ext x3).mono a1.size⟩
    congr 3
    rw [hb, hn]
    by_cases h0 : val B64 l = 0
    · rw [h0, digs_zero]; rfl
    · have := List.length_pos_iff.2 (digs_ne_nil two64 h0)
      rw [nD_ne h0]
      simp; omega
  · intro w3 x3 a3
    refine ⟨s1, ?_, (o1.ext x3).mono a1.size⟩
    rw [hb]; rfl
/-- A whole number as the program answers it. -/
def WOut (w : World) (code : Int) (neg : Bool) (q : Nat) (e : Ending) (w' : World) : Prop := ∃ s, e = .returned (.tuple #[.agg (c2 (if code = 0 then nD neg q else false) s), .int .i64 code]) ∧ OwnNil w.heap.size w' s (if code = 0 then digs B64 q else [])
def bC (q : Nat) : Int := if 67108864 < bl q then 3 else 0
theorem fits_spec {w : World} {neg : Bool} {s : Slc} {x : Nat} (h : Num w s x) : Calls pr whole_fits_id #[.agg (c2 neg s)] w fun e w' => Ahead w w' ∧ WOut w (bC x) neg x e w' := by
  refine whole_fits_v2 neg s w _ fun w1 x1 a1 => Calls.mono (len_num (h.ahead a1)) ?_
  rintro e w2 ⟨rfl, rfl⟩
  refine ⟨_, rfl, Ahead.refl _, br_intro (fun hb => ?_) (fun hb => ?_)⟩
  · have hb' : 67108864 < bl x := by have := of_decide_eq_true hb; omega
    have hc : bC x = 3 := if_pos hb'
    rw [hc]
    exact fun w3 x3 a3 => ⟨_, rfl, OwnNil.nil⟩
  · have hb' : ¬ 67108864 < bl x := by have := of_decide_eq_false hb; omega
    have hc : bC x = 0 := if_neg hb'
    rw [hc]
    refine Calls.mono (wnorm_spec (h.ahead a1)) ?_
    rintro e w4 ⟨h4, s1, rfl, o1⟩
    exact ⟨_, _, rfl, h4, fun w5 x5 a5 => ⟨s1, rfl, (o1.ext x5).mono a1.size⟩⟩
theorem wMake_spec {w : World} {neg : Bool} {s : Slc} {x : Nat} (h : Num w s x) : Calls pr whole_Make_id #[.bool neg, s.v] w fun e w' => Ahead w w' ∧ WOut w (bC x) neg x e w' := by
  refine whole_Make_v2 neg s w _ fun w1 x1 a1 => Calls.mono (fits_spec (h.ahead a1)) ?_
  rintro e w2 ⟨h2, s1, rfl, o1⟩
  exact ⟨_, _, _, rfl, h2, fun w3 x3 a3 => ⟨s1, rfl, (o1.ext x3).mono a1.size⟩⟩

end Dy
end Go.Proofs.YtahbekmnphkiiaaDoor
namespace Go.Proofs.YtahbekmnphkiiaaDoor
open Go Go.RowKit Eng L2
set_option linter.unusedVariables false
set_option maxHeartbeats 2000000
set_option maxRecDepth 100000

/-- surd/dyadic.sum: function 57, its local variables as values. -/
theorem dyadic_sum_v2 (a0_0 : Bool) (a0_1 : Slc) (a0_2 : Int) (a1_0 : Bool) (a1_1 : Slc) (a1_2 : Int) (w : World) (R : Ending → World → Prop)
    (K4 : Bool → Slc → Int → Bool → Slc → Int → Bool → Slc → Int → World → Prop) (K8 : Bool → Slc → Int → Bool → Slc → Int → Bool → Slc → Int → World → Prop) (K11 : Int → Bool → Slc → Int → Bool → Slc → Int → Bool → Slc → Int → World → Prop) (K12 : Int → Bool → Slc → Int → Bool → Slc → Int → Bool → Slc → Int → Bool → Slc → World → Prop)
    (h : ∀ w1, Ext w w1 → Ahead w w1 →
    (Calls Tryd.prog 64 #[Value.agg #[Value.bool a0_0, a0_1.v]] w1 fun e1 w2 =>
     ∃ x1 : Int, e1 = .returned (Value.int .i64 x1) ∧ Ahead w1 w2 ∧
     (br (x1 == 0)
      (∀ w34, Ext w2 w34 → Ahead w w34 →
       (K4 a1_0 a1_1 a1_2 a0_0 a0_1 a0_2 false (⟨none, 0, 0⟩ : Slc) 0 w34))
      (K4 a0_0 a0_1 a0_2 a1_0 a1_1 a1_2 false (⟨none, 0, 0⟩ : Slc) 0 w2))))
    (h3000004 : ∀ (t2_0 : Bool) (t2_1 : Slc) (t2_2 : Int) (t3_0 : Bool) (t3_1 : Slc) (t3_2 : Int) (t4_0 : Bool) (t4_1 : Slc) (t4_2 : Int) (w_ : World), Ahead w w_ → K4 t2_0 t2_1 t2_2 t3_0 t3_1 t3_2 t4_0 t4_1 t4_2 w_ → 
    Calls Tryd.prog 64 #[Value.agg #[Value.bool t3_0, t3_1.v]] w_ fun e2 w3 =>
    ∃ x2 : Int, e2 = .returned (Value.int .i64 x2) ∧ Ahead w_ w3 ∧
    (br (x2 == 0)
     (Calls Tryd.prog 42 #[Value.agg #[Value.bool t2_0, t2_1.v], Value.int .i64 t2_2] w3 fun e3 w4 =>
      ∃ b1 : Bool, ∃ s1 : Slc, ∃ x3 : Int, ∃ x4 : Int, e3 = .returned (Value.tuple #[Value.agg #[Value.bool b1, s1.v, Value.int .i64 x3], Value.int .i64 x4]) ∧ Ahead w3 w4 ∧
      (∀ w5, Ext w4 w5 → Ahead w w5 →
       (R (.returned (Value.tuple #[Value.agg #[Value.bool b1, s1.v, Value.int .i64 x3], Value.int .i64 x4])) w5)))
     (br (decide (t2_2 < t3_2))
      (∀ w33, Ext w3 w33 → Ahead w w33 →
       (K8 t3_0 t3_1 t3_2 t2_0 t2_1 t2_2 t4_0 t4_1 t4_2 w33))
      (K8 t2_0 t2_1 t2_2 t3_0 t3_1 t3_2 t4_0 t4_1 t4_2 w3))))
    (h3000008 : ∀ (t2_0 : Bool) (t2_1 : Slc) (t2_2 : Int) (t3_0 : Bool) (t3_1 : Slc) (t3_2 : Int) (t4_0 : Bool) (t4_1 : Slc) (t4_2 : Int) (w_ : World), Ahead w w_ → K8 t2_0 t2_1 t2_2 t3_0 t3_1 t3_2 t4_0 t4_1 t4_2 w_ → 
    br (decide ((IntKind.i64.wrap (t2_2 - t3_2)) > 0))
    (∀ w6, Ext w_ w6 → Ahead w w6 →
     (Calls Tryd.prog 78 #[Value.agg #[Value.bool t2_0, t2_1.v, Value.int .i64 t2_2]] w6 fun e4 w7 =>
      ∃ x5 : Int, e4 = .returned (Value.int .i64 x5) ∧ Ahead w6 w7 ∧
      (Calls Tryd.prog 78 #[Value.agg #[Value.bool t3_0, t3_1.v, Value.int .i64 t3_2]] w7 fun e5 w8 =>
       ∃ x6 : Int, e5 = .returned (Value.int .i64 x6) ∧ Ahead w7 w8 ∧
       (br (decide ((IntKind.i64.wrap ((maxI x5 (IntKind.i64.wrap (x6 + 1))) - t3_2)) > 67108866))
        (∀ w9, Ext w8 w9 → Ahead w w9 →
         (R (.returned (Value.tuple #[Value.agg #[Value.bool (false), ((⟨none, 0, 0⟩ : Slc)).v, Value.int .i64 (0 : Int)], Value.int .i64 3])) w9))
        (K11 (IntKind.i64.wrap (t2_2 - t3_2)) t2_0 t2_1 t2_2 t3_0 t3_1 t3_2 t4_0 t4_1 t4_2 w8)))))
    (∀ w32, Ext w_ w32 → Ahead w w32 →
     (K11 (IntKind.i64.wrap (t2_2 - t3_2)) t2_0 t2_1 t2_2 t3_0 t3_1 t3_2 t4_0 t4_1 t4_2 w32)))
    (h3000011 : ∀ (t6 : Int) (t2_0 : Bool) (t2_1 : Slc) (t2_2 : Int) (t3_0 : Bool) (t3_1 : Slc) (t3_2 : Int) (t4_0 : Bool) (t4_1 : Slc) (t4_2 : Int) (w_ : World), Ahead w w_ → K11 t6 t2_0 t2_1 t2_2 t3_0 t3_1 t3_2 t4_0 t4_1 t4_2 w_ → 
    ∀ w10, Ext w_ w10 → Ahead w w10 →
    (Calls Tryd.prog 80 #[t2_1.v, Value.int .i64 t6] w10 fun e6 w11 =>
     ∃ s2 : Slc, e6 = .returned s2.v ∧ Ahead w10 w11 ∧
     (∀ w12, Ext w11 w12 → Ahead w w12 →
      (Calls Tryd.prog 79 #[Value.bool t2_0, s2.v] w12 fun e7 w13 =>
       ∃ b2 : Bool, ∃ s3 : Slc, ∃ x7 : Int, e7 = .returned (Value.tuple #[Value.agg #[Value.bool b2, s3.v], Value.int .i64 x7]) ∧ Ahead w12 w13 ∧
       (∀ w23, Ext w13 w23 → Ahead w w23 →
        (K12 x7 t2_0 t2_1 t2_2 t3_0 t3_1 t3_2 t4_0 t4_1 t4_2 b2 s3 w23))))))
    (h3000012 : ∀ (t8 : Int) (t2_0 : Bool) (t2_1 : Slc) (t2_2 : Int) (t3_0 : Bool) (t3_1 : Slc) (t3_2 : Int) (t4_0 : Bool) (t4_1 : Slc) (t4_2 : Int) (t7_0 : Bool) (t7_1 : Slc) (w_ : World), Ahead w w_ → K12 t8 t2_0 t2_1 t2_2 t3_0 t3_1 t3_2 t4_0 t4_1 t4_2 t7_0 t7_1 w_ → 
    br (t8 != 0)
    (Calls Tryd.prog 81 #[Value.agg #[Value.bool t2_0, t2_1.v, Value.int .i64 t2_2], Value.agg #[Value.bool t3_0, t3_1.v, Value.int .i64 t3_2]] w_ fun e8 w14 =>
     ∃ b3 : Bool, ∃ s4 : Slc, ∃ x8 : Int, ∃ x9 : Int, e8 = .returned (Value.tuple #[Value.agg #[Value.bool b3, s4.v, Value.int .i64 x8], Value.int .i64 x9]) ∧ Ahead w_ w14 ∧
     (∀ w15, Ext w14 w15 → Ahead w w15 →
      (R (.returned (Value.tuple #[Value.agg #[Value.bool b3, s4.v, Value.int .i64 x8], Value.int .i64 x9])) w15)))
    (Calls Tryd.prog 82 #[Value.agg #[Value.bool t7_0, t7_1.v], Value.agg #[Value.bool t3_0, t3_1.v]] w_ fun e9 w16 =>
     ∃ b4 : Bool, ∃ s5 : Slc, ∃ x10 : Int, e9 = .returned (Value.tuple #[Value.agg #[Value.bool b4, s5.v], Value.int .i64 x10]) ∧ Ahead w_ w16 ∧
     (br (x10 != 0)
      (∀ w17, Ext w16 w17 → Ahead w w17 →
       (Calls Tryd.prog 81 #[Value.agg #[Value.bool t2_0, t2_1.v, Value.int .i64 t2_2], Value.agg #[Value.bool t3_0, t3_1.v, Value.int .i64 t3_2]] w17 fun e10 w18 =>
        ∃ b5 : Bool, ∃ s6 : Slc, ∃ x11 : Int, ∃ x12 : Int, e10 = .returned (Value.tuple #[Value.agg #[Value.bool b5, s6.v, Value.int .i64 x11], Value.int .i64 x12]) ∧ Ahead w17 w18 ∧
        (∀ w19, Ext w18 w19 → Ahead w w19 →
         (R (.returned (Value.tuple #[Value.agg #[Value.bool b5, s6.v, Value.int .i64 x11], Value.int .i64 x12])) w19))))
      (∀ w20, Ext w16 w20 → Ahead w w20 →
       (Calls Tryd.prog 42 #[Value.agg #[Value.bool b4, s5.v], Value.int .i64 t3_2] w20 fun e11 w21 =>
        ∃ b6 : Bool, ∃ s7 : Slc, ∃ x13 : Int, ∃ x14 : Int, e11 = .returned (Value.tuple #[Value.agg #[Value.bool b6, s7.v, Value.int .i64 x13], Value.int .i64 x14]) ∧ Ahead w20 w21 ∧
        (∀ w22, Ext w21 w22 → Ahead w w22 →
         (R (.returned (Value.tuple #[Value.agg #[Value.bool b6, s7.v, Value.int .i64 x13], Value.int .i64 x14])) w22))))))) :
    Calls Tryd.prog 57 #[Value.agg #[Value.bool a0_0, a0_1.v, Value.int .i64 a0_2], Value.agg #[Value.bool a1_0, a1_1.v, Value.int .i64 a1_2]] w (fun e_ w_ => Ahead w w_ ∧ R e_ w_) := by
  refine dyadic_sum_vc a0_0 a0_1 a0_2 a1_0 a1_1 a1_2 w _ (fun t2 t3 t4 w_ => ∃ c2_ : Nat, ∃ c3_ : Nat, ∃ c4_ : Nat, ∃ t2_0 : Bool, ∃ t2_1 : Slc, ∃ t2_2 : Int, ∃ t3_0 : Bool, ∃ t3_1 : Slc, ∃ t3_2 : Int, ∃ t4_0 : Bool, ∃ t4_1 : Slc, ∃ t4_2 : Int, t2 = ⟨c2_, 0, none⟩ ∧ Blt w_ c2_ 76 #[Value.bool t2_0, t2_1.v, Value.int .i64 t2_2] ∧ w.heap.size ≤ c2_ ∧ t3 = ⟨c3_, 0, none⟩ ∧ Blt w_ c3_ 76 #[Value.bool t3_0, t3_1.v, Value.int .i64 t3_2] ∧ w.heap.size ≤ c3_ ∧ t4 = ⟨c4_, 0, none⟩ ∧ Blt w_ c4_ 39 #[Value.bool t4_0, t4_1.v, Value.int .i64 t4_2] ∧ w.heap.size ≤ c4_ ∧ c2_ ≠ c3_ ∧ c2_ ≠ c4_ ∧ c3_ ≠ c4_ ∧ Ahead w w_ ∧ K4 t2_0 t2_1 t2_2 t3_0 t3_1 t3_2 t4_0 t4_1 t4_2 w_) (fun t2 t3 t4 w_ => ∃ c2_ : Nat, ∃ c3_ : Nat, ∃ c4_ : Nat, ∃ t2_0 : Bool, ∃ t2_1 : Slc, ∃ t2_2 : Int, ∃ t3_0 : Bool, ∃ t3_1 : Slc, ∃ t3_2 : Int, ∃ t4_0 : Bool, ∃ t4_1 : Slc, ∃ t4_2 : Int, t2 = ⟨c2_, 0, none⟩ ∧ Blt w_ c2_ 76 #[Value.bool t2_0, t2_1.v, Value.int .i64 t2_2] ∧ w.heap.size ≤ c2_ ∧ t3 = ⟨c3_, 0, none⟩ ∧ Blt w_ c3_ 76 #[Value.bool t3_0, t3_1.v, Value.int .i64 t3_2] ∧ w.heap.size ≤ c3_ ∧ t4 = ⟨c4_, 0, none⟩ ∧ Blt w_ c4_ 39 #[Value.bool t4_0, t4_1.v, Value.int .i64 t4_2] ∧ w.heap.size ≤ c4_ ∧ c2_ ≠ c3_ ∧ c2_ ≠ c4_ ∧ c3_ ≠ c4_ ∧ Ahead w w_ ∧ K8 t2_0 t2_1 t2_2 t3_0 t3_1 t3_2 t4_0 t4_1 t4_2 w_) (fun t2 t3 t4 t6 w_ => ∃ c2_ : Nat, ∃ c3_ : Nat, ∃ c4_ : Nat, ∃ t2_0 : Bool, ∃ t2_1 : Slc, ∃ t2_2 : Int, ∃ t3_0 : Bool, ∃ t3_1 : Slc, ∃ t3_2 : Int, ∃ t4_0 : Bool, ∃ t4_1 : Slc, ∃ t4_2 : Int, t2 = ⟨c2_, 0, none⟩ ∧ Blt w_ c2_ 76 #[Value.bool t2_0, t2_1.v, Value.int .i64 t2_2] ∧ w.heap.size ≤ c2_ ∧ t3 = ⟨c3_, 0, none⟩ ∧ Blt w_ c3_ 76 #[Value.bool t3_0, t3_1.v, Value.int .i64 t3_2] ∧ w.heap.size ≤ c3_ ∧ t4 = ⟨c4_, 0, none⟩ ∧ Blt w_ c4_ 39 #[Value.bool t4_0, t4_1.v, Value.int .i64 t4_2] ∧ w.heap.size ≤ c4_ ∧ c2_ ≠ c3_ ∧ c2_ ≠ c4_ ∧ c3_ ≠ c4_ ∧ Ahead w w_ ∧ K11 t6 t2_0 t2_1 t2_2 t3_0 t3_1 t3_2 t4_0 t4_1 t4_2 w_) (fun t2 t3 t4 t7 t8 w_ => ∃ c2_ : Nat, ∃ c3_ : Nat, ∃ c4_ : Nat, ∃ c7_ : Nat, ∃ t2_0 : Bool, ∃ t2_1 : Slc, ∃ t2_2 : Int, ∃ t3_0 : Bool, ∃ t3_1 : Slc, ∃ t3_2 : Int, ∃ t4_0 : Bool, ∃ t4_1 : Slc, ∃ t4_2 : Int, ∃ t7_0 : Bool, ∃ t7_1 : Slc, t2 = ⟨c2_, 0, none⟩ ∧ Blt w_ c2_ 76 #[Value.bool t2_0, t2_1.v, Value.int .i64 t2_2] ∧ w.heap.size ≤ c2_ ∧ t3 = ⟨c3_, 0, none⟩ ∧ Blt w_ c3_ 76 #[Value.bool t3_0, t3_1.v, Value.int .i64 t3_2] ∧ w.heap.size ≤ c3_ ∧ t4 = ⟨c4_, 0, none⟩ ∧ Blt w_ c4_ 39 #[Value.bool t4_0, t4_1.v, Value.int .i64 t4_2] ∧ w.heap.size ≤ c4_ ∧ t7 = ⟨c7_, 0, none⟩ ∧ Blt w_ c7_ 37 #[Value.bool t7_0, t7_1.v] ∧ w.heap.size ≤ c7_ ∧ c2_ ≠ c3_ ∧ c2_ ≠ c4_ ∧ c2_ ≠ c7_ ∧ c3_ ≠ c4_ ∧ c3_ ≠ c7_ ∧ c4_ ≠ c7_ ∧ Ahead w w_ ∧ K12 t8 t2_0 t2_1 t2_2 t3_0 t3_1 t3_2 t4_0 t4_1 t4_2 t7_0 t7_1 w_) ?_ ?_ ?_ ?_ ?_
  · have A : Ahead w w := Ahead.refl w
    have X : Ext w w := Ext.refl w
    refine newC_t fun bk1 u1 hb a _ B1 => ?_;have g1 := le_eq A.size hb;obtain ⟨A, X⟩ := axa2 a A X;refine newC_t fun bk2 u2 hb a _ B2 => ?_;have g2 := le_eq A.size hb;have l1_2 := lt1 hb B1;replace B1 := B1.ahead a;obtain ⟨A, X⟩ := axa2 a A X;refine newC_t fun bk3 u3 hb a _ B3 => ?_;have g3 := le_eq A.size hb;obtain ⟨_, _⟩ := lt2 hb B1 B2;obtain ⟨B1, B2⟩ := ah2 a B1 B2;obtain ⟨A, X⟩ := axa2 a A X;refine ldB_t 0 B1 rfl ?_;refine ldS_t 1 B1 rfl ?_;replace h := h _ X A;refine Calls.mono h ?_;clear h;rintro e1 w2 ⟨x1, he_, a, h⟩;refine ⟨x1, he_, ?_⟩;clear he_;obtain ⟨B1, B2, B3⟩ := ah3 a B1 B2 B3;obtain ⟨A, X⟩ := axr2 a A;refine br_map h (fun h_ => ?_) (fun h_ => ?_)
    ·replace h := h_;clear h_;refine l3_t B2 ?_;refine l3_t B1 ?_;refine s3_t B1 fun u4 k B1 => ?_;obtain ⟨B2, B3⟩ := up2 k B2 B3;obtain ⟨A, X⟩ := axu2 k g1 A X;refine s3_t B2 fun u5 k B2 => ?_;obtain ⟨B1, B3⟩ := up2 k B1 B3;obtain ⟨A, X⟩ := axu2 k g2 A X;replace h := h _ X A;exact ⟨bk1, bk2, bk3, a1_0, a1_1, a1_2, a0_0, a0_1, a0_2, false, (⟨none, 0, 0⟩ : Slc), 0, rfl, B1, g1, rfl, B2, g2, rfl, B3, g3, (by omega), (by omega), (by omega), A, h⟩
    ·replace h := h_;clear h_;exact ⟨bk1, bk2, bk3, a0_0, a0_1, a0_2, a1_0, a1_1, a1_2, false, (⟨none, 0, 0⟩ : Slc), 0, rfl, B1, g1, rfl, B2, g2, rfl, B3, g3, (by omega), (by omega), (by omega), A, h⟩
  · clear h
    rintro t2 t3 t4 w_ ⟨bk1, bk2, bk3, t2_0, t2_1, t2_2, t3_0, t3_1, t3_2, t4_0, t4_1, t4_2, rfl, B1, g1, rfl, B2, g2, rfl, B3, g3, n1_2, n1_3, n2_3, A, hJ3000004⟩
    have h := h3000004  t2_0 t2_1 t2_2 t3_0 t3_1 t3_2 t4_0 t4_1 t4_2 w_ A hJ3000004
    have X : Ext w_ w_ := Ext.refl _
    refine ldB_t 0 B2 rfl ?_;refine ldS_t 1 B2 rfl ?_;refine Calls.mono h ?_;clear h;rintro e2 w3 ⟨x2, he_, a, h⟩;refine ⟨x2, he_, ?_⟩;clear he_;obtain ⟨B1, B2, B3⟩ := ah3 a B1 B2 B3;obtain ⟨A, X⟩ := axr2 a A;refine br_map h (fun h_ => ?_) (fun h_ => ?_)
    ·replace h := h_;clear h_;refine ldB_t 0 B1 rfl ?_;refine ldS_t 1 B1 rfl ?_;refine ldI_t 2 B1 rfl ?_;refine Calls.mono h ?_;clear h;rintro e3 w4 ⟨b1, s1, x3, x4, he_, a, h⟩;refine ⟨b1, s1, x3, x4, he_, ?_⟩;clear he_;obtain ⟨B1, B2, B3⟩ := ah3 a B1 B2 B3;obtain ⟨A, X⟩ := axr2 a A;refine s3_t B3 fun u6 k B3 => ?_;obtain ⟨B1, B2⟩ := up2 k B1 B2;obtain ⟨A, X⟩ := axu2 k g3 A X;refine l3_t B3 ?_;replace h := h _ X A;exact ⟨A, h⟩
    ·replace h := h_;clear h_;refine ldI_t 2 B1 rfl ?_;refine ldI_t 2 B2 rfl ?_;refine br_map h (fun h_ => ?_) (fun h_ => ?_)
     ·replace h := h_;clear h_;refine l3_t B2 ?_;refine l3_t B1 ?_;refine s3_t B1 fun u7 k B1 => ?_;obtain ⟨B2, B3⟩ := up2 k B2 B3;obtain ⟨A, X⟩ := axu2 k g1 A X;refine s3_t B2 fun u8 k B2 => ?_;obtain ⟨B1, B3⟩ := up2 k B1 B3;obtain ⟨A, X⟩ := axu2 k g2 A X;replace h := h _ X A;exact ⟨bk1, bk2, bk3, t3_0, t3_1, t3_2, t2_0, t2_1, t2_2, t4_0, t4_1, t4_2, rfl, B1, g1, rfl, B2, g2, rfl, B3, g3, (by omega), (by omega), (by omega), A, h⟩
     ·replace h := h_;clear h_;exact ⟨bk1, bk2, bk3, t2_0, t2_1, t2_2, t3_0, t3_1, t3_2, t4_0, t4_1, t4_2, rfl, B1, g1, rfl, B2, g2, rfl, B3, g3, (by omega), (by omega), (by omega), A, h⟩
  · clear h
    rintro t2 t3 t4 w_ ⟨bk1, bk2, bk3, t2_0, t2_1, t2_2, t3_0, t3_1, t3_2, t4_0, t4_1, t4_2, rfl, B1, g1, rfl, B2, g2, rfl, B3, g3, n1_2, n1_3, n2_3, A, hJ3000008⟩
    have h := h3000008  t2_0 t2_1 t2_2 t3_0 t3_1 t3_2 t4_0 t4_1 t4_2 w_ A hJ3000008
    have X : Ext w_ w_ := Ext.refl _
    refine ldI_t 2 B1 rfl ?_;refine ldI_t 2 B2 rfl ?_;have hd_ := Sp.Ahead.drew w_;obtain ⟨B1, B2, B3⟩ := ah3 hd_ B1 B2 B3;obtain ⟨A, X⟩ := axa2 hd_ A X;clear hd_;refine br_map h (fun h_ => ?_) (fun h_ => ?_)
    ·replace h := h_;clear h_;refine l3_t B1 ?_;refine l3_t B2 ?_;refine ldI_t 2 B2 rfl ?_;replace h := h _ X A;refine Calls.mono h ?_;clear h;rintro e4 w7 ⟨x5, he_, a, h⟩;refine ⟨x5, he_, ?_⟩;clear he_;obtain ⟨B1, B2, B3⟩ := ah3 a B1 B2 B3;obtain ⟨A, X⟩ := axr2 a A;refine ⟨a, ?_⟩;refine Calls.mono h ?_;clear h;rintro e5 w8 ⟨x6, he_, a, h⟩;refine ⟨x6, he_, ?_⟩;clear he_;obtain ⟨B1, B2, B3⟩ := ah3 a B1 B2 B3;obtain ⟨A, X⟩ := axr2 a A;refine ⟨a, ?_⟩;refine br_map h (fun h_ => ?_) (fun h_ => ?_)
     ·replace h := h_;clear h_;refine s3_t B3 fun u9 k B3 => ?_;obtain ⟨B1, B2⟩ := up2 k B1 B2;obtain ⟨A, X⟩ := axu2 k g3 A X;refine l3_t B3 ?_;replace h := h _ X A;exact ⟨A, h⟩
     ·replace h := h_;clear h_;exact ⟨bk1, bk2, bk3, t2_0, t2_1, t2_2, t3_0, t3_1, t3_2, t4_0, t4_1, t4_2, rfl, B1, g1, rfl, B2, g2, rfl, B3, g3, (by omega), (by omega), (by omega), A, h⟩
    ·replace h := h_;clear h_;replace h := h _ X A;exact ⟨bk1, bk2, bk3, t2_0, t2_1, t2_2, t3_0, t3_1, t3_2, t4_0, t4_1, t4_2, rfl, B1, g1, rfl, B2, g2, rfl, B3, g3, (by omega), (by omega), (by omega), A, h⟩
  · clear h
    rintro t2 t3 t4 t6 w_ ⟨bk1, bk2, bk3, t2_0, t2_1, t2_2, t3_0, t3_1, t3_2, t4_0, t4_1, t4_2, rfl, B1, g1, rfl, B2, g2, rfl, B3, g3, n1_2, n1_3, n2_3, A, hJ3000011⟩
    have h := h3000011  t6 t2_0 t2_1 t2_2 t3_0 t3_1 t3_2 t4_0 t4_1 t4_2 w_ A hJ3000011
    have X : Ext w_ w_ := Ext.refl _
    have hd_ := Sp.Ahead.drew w_;obtain ⟨B1, B2, B3⟩ := ah3 hd_ B1 B2 B3;obtain ⟨A, X⟩ := axa2 hd_ A X;clear hd_;have z1 := B1.lt;have z2 := B2.lt;have z3 := B3.lt;let V_ : Nat → Nat → Prop := fun (q_ k : Nat) => (k < 0 ∨ w_.drew.heap.size ≤ k) ∧ 0 ≤ k;refine ⟨V_, ?_⟩;have Y_ : w_.drew.heap.size ≤ w_.drew.heap.size := Nat.le_refl _;refine out_t (b := bk1) (i := 0) (by first | rfl | exact Sp.add_off) (fun hv_ => (by replace hv_ : _ ∧ _ := hv_; omega)) ?_;refine ldB_t 0 B1 rfl ?_;refine out_t (b := bk1) (i := 1) (by first | rfl | exact Sp.add_off) (fun hv_ => (by replace hv_ : _ ∧ _ := hv_; omega)) ?_;refine ldS_t 1 B1 rfl ?_;refine ⟨?_, ?_⟩
    ·replace h := h _ X A;refine Calls.mono h ?_;clear h;rintro e6 w11 ⟨s2, he_, a, h⟩;refine ⟨s2, he_, ?_⟩;clear he_;obtain ⟨B1, B2, B3⟩ := ah3 a B1 B2 B3;obtain ⟨A, X, Y_⟩ := axr3 a A Y_;refine ⟨(Bar.of_ahead a), ?_⟩;refine ⟨?_, ?_⟩
     ·replace h := h _ X A;refine Calls.mono h ?_;clear h;rintro e7 w13 ⟨b2, s3, x7, he_, a, h⟩;refine ⟨b2, s3, x7, he_, ?_⟩;clear he_;obtain ⟨B1, B2, B3⟩ := ah3 a B1 B2 B3;obtain ⟨A, X, Y_⟩ := axr3 a A Y_;refine newC_t fun bk4 u10 hb a _ B4 => ?_;have g4 := le_eq A.size hb;obtain ⟨_, _, _⟩ := lt3 hb B1 B2 B3;have y4 := le_eq Y_ hb;obtain ⟨B1, B2, B3⟩ := ah3 a B1 B2 B3;obtain ⟨A, X, Y_⟩ := axa3 a A X Y_;refine bb2 a ?_;refine s2_t B4 fun u11 k B4 => ?_;obtain ⟨B1, B2, B3⟩ := up3 k B1 B2 B3;obtain ⟨A, X, Y_⟩ := axu3 k g4 A X Y_;replace h := h _ X A;refine ⟨bk1, bk2, bk3, bk4, t2_0, t2_1, t2_2, t3_0, t3_1, t3_2, t4_0, t4_1, t4_2, b2, s3, rfl, B1, g1, rfl, B2, g2, rfl, B3, g3, rfl, B4, g4, ?_⟩;iterate 6 refine nd ?_
      exact ⟨A, h⟩
     ·refine newC_t fun bk6 u17 hb a _ B6 => ?_;have g6 := le_eq A.size hb;obtain ⟨_, _, _⟩ := lt3 hb B1 B2 B3;have y6 := le_eq Y_ hb;obtain ⟨B1, B2, B3⟩ := ah3 a B1 B2 B3;obtain ⟨A, X, Y_⟩ := axa3 a A X Y_;refine bb2 a ?_;replace h := h _ X A;refine Calls.mono h ?_;clear h;rintro e12 w25 ⟨b7, s8, x15, he_, a, h⟩;refine ⟨b7, s8, x15, he_, ?_⟩;clear he_;obtain ⟨B1, B2, B3, B6⟩ := ah4 a B1 B2 B3 B6;obtain ⟨A, X, Y_⟩ := axr3 a A Y_;refine s2_t B6 fun u18 k B6 => ?_;obtain ⟨B1, B2, B3⟩ := up3 k B1 B2 B3;obtain ⟨A, X, Y_⟩ := axu3 k g6 A X Y_;replace h := h _ X A;refine ⟨bk1, bk2, bk3, bk6, t2_0, t2_1, t2_2, t3_0, t3_1, t3_2, t4_0, t4_1, t4_2, b7, s8, rfl, B1, g1, rfl, B2, g2, rfl, B3, g3, rfl, B6, g6, ?_⟩;iterate 6 refine nd ?_
      exact ⟨A, h⟩
    ·refine newC_t fun bk7 u19 hb a _ B7 => ?_;have g7 := le_eq A.size hb;obtain ⟨_, _, _⟩ := lt3 hb B1 B2 B3;have y7 := le_eq Y_ hb;obtain ⟨B1, B2, B3⟩ := ah3 a B1 B2 B3;obtain ⟨A, X, Y_⟩ := axa3 a A X Y_;refine bb2 a ?_;replace h := h _ X A;refine Calls.mono h ?_;clear h;rintro e13 w28 ⟨s9, he_, a, h⟩;refine ⟨s9, he_, ?_⟩;clear he_;obtain ⟨B1, B2, B3, B7⟩ := ah4 a B1 B2 B3 B7;obtain ⟨A, X, Y_⟩ := axr3 a A Y_;refine ⟨(Bar.of_ahead a), ?_⟩;replace h := h _ X A;refine Calls.mono h ?_;clear h;rintro e14 w30 ⟨b8, s10, x16, he_, a, h⟩;refine ⟨b8, s10, x16, he_, ?_⟩;clear he_;obtain ⟨B1, B2, B3, B7⟩ := ah4 a B1 B2 B3 B7;obtain ⟨A, X, Y_⟩ := axr3 a A Y_;refine s2_t B7 fun u20 k B7 => ?_;obtain ⟨B1, B2, B3⟩ := up3 k B1 B2 B3;obtain ⟨A, X, Y_⟩ := axu3 k g7 A X Y_;replace h := h _ X A;refine ⟨bk1, bk2, bk3, bk7, t2_0, t2_1, t2_2, t3_0, t3_1, t3_2, t4_0, t4_1, t4_2, b8, s10, rfl, B1, g1, rfl, B2, g2, rfl, B3, g3, rfl, B7, g7, ?_⟩;iterate 6 refine nd ?_
     exact ⟨A, h⟩
  · clear h
    rintro t2 t3 t4 t7 t8 w_ ⟨bk1, bk2, bk3, bk4, t2_0, t2_1, t2_2, t3_0, t3_1, t3_2, t4_0, t4_1, t4_2, t7_0, t7_1, rfl, B1, g1, rfl, B2, g2, rfl, B3, g3, rfl, B4, g4, n1_2, n1_3, n1_4, n2_3, n2_4, n3_4, A, hJ3000012⟩
    have h := h3000012  t8 t2_0 t2_1 t2_2 t3_0 t3_1 t3_2 t4_0 t4_1 t4_2 t7_0 t7_1 w_ A hJ3000012
    have X : Ext w_ w_ := Ext.refl _
    refine br_map h (fun h_ => ?_) (fun h_ => ?_)
    ·replace h := h_;clear h_;refine l3_t B1 ?_;refine l3_t B2 ?_;refine Calls.mono h ?_;clear h;rintro e8 w14 ⟨b3, s4, x8, x9, he_, a, h⟩;refine ⟨b3, s4, x8, x9, he_, ?_⟩;clear he_;obtain ⟨B1, B2, B3, B4⟩ := ah4 a B1 B2 B3 B4;obtain ⟨A, X⟩ := axr2 a A;refine s3_t B3 fun u12 k B3 => ?_;obtain ⟨B1, B2, B4⟩ := up3 k B1 B2 B4;obtain ⟨A, X⟩ := axu2 k g3 A X;refine l3_t B3 ?_;replace h := h _ X A;exact ⟨A, h⟩
    ·replace h := h_;clear h_;refine l2_t B4 ?_;refine ldB_t 0 B2 rfl ?_;refine ldS_t 1 B2 rfl ?_;refine Calls.mono h ?_;clear h;rintro e9 w16 ⟨b4, s5, x10, he_, a, h⟩;refine ⟨b4, s5, x10, he_, ?_⟩;clear he_;obtain ⟨B1, B2, B3, B4⟩ := ah4 a B1 B2 B3 B4;obtain ⟨A, X⟩ := axr2 a A;refine newC_t fun bk5 u13 hb a _ B5 => ?_;have g5 := le_eq A.size hb;obtain ⟨_, _, _, _⟩ := lt4 hb B1 B2 B3 B4;obtain ⟨B1, B2, B3, B4⟩ := ah4 a B1 B2 B3 B4;obtain ⟨A, X⟩ := axa2 a A X;refine s2_t B5 fun u14 k B5 => ?_;obtain ⟨B1, B2, B3, B4⟩ := up4 k B1 B2 B3 B4;obtain ⟨A, X⟩ := axu2 k g5 A X;refine br_map h (fun h_ => ?_) (fun h_ => ?_)
     ·replace h := h_;clear h_;refine l3_t B1 ?_;refine l3_t B2 ?_;replace h := h _ X A;refine Calls.mono h ?_;clear h;rintro e10 w18 ⟨b5, s6, x11, x12, he_, a, h⟩;refine ⟨b5, s6, x11, x12, he_, ?_⟩;clear he_;obtain ⟨B1, B2, B3, B4, B5⟩ := ah5 a B1 B2 B3 B4 B5;obtain ⟨A, X⟩ := axr2 a A;refine s3_t B3 fun u15 k B3 => ?_;obtain ⟨B1, B2, B4, B5⟩ := up4 k B1 B2 B4 B5;obtain ⟨A, X⟩ := axu2 k g3 A X;refine l3_t B3 ?_;replace h := h _ X A;exact ⟨A, h⟩
     ·replace h := h_;clear h_;refine l2_t B5 ?_;refine ldI_t 2 B2 rfl ?_;replace h := h _ X A;refine Calls.mono h ?_;clear h;rintro e11 w21 ⟨b6, s7, x13, x14, he_, a, h⟩;refine ⟨b6, s7, x13, x14, he_, ?_⟩;clear he_;obtain ⟨B1, B2, B3, B4, B5⟩ := ah5 a B1 B2 B3 B4 B5;obtain ⟨A, X⟩ := axr2 a A;refine s3_t B3 fun u16 k B3 => ?_;obtain ⟨B1, B2, B4, B5⟩ := up4 k B1 B2 B4 B5;obtain ⟨A, X⟩ := axu2 k g3 A X;refine l3_t B3 ?_;replace h := h _ X A;exact ⟨A, h⟩

/-- surd/whole.Add: function 82, its local variables as values. -/
theorem whole_Add_v2 (a0_a_0 : Bool) (a0_a_1 : Slc) (a1_b_0 : Bool) (a1_b_1 : Slc) (w : World) (R : Ending → World → Prop)
    
    (h : ∀ w1, Ext w w1 → Ahead w w1 →
    (Calls Tryd.prog 101 #[Value.agg #[Value.bool a0_a_0, a0_a_1.v]] w1 fun e1 w2 =>
     ∃ b1 : Bool, ∃ s1 : Slc, e1 = .returned (Value.agg #[Value.bool b1, s1.v]) ∧ Ahead w1 w2 ∧
     (Calls Tryd.prog 101 #[Value.agg #[Value.bool a1_b_0, a1_b_1.v]] w2 fun e2 w3 =>
      ∃ b2 : Bool, ∃ s2 : Slc, e2 = .returned (Value.agg #[Value.bool b2, s2.v]) ∧ Ahead w2 w3 ∧
      (br (b1 == b2)
       (∀ w4, Ext w3 w4 → Ahead w w4 →
        (Calls Tryd.prog 102 #[s1.v, s2.v] w4 fun e3 w5 =>
         ∃ s3 : Slc, ∃ x1 : Int, e3 = .returned (Value.tuple #[s3.v, Value.int .i64 x1]) ∧ Ahead w4 w5 ∧
         (Calls Tryd.prog 67 #[Value.bool b1, s3.v, Value.int .i64 x1] w5 fun e4 w6 =>
          ∃ b3 : Bool, ∃ s4 : Slc, ∃ x2 : Int, e4 = .returned (Value.tuple #[Value.agg #[Value.bool b3, s4.v], Value.int .i64 x2]) ∧ Ahead w5 w6 ∧
          (∀ w7, Ext w6 w7 → Ahead w w7 →
           (R (.returned (Value.tuple #[Value.agg #[Value.bool b3, s4.v], Value.int .i64 x2])) w7)))))
       (∀ w8, Ext w3 w8 → Ahead w w8 →
        (Calls Tryd.prog 83 #[s1.v, s2.v] w8 fun e5 w9 =>
         ∃ x3 : Int, e5 = .returned (Value.int .i64 x3) ∧ Ahead w8 w9 ∧
         (br (decide (x3 < 0))
          (∀ w10, Ext w9 w10 → Ahead w w10 →
           (Calls Tryd.prog 103 #[s2.v, s1.v] w10 fun e6 w11 =>
            ∃ s5 : Slc, ∃ x4 : Int, e6 = .returned (Value.tuple #[s5.v, Value.int .i64 x4]) ∧ Ahead w10 w11 ∧
            (Calls Tryd.prog 67 #[Value.bool b2, s5.v, Value.int .i64 x4] w11 fun e7 w12 =>
             ∃ b4 : Bool, ∃ s6 : Slc, ∃ x5 : Int, e7 = .returned (Value.tuple #[Value.agg #[Value.bool b4, s6.v], Value.int .i64 x5]) ∧ Ahead w11 w12 ∧
             (∀ w13, Ext w12 w13 → Ahead w w13 →
              (R (.returned (Value.tuple #[Value.agg #[Value.bool b4, s6.v], Value.int .i64 x5])) w13)))))
          (Calls Tryd.prog 103 #[s1.v, s2.v] w9 fun e8 w14 =>
           ∃ s7 : Slc, ∃ x6 : Int, e8 = .returned (Value.tuple #[s7.v, Value.int .i64 x6]) ∧ Ahead w9 w14 ∧
           (Calls Tryd.prog 67 #[Value.bool b1, s7.v, Value.int .i64 x6] w14 fun e9 w15 =>
            ∃ b5 : Bool, ∃ s8 : Slc, ∃ x7 : Int, e9 = .returned (Value.tuple #[Value.agg #[Value.bool b5, s8.v], Value.int .i64 x7]) ∧ Ahead w14 w15 ∧
            (∀ w16, Ext w15 w16 → Ahead w w16 →
             (R (.returned (Value.tuple #[Value.agg #[Value.bool b5, s8.v], Value.int .i64 x7])) w16)))))))))))
     :
    Calls Tryd.prog 82 #[Value.agg #[Value.bool a0_a_0, a0_a_1.v], Value.agg #[Value.bool a1_b_0, a1_b_1.v]] w (fun e_ w_ => Ahead w w_ ∧ R e_ w_) := by
  refine whole_Add_vc a0_a_0 a0_a_1 a1_b_0 a1_b_1 w _  ?_
  · have A : Ahead w w := Ahead.refl w
    have X : Ext w w := Ext.refl w
    refine newC_t fun bk1 u1 hb a _ B1 => ?_;have g1 := le_eq A.size hb;obtain ⟨A, X⟩ := axa2 a A X;refine newC_t fun bk2 u2 hb a _ B2 => ?_;have g2 := le_eq A.size hb;have l1_2 := lt1 hb B1;replace B1 := B1.ahead a;obtain ⟨A, X⟩ := axa2 a A X;refine newC_t fun bk3 u3 hb a _ B3 => ?_;have g3 := le_eq A.size hb;obtain ⟨_, _⟩ := lt2 hb B1 B2;obtain ⟨B1, B2⟩ := ah2 a B1 B2;obtain ⟨A, X⟩ := axa2 a A X;have hd_ := Sp.Ahead.drew u3;obtain ⟨B1, B2, B3⟩ := ah3 hd_ B1 B2 B3;obtain ⟨A, X⟩ := axa2 hd_ A X;clear hd_;have z1 := B1.lt;have z2 := B2.lt;have z3 := B3.lt;let V_ : Nat → Nat → Prop := fun (q_ k : Nat) => (k = bk1 ∨ k = bk2 ∨ u3.drew.heap.size ≤ k) ∧ ((q_ = 0) → k ≠ bk1) ∧ ((q_ = 2) → k ≠ bk2);refine ⟨V_, ?_⟩;have Y_ : u3.drew.heap.size ≤ u3.drew.heap.size := Nat.le_refl _;refine out_t (b := bk1) (i := 0) (by first | rfl | exact Sp.add_off) (fun hv_ => (by replace hv_ : _ ∧ _ := hv_; omega)) ?_;refine l2_t B1 ?_;refine out_t (b := bk2) (i := 0) (by first | rfl | exact Sp.add_off) (fun hv_ => (by replace hv_ : _ ∧ _ := hv_; omega)) ?_;refine l2_t B2 ?_;replace h := h _ X A;refine Calls.mono h ?_;clear h;rintro e1 w2 ⟨b1, s1, he_, a, h⟩;refine ⟨b1, s1, he_, ?_⟩;clear he_;obtain ⟨B1, B2, B3⟩ := ah3 a B1 B2 B3;obtain ⟨A, X, Y_⟩ := axr3 a A Y_;refine ⟨(Bar.of_ahead a), ?_⟩;refine Calls.mono h ?_;clear h;rintro e2 w3 ⟨b2, s2, he_, a, h⟩;refine ⟨b2, s2, he_, ?_⟩;clear he_;obtain ⟨B1, B2, B3⟩ := ah3 a B1 B2 B3;obtain ⟨A, X, Y_⟩ := axr3 a A Y_;refine s2_t B1 fun u4 k B1 => ?_;obtain ⟨B2, B3⟩ := up2 k B2 B3;obtain ⟨A, X, Y_⟩ := axu3 k g1 A X Y_;refine s2_t B2 fun u5 k B2 => ?_;obtain ⟨B1, B3⟩ := up2 k B1 B3;obtain ⟨A, X, Y_⟩ := axu3 k g2 A X Y_;refine ldB_t 0 B1 rfl ?_;refine ldB_t 0 B2 rfl ?_;refine br_map h (fun h_ => ?_) (fun h_ => ?_)
    ·replace h := h_;clear h_;refine ldS_t 1 B1 rfl ?_;refine ldS_t 1 B2 rfl ?_;replace h := h _ X A;refine Calls.mono h ?_;clear h;rintro e3 w5 ⟨s3, x1, he_, a, h⟩;refine ⟨s3, x1, he_, ?_⟩;clear he_;obtain ⟨B1, B2, B3⟩ := ah3 a B1 B2 B3;obtain ⟨A, X⟩ := axr2 a A;refine ldB_t 0 B1 rfl ?_;refine Calls.mono h ?_;clear h;rintro e4 w6 ⟨b3, s4, x2, he_, a, h⟩;refine ⟨b3, s4, x2, he_, ?_⟩;clear he_;obtain ⟨B1, B2, B3⟩ := ah3 a B1 B2 B3;obtain ⟨A, X⟩ := axr2 a A;refine s2_t B3 fun u6 k B3 => ?_;obtain ⟨B1, B2⟩ := up2 k B1 B2;obtain ⟨A, X⟩ := axu2 k g3 A X;refine l2_t B3 ?_;replace h := h _ X A;exact ⟨A, h⟩
    ·replace h := h_;clear h_;refine ldS_t 1 B1 rfl ?_;refine ldS_t 1 B2 rfl ?_;replace h := h _ X A;refine Calls.mono h ?_;clear h;rintro e5 w9 ⟨x3, he_, a, h⟩;refine ⟨x3, he_, ?_⟩;clear he_;obtain ⟨B1, B2, B3⟩ := ah3 a B1 B2 B3;obtain ⟨A, X⟩ := axr2 a A;refine br_map h (fun h_ => ?_) (fun h_ => ?_)
     ·replace h := h_;clear h_;refine l2_t B2 ?_;refine l2_t B1 ?_;refine s2_t B1 fun u7 k B1 => ?_;obtain ⟨B2, B3⟩ := up2 k B2 B3;obtain ⟨A, X⟩ := axu2 k g1 A X;refine s2_t B2 fun u8 k B2 => ?_;obtain ⟨B1, B3⟩ := up2 k B1 B3;obtain ⟨A, X⟩ := axu2 k g2 A X;refine ldS_t 1 B1 rfl ?_;refine ldS_t 1 B2 rfl ?_;replace h := h _ X A;refine Calls.mono h ?_;clear h;rintro e6 w11 ⟨s5, x4, he_, a, h⟩;refine ⟨s5, x4, he_, ?_⟩;clear he_;obtain ⟨B1, B2, B3⟩ := ah3 a B1 B2 B3;obtain ⟨A, X⟩ := axr2 a A;refine ldB_t 0 B1 rfl ?_;refine Calls.mono h ?_;clear h;rintro e7 w12 ⟨b4, s6, x5, he_, a, h⟩;refine ⟨b4, s6, x5, he_, ?_⟩;clear he_;obtain ⟨B1, B2, B3⟩ := ah3 a B1 B2 B3;obtain ⟨A, X⟩ := axr2 a A;refine s2_t B3 fun u9 k B3 => ?_;obtain ⟨B1, B2⟩ := up2 k B1 B2;obtain ⟨A, X⟩ := axu2 k g3 A X;refine l2_t B3 ?_;replace h := h _ X A;exact ⟨A, h⟩
     ·replace h := h_;clear h_;refine ldS_t 1 B1 rfl ?_;refine ldS_t 1 B2 rfl ?_;refine Calls.mono h ?_;clear h;rintro e8 w14 ⟨s7, x6, he_, a, h⟩;refine ⟨s7, x6, he_, ?_⟩;clear he_;obtain ⟨B1, B2, B3⟩ := ah3 a B1 B2 B3;obtain ⟨A, X⟩ := axr2 a A;refine ldB_t 0 B1 rfl ?_;refine Calls.mono h ?_;clear h;rintro e9 w15 ⟨b5, s8, x7, he_, a, h⟩;refine ⟨b5, s8, x7, he_, ?_⟩;clear he_;obtain ⟨B1, B2, B3⟩ := ah3 a B1 B2 B3;obtain ⟨A, X⟩ := axr2 a A;refine s2_t B3 fun u10 k B3 => ?_;obtain ⟨B1, B2⟩ := up2 k B1 B2;obtain ⟨A, X⟩ := axu2 k g3 A X;refine l2_t B3 ?_;replace h := h _ X A;exact ⟨A, h⟩

/-- surd/whole.result: function 67, its local variables as values. -/
theorem whole_result_v2 (a0_neg : Bool) (a1_n : Slc) (a2_e : Int) (w : World) (R : Ending → World → Prop)
    
    (h : br (a2_e != 0)
    (∀ w1, Ext w w1 → Ahead w w1 →
     (R (.returned (Value.tuple #[Value.agg #[Value.bool (false), ((⟨none, 0, 0⟩ : Slc)).v], Value.int .i64 a2_e])) w1))
    (∀ w2, Ext w w2 → Ahead w w2 →
     (Calls Tryd.prog 95 #[Value.agg #[Value.bool a0_neg, a1_n.v]] w2 fun e1 w3 =>
      ∃ b1 : Bool, ∃ s1 : Slc, ∃ x1 : Int, e1 = .returned (Value.tuple #[Value.agg #[Value.bool b1, s1.v], Value.int .i64 x1]) ∧ Ahead w2 w3 ∧
      (∀ w4, Ext w3 w4 → Ahead w w4 →
       (R (.returned (Value.tuple #[Value.agg #[Value.bool b1, s1.v], Value.int .i64 x1])) w4)))))
     :
    Calls Tryd.prog 67 #[Value.bool a0_neg, a1_n.v, Value.int .i64 a2_e] w (fun e_ w_ => Ahead w w_ ∧ R e_ w_) := by
  refine whole_result_vc a0_neg a1_n a2_e w _  ?_
  · have A : Ahead w w := Ahead.refl w
    have X : Ext w w := Ext.refl w
    refine newC_t fun bk1 u1 hb a _ B1 => ?_;have g1 := le_eq A.size hb;obtain ⟨A, X⟩ := axa2 a A X;refine br_map h (fun h_ => ?_) (fun h_ => ?_)
    ·replace h := h_;clear h_;refine s2_t B1 fun u2 k B1 => ?_;obtain ⟨A, X⟩ := axu2 k g1 A X;refine l2_t B1 ?_;replace h := h _ X A;exact ⟨A, h⟩
    ·replace h := h_;clear h_;replace h := h _ X A;refine Calls.mono h ?_;clear h;rintro e1 w3 ⟨b1, s1, x1, he_, a, h⟩;refine ⟨b1, s1, x1, he_, ?_⟩;clear he_;replace B1 := B1.ahead a;obtain ⟨A, X⟩ := axr2 a A;refine s2_t B1 fun u3 k B1 => ?_;obtain ⟨A, X⟩ := axu2 k g1 A X;refine l2_t B1 ?_;replace h := h _ X A;exact ⟨A, h⟩

/-- surd/dyadic.long: function 81, its local variables as values. -/
theorem dyadic_long_v2 (a0_x_0 : Bool) (a0_x_1 : Slc) (a0_x_2 : Int) (a1_y_0 : Bool) (a1_y_1 : Slc) (a1_y_2 : Int) (w : World) (R : Ending → World → Prop)
    
    (h : ∀ w1, Ext w w1 → Ahead w w1 →
    (Calls Tryd.prog 80 #[a0_x_1.v, Value.int .i64 (IntKind.i64.wrap (a0_x_2 - a1_y_2))] w1 fun e1 w2 =>
     ∃ s1 : Slc, e1 = .returned s1.v ∧ Ahead w1 w2 ∧
     (br (!(a0_x_0 == a1_y_0))
      (Calls Tryd.prog 83 #[s1.v, a1_y_1.v] w2 fun e2 w3 =>
       ∃ x1 : Int, e2 = .returned (Value.int .i64 x1) ∧ Ahead w2 w3 ∧
       (br (decide (x1 < 0))
        (∀ w4, Ext w3 w4 → Ahead w w4 →
         (Calls Tryd.prog 100 #[a1_y_1.v, s1.v] w4 fun e3 w5 =>
          ∃ s2 : Slc, e3 = .returned s2.v ∧ Ahead w4 w5 ∧
          (Calls Tryd.prog 42 #[Value.agg #[Value.bool (!a0_x_0), s2.v], Value.int .i64 a1_y_2] w5 fun e4 w6 =>
           ∃ b1 : Bool, ∃ s3 : Slc, ∃ x2 : Int, ∃ x3 : Int, e4 = .returned (Value.tuple #[Value.agg #[Value.bool b1, s3.v, Value.int .i64 x2], Value.int .i64 x3]) ∧ Ahead w5 w6 ∧
           (∀ w7, Ext w6 w7 → Ahead w w7 →
            (R (.returned (Value.tuple #[Value.agg #[Value.bool b1, s3.v, Value.int .i64 x2], Value.int .i64 x3])) w7)))))
        (∀ w8, Ext w3 w8 → Ahead w w8 →
         (Calls Tryd.prog 100 #[s1.v, a1_y_1.v] w8 fun e5 w9 =>
          ∃ s4 : Slc, e5 = .returned s4.v ∧ Ahead w8 w9 ∧
          (Calls Tryd.prog 42 #[Value.agg #[Value.bool a0_x_0, s4.v], Value.int .i64 a1_y_2] w9 fun e6 w10 =>
           ∃ b2 : Bool, ∃ s5 : Slc, ∃ x4 : Int, ∃ x5 : Int, e6 = .returned (Value.tuple #[Value.agg #[Value.bool b2, s5.v, Value.int .i64 x4], Value.int .i64 x5]) ∧ Ahead w9 w10 ∧
           (∀ w11, Ext w10 w11 → Ahead w w11 →
            (R (.returned (Value.tuple #[Value.agg #[Value.bool b2, s5.v, Value.int .i64 x4], Value.int .i64 x5])) w11)))))))
      (∀ w12, Ext w2 w12 → Ahead w w12 →
       (Calls Tryd.prog 90 #[s1.v, a1_y_1.v] w12 fun e7 w13 =>
        ∃ s6 : Slc, e7 = .returned s6.v ∧ Ahead w12 w13 ∧
        (Calls Tryd.prog 42 #[Value.agg #[Value.bool a0_x_0, s6.v], Value.int .i64 a1_y_2] w13 fun e8 w14 =>
         ∃ b3 : Bool, ∃ s7 : Slc, ∃ x6 : Int, ∃ x7 : Int, e8 = .returned (Value.tuple #[Value.agg #[Value.bool b3, s7.v, Value.int .i64 x6], Value.int .i64 x7]) ∧ Ahead w13 w14 ∧
         (∀ w15, Ext w14 w15 → Ahead w w15 →
          (R (.returned (Value.tuple #[Value.agg #[Value.bool b3, s7.v, Value.int .i64 x6], Value.int .i64 x7])) w15))))))))
     :
    Calls Tryd.prog 81 #[Value.agg #[Value.bool a0_x_0, a0_x_1.v, Value.int .i64 a0_x_2], Value.agg #[Value.bool a1_y_0, a1_y_1.v, Value.int .i64 a1_y_2]] w (fun e_ w_ => Ahead w w_ ∧ R e_ w_) := by
  refine dyadic_long_vc a0_x_0 a0_x_1 a0_x_2 a1_y_0 a1_y_1 a1_y_2 w _  ?_
  · have A : Ahead w w := Ahead.refl w
    have X : Ext w w := Ext.refl w
    refine newC_t fun bk1 u1 hb a _ B1 => ?_;have g1 := le_eq A.size hb;obtain ⟨A, X⟩ := axa2 a A X;refine newC_t fun bk2 u2 hb a _ B2 => ?_;have g2 := le_eq A.size hb;have l1_2 := lt1 hb B1;replace B1 := B1.ahead a;obtain ⟨A, X⟩ := axa2 a A X;refine newC_t fun bk3 u3 hb a _ B3 => ?_;have g3 := le_eq A.size hb;obtain ⟨_, _⟩ := lt2 hb B1 B2;obtain ⟨B1, B2⟩ := ah2 a B1 B2;obtain ⟨A, X⟩ := axa2 a A X;have hd_ := Sp.Ahead.drew u3;obtain ⟨B1, B2, B3⟩ := ah3 hd_ B1 B2 B3;obtain ⟨A, X⟩ := axa2 hd_ A X;clear hd_;refine ldS_t 1 B1 rfl ?_;refine ldI_t 2 B1 rfl ?_;refine ldI_t 2 B2 rfl ?_;refine ldS_t 1 B2 rfl ?_;replace h := h _ X A;refine Calls.mono h ?_;clear h;rintro e1 w2 ⟨s1, he_, a, h⟩;refine ⟨s1, he_, ?_⟩;clear he_;obtain ⟨B1, B2, B3⟩ := ah3 a B1 B2 B3;obtain ⟨A, X⟩ := axr2 a A;refine ⟨a, ?_⟩;refine ldB_t 0 B1 rfl ?_;refine ldB_t 0 B1 rfl ?_;refine ldB_t 0 B2 rfl ?_;refine br_map h (fun h_ => ?_) (fun h_ => ?_)
    ·replace h := h_;clear h_;refine Calls.mono h ?_;clear h;rintro e2 w3 ⟨x1, he_, a, h⟩;refine ⟨x1, he_, ?_⟩;clear he_;obtain ⟨B1, B2, B3⟩ := ah3 a B1 B2 B3;obtain ⟨A, X⟩ := axr2 a A;refine br_map h (fun h_ => ?_) (fun h_ => ?_)
     ·replace h := h_;clear h_;have hd_ := Sp.Ahead.drew w3;obtain ⟨B1, B2, B3⟩ := ah3 hd_ B1 B2 B3;obtain ⟨A, X⟩ := axa2 hd_ A X;clear hd_;refine ldI_t 2 B2 rfl ?_;replace h := h _ X A;refine Calls.mono h ?_;clear h;rintro e3 w5 ⟨s2, he_, a, h⟩;refine ⟨s2, he_, ?_⟩;clear he_;obtain ⟨B1, B2, B3⟩ := ah3 a B1 B2 B3;obtain ⟨A, X⟩ := axr2 a A;refine ⟨a, ?_⟩;refine Calls.mono h ?_;clear h;rintro e4 w6 ⟨b1, s3, x2, x3, he_, a, h⟩;refine ⟨b1, s3, x2, x3, he_, ?_⟩;clear he_;obtain ⟨B1, B2, B3⟩ := ah3 a B1 B2 B3;obtain ⟨A, X⟩ := axr2 a A;refine ⟨a, ?_⟩;refine s3_t B3 fun u4 k B3 => ?_;obtain ⟨B1, B2⟩ := up2 k B1 B2;obtain ⟨A, X⟩ := axu2 k g3 A X;refine l3_t B3 ?_;replace h := h _ X A;exact ⟨A, h⟩
     ·replace h := h_;clear h_;have hd_ := Sp.Ahead.drew w3;obtain ⟨B1, B2, B3⟩ := ah3 hd_ B1 B2 B3;obtain ⟨A, X⟩ := axa2 hd_ A X;clear hd_;refine ldI_t 2 B2 rfl ?_;replace h := h _ X A;refine Calls.mono h ?_;clear h;rintro e5 w9 ⟨s4, he_, a, h⟩;refine ⟨s4, he_, ?_⟩;clear he_;obtain ⟨B1, B2, B3⟩ := ah3 a B1 B2 B3;obtain ⟨A, X⟩ := axr2 a A;refine ⟨a, ?_⟩;refine Calls.mono h ?_;clear h;rintro e6 w10 ⟨b2, s5, x4, x5, he_, a, h⟩;refine ⟨b2, s5, x4, x5, he_, ?_⟩;clear he_;obtain ⟨B1, B2, B3⟩ := ah3 a B1 B2 B3;obtain ⟨A, X⟩ := axr2 a A;refine ⟨a, ?_⟩;refine s3_t B3 fun u5 k B3 => ?_;obtain ⟨B1, B2⟩ := up2 k B1 B2;obtain ⟨A, X⟩ := axu2 k g3 A X;refine l3_t B3 ?_;replace h := h _ X A;exact ⟨A, h⟩
    ·replace h := h_;clear h_;have hd_ := Sp.Ahead.drew w2;obtain ⟨B1, B2, B3⟩ := ah3 hd_ B1 B2 B3;obtain ⟨A, X⟩ := axa2 hd_ A X;clear hd_;refine ldI_t 2 B2 rfl ?_;replace h := h _ X A;refine Calls.mono h ?_;clear h;rintro e7 w13 ⟨s6, he_, a, h⟩;refine ⟨s6, he_, ?_⟩;clear he_;obtain ⟨B1, B2, B3⟩ := ah3 a B1 B2 B3;obtain ⟨A, X⟩ := axr2 a A;refine ⟨a, ?_⟩;refine Calls.mono h ?_;clear h;rintro e8 w14 ⟨b3, s7, x6, x7, he_, a, h⟩;refine ⟨b3, s7, x6, x7, he_, ?_⟩;clear he_;obtain ⟨B1, B2, B3⟩ := ah3 a B1 B2 B3;obtain ⟨A, X⟩ := axr2 a A;refine ⟨a, ?_⟩;refine s3_t B3 fun u6 k B3 => ?_;obtain ⟨B1, B2⟩ := up2 k B1 B2;obtain ⟨A, X⟩ := axu2 k g3 A X;refine l3_t B3 ?_;replace h := h _ X A;exact ⟨A, h⟩

end Go.Proofs.YtahbekmnphkiiaaDoor
namespace Go.Proofs.YtahbekmnphkiiaaDoor
open Go Go.RowKit Eng Sp Dg L2
set_option linter.unusedVariables false
set_option linter.unusedSimpArgs false
set_option maxRecDepth 100000
namespace Dy
open _root_.Go.Proofs.YtahbekmnphkiiaaDoor.Nat (OwnNil Num Num.bl OwnNil.mono OwnNil.ext OwnNil.rd OwnNil.ahead OwnNil.nil digs_len_bl num_of Yes cmp_num)
open _root_.Go.Proofs.YtahbekmnphkiiaaDoor.Ref (RN RN.nil RN.ahead Int_spec len_mono bl_len32)
open Sb

/-- A dyadic's steps of 2^b. -/
def dv (z e b : Int) : Int := z * ((2 ^ (e - b).toNat : Nat) : Int)
theorem sg_mul (neg : Bool) (n m : Nat) : sg neg n * (m : Int) = sg neg (n * m) := by
  unfold sg; cases neg <;> simp [Int.neg_mul]
theorem dv_sg (neg : Bool) (n : Nat) (e b : Int) : dv (sg neg n) e b = sg neg (n * 2 ^ (e - b).toNat) := sg_mul neg n _
theorem two_pos (k : Nat) : 0 < 2 ^ k := Nat.pow_pos (by omega)
theorem mul2_zero {n k : Nat} : n * 2 ^ k = 0 ↔ n = 0 := by
  have := two_pos k
  constructor
  · intro h
    rcases Nat.mul_eq_zero.1 h with h | h
    · exact h
    · omega
  · intro h; rw [h, Nat.zero_mul]
def far (e : Int) : Prop := -2305843009213693952 ≤ e ∧ e ≤ 2305843009213693952

end Dy
end Go.Proofs.YtahbekmnphkiiaaDoor
namespace Go.Proofs.YtahbekmnphkiiaaDoor
open Go Go.RowKit Eng Sp Dg
set_option linter.unusedVariables false
set_option linter.unusedSimpArgs false
namespace Dy

theorem dv_zero (e b : Int) : dv 0 e b = 0 := Int.zero_mul _
theorem sg_zero (neg : Bool) : sg neg 0 = 0 := by cases neg <;> rfl
theorem sg_nD (neg : Bool) (x : Nat) : sg (nD neg x) (od x) = sg neg (od x) := by
  by_cases h : x = 0
  · subst h; rw [od_zero, sg_zero, sg_zero]
  · rw [nD_ne h]
/-- Lowest terms are the same number. -/
theorem dv_od {neg : Bool} {X : Nat} {E b : Int} (h : b ≤ E) : dv (sg (nD neg X) (od X)) (eD X E) b = dv (sg neg X) E b := by
  rw [sg_nD]
  by_cases h0 : X = 0
  · subst h0; rw [od_zero, sg_zero, dv_zero, dv_zero]
  · rw [dv_sg, dv_sg, eD, if_neg h0]
    congr 1
    rw [show (E + (tz X : Int) - b).toNat = tz X + (E - b).toNat by omega, Nat.pow_add, ← Nat.mul_assoc, Nat.mul_comm (od X), od_mul]
/-- A number in lowest terms. -/
structure NF (neg : Bool) (n : Nat) (e : Int) : Prop where
  s : nD neg n = neg
  o : od n = n
  z : n = 0 → e = 0
theorem NF.of (neg : Bool) (x : Nat) (e : Int) : NF (nD neg x) (od x) (eD x e) :=
  ⟨nD_od neg x, od_od x, fun h => by rw [od_zero_iff] at h; rw [h, eD_zero]⟩
theorem NF.eD {neg : Bool} {n : Nat} {e : Int} (h : NF neg n e) : Dy.eD n e = e := by
  by_cases hn : n = 0
  · rw [h.z hn, hn, eD_zero]
  · have h1 := od_odd hn
    rw [h.o] at h1
    rw [Dy.eD, if_neg hn, tz_odd h1]; omega
theorem NF.odd {neg : Bool} {n : Nat} {e : Int} (h : NF neg n e) (hn : n ≠ 0) : n % 2 = 1 := by
  have := od_odd hn
  rwa [h.o] at this
theorem NF.eq {neg neg' : Bool} {n n' : Nat} {e e' b : Int} (h : NF neg n e) (h' : NF neg' n' e') (hb : b ≤ e) (hb' : b ≤ e') (he : dv (sg neg n) e b = dv (sg neg' n') e' b) : neg = neg' ∧ n = n' ∧ e = e' := by
  rw [dv_sg, dv_sg] at he
  have ha : n * 2 ^ (e - b).toNat = n' * 2 ^ (e' - b).toNat := by
    have := congrArg Int.natAbs he
    rwa [sg_abs, sg_abs] at this
  have hs : nD neg (n * 2 ^ (e - b).toNat) = nD neg' (n' * 2 ^ (e' - b).toNat) := by
    have := congrArg zb he
    rwa [zb_sg, zb_sg] at this
  by_cases hn : n = 0
  · have hn' : n' = 0 := by
      rw [hn, Nat.zero_mul] at ha
      exact mul2_zero.1 ha.symm
    refine ⟨?_, by rw [hn, hn'], by rw [h.z hn, h'.z hn']⟩
    rw [← h.s, ← h'.s, hn, hn', nD_zero, nD_zero]
  · have hn' : n' ≠ 0 := fun h0 => by
      rw [h0, Nat.zero_mul] at ha
      exact hn (mul2_zero.1 ha)
    have h1 := congrArg od ha
    rw [od_shl, od_shl, h.o, h'.o] at h1
    have h2 := congrArg tz ha
    rw [tz_shl hn, tz_shl hn', tz_odd (h.odd hn), tz_odd (h'.odd hn')] at h2
    rw [nD_ne (fun h0 => hn (mul2_zero.1 h0)), nD_ne (fun h0 => hn' (mul2_zero.1 h0))] at hs
    exact ⟨hs, h1, by omega⟩

end Dy
end Go.Proofs.YtahbekmnphkiiaaDoor
namespace Go.Proofs.YtahbekmnphkiiaaDoor
open Go Go.RowKit Eng L2
set_option linter.unusedVariables false
set_option maxHeartbeats 2000000
set_option maxRecDepth 100000

/-- surd/dyadic.two: function 40, its local variables as values. -/
theorem dyadic_two_v2 (a0_a_0 : Bool) (a0_a_1 : Slc) (a0_a_2 : Int) (a1_b_0 : Bool) (a1_b_1 : Slc) (a1_b_2 : Int) (w : World) (R : Ending → World → Prop)
    
    (h : ∀ w1, Ext w w1 → Ahead w w1 →
    (Calls Tryd.prog 36 #[Value.agg #[Value.bool a0_a_0, a0_a_1.v, Value.int .i64 a0_a_2]] w1 fun e1 w2 =>
     ∃ b1 : Bool, ∃ s1 : Slc, ∃ x1 : Int, ∃ x2 : Int, e1 = .returned (Value.tuple #[Value.agg #[Value.bool b1, s1.v, Value.int .i64 x1], Value.int .i64 x2]) ∧ Ahead w1 w2 ∧
     (br (x2 != 0)
      (∀ w3, Ext w2 w3 → Ahead w w3 →
       (R (.returned (Value.tuple #[Value.agg #[Value.bool b1, s1.v, Value.int .i64 x1], Value.agg #[Value.bool b1, s1.v, Value.int .i64 x1], Value.int .i64 x2])) w3))
      (∀ w4, Ext w2 w4 → Ahead w w4 →
       (Calls Tryd.prog 36 #[Value.agg #[Value.bool a1_b_0, a1_b_1.v, Value.int .i64 a1_b_2]] w4 fun e2 w5 =>
        ∃ b2 : Bool, ∃ s2 : Slc, ∃ x3 : Int, ∃ x4 : Int, e2 = .returned (Value.tuple #[Value.agg #[Value.bool b2, s2.v, Value.int .i64 x3], Value.int .i64 x4]) ∧ Ahead w4 w5 ∧
        (∀ w6, Ext w5 w6 → Ahead w w6 →
         (R (.returned (Value.tuple #[Value.agg #[Value.bool b1, s1.v, Value.int .i64 x1], Value.agg #[Value.bool b2, s2.v, Value.int .i64 x3], Value.int .i64 x4])) w6)))))))
     :
    Calls Tryd.prog 40 #[Value.agg #[Value.bool a0_a_0, a0_a_1.v, Value.int .i64 a0_a_2], Value.agg #[Value.bool a1_b_0, a1_b_1.v, Value.int .i64 a1_b_2]] w (fun e_ w_ => Ahead w w_ ∧ R e_ w_) := by
  refine dyadic_two_vc a0_a_0 a0_a_1 a0_a_2 a1_b_0 a1_b_1 a1_b_2 w _  ?_
  · have A : Ahead w w := Ahead.refl w
    have X : Ext w w := Ext.refl w
    refine newC_t fun bk1 u1 hb a _ B1 => ?_;have g1 := le_eq A.size hb;obtain ⟨A, X⟩ := axa2 a A X;refine newC_t fun bk2 u2 hb a _ B2 => ?_;have g2 := le_eq A.size hb;have l1_2 := lt1 hb B1;replace B1 := B1.ahead a;obtain ⟨A, X⟩ := axa2 a A X;refine newC_t fun bk3 u3 hb a _ B3 => ?_;have g3 := le_eq A.size hb;obtain ⟨_, _⟩ := lt2 hb B1 B2;obtain ⟨B1, B2⟩ := ah2 a B1 B2;obtain ⟨A, X⟩ := axa2 a A X;refine newC_t fun bk4 u4 hb a _ B4 => ?_;have g4 := le_eq A.size hb;obtain ⟨_, _, _⟩ := lt3 hb B1 B2 B3;obtain ⟨B1, B2, B3⟩ := ah3 a B1 B2 B3;obtain ⟨A, X⟩ := axa2 a A X;refine l3_t B1 ?_;replace h := h _ X A;refine Calls.mono h ?_;clear h;rintro e1 w2 ⟨b1, s1, x1, x2, he_, a, h⟩;refine ⟨b1, s1, x1, x2, he_, ?_⟩;clear he_;obtain ⟨B1, B2, B3, B4⟩ := ah4 a B1 B2 B3 B4;obtain ⟨A, X⟩ := axr2 a A;refine newC_t fun bk5 u5 hb a _ B5 => ?_;have g5 := le_eq A.size hb;obtain ⟨_, _, _, _⟩ := lt4 hb B1 B2 B3 B4;obtain ⟨B1, B2, B3, B4⟩ := ah4 a B1 B2 B3 B4;obtain ⟨A, X⟩ := axa2 a A X;refine s3_t B5 fun u6 k B5 => ?_;obtain ⟨B1, B2, B3, B4⟩ := up4 k B1 B2 B3 B4;obtain ⟨A, X⟩ := axu2 k g5 A X;refine br_map h (fun h_ => ?_) (fun h_ => ?_)
    ·replace h := h_;clear h_;have hd_ := Sp.Ahead.drew u6;obtain ⟨B1, B2, B3, B4, B5⟩ := ah5 hd_ B1 B2 B3 B4 B5;obtain ⟨A, X⟩ := axa2 hd_ A X;clear hd_;have z1 := B1.lt;have z2 := B2.lt;have z3 := B3.lt;have z4 := B4.lt;have z5 := B5.lt;let V_ : Nat → Nat → Prop := fun (q_ k : Nat) => (k = bk3 ∨ k = bk4 ∨ u6.drew.heap.size ≤ k) ∧ 0 ≤ k;refine ⟨V_, ?_⟩;have Y_ : u6.drew.heap.size ≤ u6.drew.heap.size := Nat.le_refl _;refine out_t (b := bk5) (i := 0) (by first | rfl | exact Sp.add_off) (fun hv_ => (by replace hv_ : _ ∧ _ := hv_; omega)) ?_;refine l3_t B5 ?_;refine out_t (b := bk5) (i := 0) (by first | rfl | exact Sp.add_off) (fun hv_ => (by replace hv_ : _ ∧ _ := hv_; omega)) ?_;refine l3_t B5 ?_;refine s3_t B3 fun u7 k B3 => ?_;obtain ⟨B1, B2, B4, B5⟩ := up4 k B1 B2 B4 B5;obtain ⟨A, X, Y_⟩ := axu3 k g3 A X Y_;refine ⟨(k.bar (V := V_ 1) (by show _ ∧ _; omega)), ?_⟩;refine s3_t B4 fun u8 k B4 => ?_;obtain ⟨B1, B2, B3, B5⟩ := up4 k B1 B2 B3 B5;obtain ⟨A, X, Y_⟩ := axu3 k g4 A X Y_;refine l3_t B3 ?_;refine l3_t B4 ?_;replace h := h _ X A;exact ⟨A, h⟩
    ·replace h := h_;clear h_;refine l3_t B2 ?_;replace h := h _ X A;refine Calls.mono h ?_;clear h;rintro e2 w5 ⟨b2, s2, x3, x4, he_, a, h⟩;refine ⟨b2, s2, x3, x4, he_, ?_⟩;clear he_;obtain ⟨B1, B2, B3, B4, B5⟩ := ah5 a B1 B2 B3 B4 B5;obtain ⟨A, X⟩ := axr2 a A;refine newC_t fun bk6 u9 hb a _ B6 => ?_;have g6 := le_eq A.size hb;obtain ⟨_, _, _, _, _⟩ := lt5 hb B1 B2 B3 B4 B5;obtain ⟨B1, B2, B3, B4, B5⟩ := ah5 a B1 B2 B3 B4 B5;obtain ⟨A, X⟩ := axa2 a A X;refine s3_t B6 fun u10 k B6 => ?_;obtain ⟨B1, B2, B3, B4, B5⟩ := up5 k B1 B2 B3 B4 B5;obtain ⟨A, X⟩ := axu2 k g6 A X;have hd_ := Sp.Ahead.drew u10;obtain ⟨B1, B2, B3, B4, B5, B6⟩ := ah6 hd_ B1 B2 B3 B4 B5 B6;obtain ⟨A, X⟩ := axa2 hd_ A X;clear hd_;have z1 := B1.lt;have z2 := B2.lt;have z3 := B3.lt;have z4 := B4.lt;have z5 := B5.lt;have z6 := B6.lt;let V_ : Nat → Nat → Prop := fun (q_ k : Nat) => (k = bk3 ∨ k = bk4 ∨ u10.drew.heap.size ≤ k) ∧ 0 ≤ k;refine ⟨V_, ?_⟩;have Y_ : u10.drew.heap.size ≤ u10.drew.heap.size := Nat.le_refl _;refine out_t (b := bk5) (i := 0) (by first | rfl | exact Sp.add_off) (fun hv_ => (by replace hv_ : _ ∧ _ := hv_; omega)) ?_;refine l3_t B5 ?_;refine out_t (b := bk6) (i := 0) (by first | rfl | exact Sp.add_off) (fun hv_ => (by replace hv_ : _ ∧ _ := hv_; omega)) ?_;refine l3_t B6 ?_;refine s3_t B3 fun u11 k B3 => ?_;obtain ⟨B1, B2, B4, B5, B6⟩ := up5 k B1 B2 B4 B5 B6;obtain ⟨A, X, Y_⟩ := axu3 k g3 A X Y_;refine ⟨(k.bar (V := V_ 1) (by show _ ∧ _; omega)), ?_⟩;refine s3_t B4 fun u12 k B4 => ?_;obtain ⟨B1, B2, B3, B5, B6⟩ := up5 k B1 B2 B3 B5 B6;obtain ⟨A, X, Y_⟩ := axu3 k g4 A X Y_;refine l3_t B3 ?_;refine l3_t B4 ?_;replace h := h _ X A;exact ⟨A, h⟩

end Go.Proofs.YtahbekmnphkiiaaDoor
namespace Go.Proofs.YtahbekmnphkiiaaDoor
open Go Go.RowKit Eng Sp Dg L2
set_option linter.unusedVariables false
set_option linter.unusedSimpArgs false
set_option maxRecDepth 100000
namespace Dy
open _root_.Go.Proofs.YtahbekmnphkiiaaDoor.Nat (OwnNil Num Num.bl OwnNil.mono OwnNil.ext OwnNil.rd OwnNil.ahead OwnNil.nil digs_len_bl num_of Yes)
open _root_.Go.Proofs.YtahbekmnphkiiaaDoor.Ref (RN RN.nil RN.ahead len_mono bl_len32)
open Sb

theorem lit_own (k : IntKind) (t : TypeId) (w : World) (l : List Int) : Owr k t (w.alloc (.cells (ints k l).toArray t (0, 0))) ⟨some ⟨w.heap.size, 0, none⟩, l.length, l.length⟩ l w.heap.size :=
  ⟨rfl, [], by simp, by rw [get_alloc]; simp⟩
theorem all_spec {w : World} {s : Slc} {l : List Int} (h : Rd .i64 w s l) (hl : l.length ≤ 1000) :
    Calls pr surdlaw08_all_id #[s.v] w fun e w' => w' = w ∧ ∃ c : Bool, e = .returned (.bool c) ∧ (c = true ↔ ∀ x ∈ l, x = 0) := by
  have hn : s.n = l.length := h.n
  refine surdlaw08_all_vc s w _ (fun t n i w' => t = s ∧ w' = w ∧ n = (l.length : Int) ∧ ∃ j : Nat, i = (j : Int) ∧ j ≤ l.length ∧ ∀ x ∈ l.take j, x = 0) (fun _ n i _ => (n - i).toNat)
    ⟨rfl, rfl, by rw [hn], 0, rfl, Nat.zero_le _, by simp⟩ ?_
  rintro t n i w1 ⟨rfl, rfl, rfl, j, rfl, hj, hz⟩
  refine br_intro (fun hlt => ?_) (fun hge => ?_)
  · have hj' : j < l.length := by simp at hlt; omega
    refine ix_ld (e := 40) (k := .i64) (by kernel_rfl) h (by omega) (by omega) ?_
    refine Calls.mono num_spec ?_
    rintro e w2 ⟨rfl, rfl⟩
    have e8 : IntKind.i64.wrap ((j : Int) + 1) = ((j + 1 : Nat) : Int) := by rw [wrap_i64 (by omega) (by omega)]; omega
    have hmem : l.getD j 0 ∈ l := by rw [getD_lt l 0 hj']; exact List.getElem_mem hj'
    rw [Int.toNat_natCast]
    refine ⟨_, rfl, br_intro (fun hx => ?_) (fun hx => ?_)⟩
    · exact ⟨rfl, _, rfl, ⟨fun h => (by cases h), fun h => absurd (h _ hmem) (by simpa using hx)⟩⟩
    · refine ⟨⟨rfl, rfl, rfl, j + 1, e8, hj', ?_⟩, by rw [e8]; omega⟩
      rw [List.take_succ_eq_append_getElem hj']
      intro x hxm
      rcases List.mem_append.1 hxm with h1 | h1
      · exact hz x h1
      · have : x = l[j] := by simpa using h1
        rw [this, ← getD_lt l 0 hj']
        simpa using hx
  · have hj' : j = l.length := by simp at hge; omega
    subst hj'
    rw [List.take_length] at hz
    exact ⟨rfl, _, rfl, ⟨fun _ => hz, fun _ => rfl⟩⟩

def twC (e e' : Int) : Int := if wi e then if wi e' then 0 else 80 else 80
theorem twC_zero {e e' : Int} (h : twC e e' = 0) : wi e ∧ wi e' := by
  unfold twC at h
  split at h
  · split at h
    · exact ⟨by assumption, by assumption⟩
    · omega
  · omega
theorem two_spec {w : World} {neg neg' : Bool} {s s' : Slc} {x x' : Nat} {e e' : Int} (hT : Tab w) (h : Num w s x) (h' : Num w s' x') :
    Calls pr dyadic_two_id #[.agg (c3 neg s e), .agg (c3 neg' s' e')] w fun en w' => Ahead w w' ∧ ∃ b1 s1 x1 b2 s2 x2, en = .returned (.tuple #[.agg (c3 b1 s1 x1), .agg (c3 b2 s2 x2), .int .i64 (twC e e')]) ∧
      (twC e e' = 0 → b1 = nD neg x ∧ x1 = eD x e ∧ b2 = nD neg' x' ∧ x2 = eD x' e' ∧ OwnNil w.heap.size w' s1 (digs B64 (od x)) ∧ OwnNil w.heap.size w' s2 (digs B64 (od x'))) := by
  refine dyadic_two_v2 neg s e neg' s' e' w _ fun w1 X1 a1 => Calls.mono (read_spec (hT.ahead a1) (h.ahead a1)) ?_
  rintro en w2 ⟨h2, s1, rfl, o1⟩
  have a2 := a1.trans h2
  refine ⟨_, _, _, _, rfl, h2, br_intro (fun hw => ?_) (fun hw => ?_)⟩
  · have hw' : ¬ wi e := fun h => by rw [if_pos h] at hw; simp at hw
    have hc : twC e e' = 80 := if_neg hw'
    intro w3 X3 a3
    rw [hc, if_neg hw', if_neg hw', if_neg hw']
    exact ⟨_, _, _, _, _, _, rfl, fun h => by omega⟩
  · have hw' : wi e := by
      by_cases h : wi e
      · exact h
      · rw [if_neg h] at hw; simp at hw
    rw [if_pos hw'] at o1
    rw [if_pos hw', if_pos hw']
    intro w4 X4 a4
    refine Calls.mono (read_spec (hT.ahead a4) (h'.ahead a4)) ?_
    rintro en w5 ⟨h5, s2, rfl, o2⟩
    refine ⟨_, _, _, _, rfl, h5, fun w6 X6 a6 => ?_⟩
    have hc : twC e e' = if wi e' then 0 else 80 := if_pos hw'
    rw [hc]
    refine ⟨_, _, _, _, _, _, rfl, fun h0 => ?_⟩
    have hw2 : wi e' := by
      by_cases h : wi e'
      · exact h
      · rw [if_neg h] at h0; omega
    rw [if_pos hw2] at o2
    rw [if_pos hw2, if_pos hw2]
    exact ⟨rfl, rfl, rfl, rfl, (((o1.ext X4).ahead h5).ext X6).mono a1.size, (o2.ext X6).mono a4.size⟩
theorem far_eD {w : World} {s : Slc} {x : Nat} {e : Int} (h : Num w s x) (he : wi e) : far (eD x e) := by
  have := eD_far h he
  unfold far; omega

end Dy
end Go.Proofs.YtahbekmnphkiiaaDoor
namespace Go.Proofs.YtahbekmnphkiiaaDoor
open Go Go.RowKit Eng Sp Dg L2
set_option linter.unusedVariables false
set_option linter.unusedSimpArgs false
set_option maxRecDepth 100000
namespace Dy
open _root_.Go.Proofs.YtahbekmnphkiiaaDoor.Nat (OwnNil Num Num.bl OwnNil.mono OwnNil.ext OwnNil.rd OwnNil.ahead OwnNil.nil digs_len_bl num_of Yes)
open _root_.Go.Proofs.YtahbekmnphkiiaaDoor.Ref (RN RN.nil RN.ahead len_mono bl_len32)
open Sb

/-- A dyadic in lowest terms, as a whole number and an exponent. -/
structure NZ (z e : Int) : Prop where
  o : od z.natAbs = z.natAbs
  z : z = 0 → e = 0
theorem NF.nz {neg : Bool} {n : Nat} {e : Int} (h : NF neg n e) : NZ (sg neg n) e :=
  ⟨by rw [sg_abs]; exact h.o, fun h0 => h.z (by have := congrArg Int.natAbs h0; rw [sg_abs] at this; simpa using this)⟩
theorem NZ.nf {z e : Int} (h : NZ z e) : NF (zb z) z.natAbs e := ⟨zb_nD z, h.o, fun h0 => h.z (by omega)⟩
theorem NF.zb {neg : Bool} {n : Nat} {e : Int} (h : NF neg n e) : Dy.zb (sg neg n) = neg := by rw [zb_sg, h.s]

theorem dv_add (x y e b : Int) : dv (x + y) e b = dv x e b + dv y e b := Int.add_mul _ _ _

end Dy
end Go.Proofs.YtahbekmnphkiiaaDoor
namespace Go.Proofs.YtahbekmnphkiiaaDoor
open Go Go.RowKit Eng Sp Dg L2
set_option linter.unusedVariables false
set_option linter.unusedSimpArgs false
set_option maxRecDepth 100000
namespace Dy
open _root_.Go.Proofs.YtahbekmnphkiiaaDoor.Nat (ldN ldNf stF stFf mkF Fill OwnNil Num Num.bl Num.ext OwnNil.mono OwnNil.ext OwnNil.rd OwnNil.ahead OwnNil.nil Norm_spec digs_len_bl num_of bigC leftC left_num Ret add_num sub_num cmp_num subC)
open _root_.Go.Proofs.YtahbekmnphkiiaaDoor.Ref (RN len_mono)
open Sb

theorem minus_spec {w : World} {p q : Slc} {x y : Nat} (hp : Rd .u64 w p (nn (digs B64 x))) (hq : Rd .u64 w q (nn (digs B64 y))) (hle : y ≤ x) (la : (digs B64 x).length ≤ 2 ^ 44) :
    Calls pr dyadic_minus_id #[p.v, q.v] w fun e w' => Ahead w w' ∧ ∃ s, e = .returned (Slc.v s) ∧ OwnNil w.heap.size w' s (digs B64 (x - y)) := by
  have hB := B64v
  have hna : p.n = (digs B64 x).length := by rw [hp.n, nn_length]
  have hnb : q.n = (digs B64 y).length := by rw [hq.n, nn_length]
  have hlen : (digs B64 y).length ≤ (digs B64 x).length := len_mono two64 hle
  have oa := ok_digs two64 x
  have ob := ok_digs two64 y
  have vx := val_digs two64 x
  have vy := val_digs two64 y
  generalize digs B64 x = A at *
  generalize digs B64 y = C at *
  refine dyadic_minus_vc p q w _ (fun s t out k n i w' => s = p ∧ t = q ∧ n = (A.length : Int) ∧ ∃ (l : List Nat) (j cr : Nat), k = (cr : Int) ∧ cr ≤ 1 ∧ i = (j : Int) ∧ j ≤ A.length ∧
    Fill w w' out l (fun _ => True) ∧ l.length = A.length ∧ ok B64 l ∧ val B64 (l.take j) + val B64 (C.take j) = val B64 (A.take j) + cr * B64 ^ j) (fun _ _ _ _ n i _ => (n - i).toNat) ?_ ?_
  · rw [hna]
    refine mkF (S := fun _ => True) (w0 := w) (by omega) (by omega) (Ahead.refl _) trivial ?_
    intro s w1 hsn hf ha
    refine ⟨rfl, rfl, by rw [hsn]; omega, _, 0, 0, rfl, by omega, rfl, Nat.zero_le _, hf, by rw [List.length_replicate]; omega, ok_replicate (by omega) _, by simp [val]⟩
  · rintro s t out k n i w1 ⟨rfl, rfl, rfl, l, j, cr, rfl, hcr, rfl, hj, hf, hl, ol, hv⟩
    refine br_intro (fun hlt => ?_) (fun hge => ?_)
    · have hj' : j < A.length := by have := of_decide_eq_true hlt; omega
      refine Calls.mono (limb_spec (hp.ahead hf.base) (by omega)) ?_
      rintro e w2 ⟨rfl, rfl⟩
      refine ⟨_, rfl, Calls.mono (limb_spec (hq.ahead hf.base) (by omega)) ?_⟩
      rintro e w3 ⟨rfl, rfl⟩
      refine ⟨_, rfl, ?_⟩
      rw [Int.toNat_natCast]
      have hx := ok_getD oa (by omega : 0 < B64) j
      have hy := ok_getD ob (by omega : 0 < B64) j
      have e8 : IntKind.i64.wrap ((j : Int) + 1) = ((j + 1 : Nat) : Int) := by rw [wrap_i64 (by omega) (by omega)]; omega
      have t1 := val_take_succ' A j (B := B64)
      have t2 := val_take_succ' C j (B := B64)
      generalize A.getD j 0 = a at *
      generalize C.getD j 0 = c at *
      have e2 : IntKind.u64.wrap (IntKind.u64.wrap ((a : Int) - (c : Int)) - (cr : Int)) = (((a + 2 * B64 - c - cr) % B64 : Nat) : Int) := by rw [wrap_u64, wrap_u64, hB]; rw [hB] at hx hy; omega
      rw [e2]
      have fin : ∀ cr' : Nat, cr' = (if a < c + cr then 1 else 0) → semA pr (Instr.indexAt 35 out.v (.int .i64 (j : Int))) w3 fun ad1 w4 => stC ad1 (.int .u64 (((a + 2 * B64 - c - cr) % B64 : Nat) : Int)) w4 fun w5 =>
          (s = s ∧ t = t ∧ (A.length : Int) = (A.length : Int) ∧ ∃ (l : List Nat) (j' cr : Nat), (cr' : Int) = (cr : Int) ∧ cr ≤ 1 ∧ IntKind.i64.wrap ((j : Int) + 1) = (j' : Int) ∧ j' ≤ A.length ∧
    Fill w w5 out l (fun _ => True) ∧ l.length = A.length ∧ ok B64 l ∧ val B64 (l.take j') + val B64 (C.take j') = val B64 (A.take j') + cr * B64 ^ j') ∧ ((A.length : Int) - IntKind.i64.wrap ((j : Int) + 1)).toNat < ((A.length : Int) - (j : Int)).toNat := by
        intro cr' hc'
        refine stF hf (by omega) (by omega) ?_
        intro w5 hf5
        simp only [Int.toNat_natCast] at hf5
        refine ⟨⟨rfl, rfl, rfl, _, j + 1, cr', rfl, by rw [hc']; split <;> omega, e8, hj', hf5, by simpa using hl, ok_set ol (Nat.mod_lt _ (by omega)), ?_⟩, by rw [e8]; omega⟩
        rw [val_take_set _ _ _ (by omega), t1, t2, Nat.pow_succ]
        refine sub_step ?_ hv
        rw [hc', hB]
        rw [hB] at hx hy
        split <;> omega
      refine br_intro (fun h1 => ?_) (fun h1 => br_intro (fun h2 => br_intro (fun h3 => ?_) (fun h3 => ?_)) (fun h2 => ?_))
      · exact fin 1 (by have := of_decide_eq_true h1; rw [if_pos (by omega)])
      · have q2 : a = c := by have := eq_of_beq h2; omega
        have q3 : cr = 1 := by have := eq_of_beq h3; omega
        exact fin 1 (by rw [if_pos (by omega)])
      · have q2 : a = c := by have := eq_of_beq h2; omega
        have q3 : cr ≠ 1 := fun h => by rw [h] at h3; simp at h3
        exact fin 0 (by rw [if_neg (by omega)])
      · have q1 := of_decide_eq_false h1
        have q2 : a ≠ c := fun h => by rw [h] at h2; simp at h2
        exact fin 0 (by rw [if_neg (by omega)])
    · have hj' : j = A.length := by have := of_decide_eq_false hge; omega
      subst hj'
      rw [val_take_all l (by omega), val_take_all A (by omega), val_take_all C (by omega), vx, vy] at hv
      have hlt := val_lt ol
      rw [hl] at hlt
      have h3 : cr = 0 := by
        rcases Nat.lt_or_ge cr 1 with h | h
        · omega
        · have hc1 : cr = 1 := by omega
          subst hc1
          omega
      subst h3
      have hv' : val B64 l = x - y := by omega
      refine Calls.mono (Norm_spec hf.rd (by omega) ol) ?_
      rw [hv']
      rintro e w6 ⟨h6, s', rfl, hr⟩
      exact ⟨_, rfl, hf.base.trans h6, _, rfl, hr.mono hf.base.size⟩

/-- z times 2^E is v times 2^b, in lowest terms. -/
structure Vl (z E b v : Int) : Prop where
  nz : NZ z E
  le : b ≤ E
  val : dv z E b = v
theorem Vl.eq {z E z' E' b v : Int} (h : Vl z E b v) (h' : Vl z' E' b v) : z = z' ∧ E = E' := by
  have q := NF.eq h.nz.nf h'.nz.nf h.le h'.le (by rw [sg_zb, sg_zb, h.val, h'.val])
  refine ⟨?_, q.2.2⟩
  rw [← sg_zb z, ← sg_zb z', q.1, q.2.1]
/-- What told makes of a number. -/
theorem Vl.told {neg : Bool} {X : Nat} {E b v : Int} (hb : b ≤ E) (h0 : b ≤ 0) (h : dv (sg neg X) E b = v) : Vl (sg (nD neg X) (od X)) (eD X E) b v := by
  refine ⟨(NF.of neg X E).nz, by unfold eD; split <;> omega, ?_⟩
  rw [dv_od hb, h]
theorem dv_mulZ {z z' E E' b b' : Int} (h : b ≤ E) (h' : b' ≤ E') : dv (z * z') (E + E') (b + b') = dv z E b * dv z' E' b' := by
  show z * z' * _ = (z * _) * (z' * _)
  rw [show (E + E' - (b + b')).toNat = (E - b).toNat + (E' - b').toNat by omega, Nat.pow_add]
  push_cast
  ac_rfl
theorem sg_sg_mul (n m : Bool) (x y : Nat) : sg (n != m) (x * y) = sg n x * sg m y := by
  unfold sg
  cases n <;> cases m <;> simp [Int.neg_mul, Int.mul_neg]

end Dy
end Go.Proofs.YtahbekmnphkiiaaDoor
namespace Go.Proofs.YtahbekmnphkiiaaDoor
open Go Go.RowKit Eng Sp Dg
set_option linter.unusedVariables false
set_option linter.unusedSimpArgs false
set_option maxRecDepth 100000
namespace Mul
open _root_.Go.Proofs.YtahbekmnphkiiaaDoor.Nat (ldN ldNf stN mkN Fill mkF stF stFf Num OwnNil add64 sub64)

theorem row_step (x y o cr : Nat) (hx : x < B64) (hy : y < B64) (ho : o < B64) (hc : cr < B64) :
    (o + (x * y % B64 + cr) % B64) % B64 + B64 * (x * y / B64 + (x * y % B64 + cr) / B64 + (o + (x * y % B64 + cr) % B64) / B64) = o + x * y + cr ∧
      x * y / B64 + (x * y % B64 + cr) / B64 + (o + (x * y % B64 + cr) % B64) / B64 < B64 := by
  have hB := B64v
  have h1 := Nat.mod_add_div (x * y) B64
  have h2 := Nat.mod_add_div (x * y % B64 + cr) B64
  have h3 := Nat.mod_add_div (o + (x * y % B64 + cr) % B64) B64
  have hxy : x * y ≤ (B64 - 1) * (B64 - 1) := Nat.mul_le_mul (by omega) (by omega)
  generalize (o + (x * y % B64 + cr) % B64) % B64 = s at *
  generalize (o + (x * y % B64 + cr) % B64) / B64 = c2 at *
  generalize (x * y % B64 + cr) % B64 = lo2 at *
  generalize (x * y % B64 + cr) / B64 = c1 at *
  generalize x * y % B64 = lo at *
  generalize x * y / B64 = hi at *
  generalize x * y = p at *
  have e : s + B64 * (hi + c1 + c2) = o + p + cr := by rw [Nat.mul_add, Nat.mul_add]; omega
  refine ⟨e, ?_⟩
  rcases Nat.lt_or_ge (hi + c1 + c2) B64 with h | h
  · exact h
  · exfalso
    have h5 := Nat.mul_le_mul_left B64 h
    have h6 : (B64 - 1) * (B64 - 1) + 2 * B64 = B64 * B64 + 1 := by decide
    clear h1 h2 h3
    generalize (B64 - 1) * (B64 - 1) = Q at *
    generalize B64 * B64 = BB at *
    generalize B64 * (hi + c1 + c2) = T at *
    omega

theorem school_spec {w : World} {a b : Slc} {la lb : List Nat} (ha : Rd .u64 w a (nn la)) (hb : Rd .u64 w b (nn lb)) (oa : ok B64 la) (ob : ok B64 lb) (nab : la.length + lb.length ≤ 2 ^ 45) :
    Calls pr mul_school_id #[a.v, b.v] w fun e w' => Ahead w w' ∧ ∃ s l, e = .returned (Slc.v s) ∧ OwnNil w.heap.size w' s l ∧ l.length = la.length + lb.length ∧ ok B64 l ∧ val B64 l = val B64 la * val B64 lb := by
  have hB := B64v
  have hna : a.n = la.length := by rw [ha.n, nn_length]
  have hnb : b.n = lb.length := by rw [hb.n, nn_length]
  refine mul_school_vc a b w _
    (fun t1 out t20 t21 t22 w' => t1 = b ∧ t20 = a ∧ t21 = (la.length : Int) ∧ Ahead w w' ∧ ∃ (i : Nat) (l : List Nat), t22 = (i : Int) ∧ i ≤ la.length ∧ Owr .u64 tU64 w' out (nn l) w.heap.size ∧ out.c ≤ maxLen ∧ l.length = la.length + lb.length ∧ ok B64 l ∧
      (∀ j, i + lb.length ≤ j → j < l.length → l.getD j 0 = 0) ∧ val B64 l = val B64 (la.take i) * val B64 lb)
    (fun _ _ _ n i _ => (n - i).toNat)
    (fun o1 o5 o20 o21 o22 ow t1 out t6 t7 t8 t20 t21 t22 t27 t28 t29 w' => o21 = t21 ∧ o22 = t22 ∧ t1 = b ∧ t20 = a ∧ t21 = (la.length : Int) ∧ t27 = b ∧ t28 = (lb.length : Int) ∧ Ahead w w' ∧ ∃ (i k cr : Nat) (l : List Nat), t6 = (i : Int) ∧ t22 = (i : Int) ∧ i < la.length ∧ t7 = ((la.getD i 0 : Nat) : Int) ∧
      t8 = (cr : Int) ∧ cr < B64 ∧ t29 = (k : Int) ∧ k ≤ lb.length ∧ Owr .u64 tU64 w' out (nn l) w.heap.size ∧ out.c ≤ maxLen ∧ l.length = la.length + lb.length ∧ ok B64 l ∧
      (∀ j, i + lb.length ≤ j → j < l.length → l.getD j 0 = 0) ∧ val B64 l + cr * B64 ^ (i + k) = val B64 (la.take i) * val B64 lb + la.getD i 0 * val B64 (lb.take k) * B64 ^ i)
    (fun _ _ _ _ _ _ _ _ _ _ _ _ _ _ _ n k _ => (n - k).toNat) ?_ ?_ ?_
  · rw [hna, hnb, wrap_i64 (by omega) (by omega)]
    refine mkN (by omega) (by omega) ?_
    intro c w1 hc ho h1 hs1
    refine ⟨rfl, rfl, rfl, h1, 0, _, rfl, Nat.zero_le _, ho, by rw [hc]; unfold maxLen; omega, by rw [List.length_replicate]; omega, ok_replicate (by omega) _, fun j h2 h3 => ?_, by rw [val_replicate]; simp [val]⟩
    rw [List.length_replicate] at h3
    simp [List.getD_eq_getElem?_getD, List.getElem?_replicate, h3]
  · rintro t1 out t20 t21 t22 w1 ⟨rfl, rfl, rfl, h1, i, l, rfl, hi, ho, hoc, hl, ol, hz, hv⟩
    refine br_intro (fun hlt => ?_) (fun hge => ?_)
    · have hi' : i < la.length := by simp at hlt; omega
      refine ldN (ha.ahead h1) (by omega) (by omega) ?_
      rw [Int.toNat_natCast]
      exact ⟨rfl, rfl, rfl, rfl, rfl, rfl, by rw [hnb], h1, i, 0, 0, l, rfl, rfl, hi', rfl, rfl, by omega, rfl, Nat.zero_le _, ho, hoc, hl, ol, hz, by simp [val, hv]⟩
    · have hi' : i = la.length := by simp at hge; omega
      subst hi'
      exact ⟨h1, out, l, rfl, .inr ⟨_, Nat.le_refl _, hoc, ho⟩, hl, ol, by rw [hv, List.take_length]⟩
  · rintro o1 o5 o20 o21 o22 ow _ t1 out t6 t7 t8 t20 t21 t22 t27 t28 t29 w1 ⟨rfl, rfl, rfl, rfl, rfl, rfl, rfl, h1, i, k, cr, l, rfl, rfl, hi, rfl, rfl, hcr, rfl, hk, ho, hoc, hl, ol, hz, hv⟩
    have hx := ok_getD oa (by omega : 0 < B64) i
    refine br_intro (fun hlt => ?_) (fun hge => ?_)
    · have hk' : k < lb.length := by simp at hlt; omega
      have e8 : IntKind.i64.wrap ((k : Int) + 1) = ((k + 1 : Nat) : Int) := by rw [wrap_i64 (by omega) (by omega)]; omega
      have hy := ok_getD ob (by omega : 0 < B64) k
      have hoo := ok_getD ol (by omega : 0 < B64) (i + k)
      refine ldN (hb.ahead h1) (by omega) (by omega) ?_
      rw [Int.toNat_natCast]
      refine Calls.mono (Tryd.bits_Mul64 _ _ (by omega) (by omega) _) ?_
      rintro e w4 ⟨rfl, rfl⟩
      refine ⟨_, _, rfl, ?_⟩
      rw [← B64v]
      refine add64 (c := 0) (by omega) ?_
      rw [wrap_i64 (x := (i : Int) + (k : Int)) (by omega) (by omega), show (i : Int) + (k : Int) = ((i + k : Nat) : Int) by omega]
      refine ldN ho.rd (by omega) (by omega) ?_
      rw [Int.toNat_natCast]
      refine add64 (c := 0) (by omega) ?_
      refine stO ho (by omega) (by omega) ?_
      intro w9 ho9 hon9
      rw [Int.toNat_natCast] at ho9
      obtain ⟨r1, r2⟩ := row_step (la.getD i 0) (lb.getD k 0) (l.getD (i + k) 0) cr hx hy hoo hcr
      simp only [Nat.add_zero] at ho9 ⊢
      have vs := val_set (B := B64) l (i + k) ((l.getD (i + k) 0 + (la.getD i 0 * lb.getD k 0 % B64 + cr) % B64) % B64) (by omega)
      have tk := val_take_succ' lb k (B := B64)
      have hsB : (l.getD (i + k) 0 + (la.getD i 0 * lb.getD k 0 % B64 + cr) % B64) % B64 < B64 := Nat.mod_lt _ (by omega)
      generalize (l.getD (i + k) 0 + (la.getD i 0 * lb.getD k 0 % B64 + cr) % B64) % B64 = s at *
      generalize la.getD i 0 * lb.getD k 0 / B64 = hi' at *
      generalize (la.getD i 0 * lb.getD k 0 % B64 + cr) / B64 = c1 at *
      generalize (l.getD (i + k) 0 + (la.getD i 0 * lb.getD k 0 % B64 + cr) % B64) / B64 = c2 at *
      have ec : IntKind.u64.wrap (IntKind.u64.wrap ((hi' : Int) + (c1 : Int)) + (c2 : Int)) = ((hi' + c1 + c2 : Nat) : Int) := by
        rw [wrap_u64' (x := (hi' : Int) + c1) (by omega) (by omega), wrap_u64' (by omega) (by omega)]; omega
      rw [ec, e8]
      refine ⟨⟨by trivial, by trivial, by trivial, by trivial, by trivial, by trivial, by trivial, hon9.ahead h1 (Nat.le_refl _), i, k + 1, _, _, rfl, rfl, hi, rfl, rfl, r2, rfl, hk', ho9, hoc, by simpa using hl, ok_set ol hsB, fun j h2 h3 => ?_, ?_⟩, by omega⟩
      · rw [List.length_set] at h3
        rw [getD_set _ _ _ _ (by omega), if_neg (by omega)]
        exact hz j h2 h3
      · rw [tk, show i + (k + 1) = i + k + 1 by omega, Nat.pow_succ]
        have e1 : la.getD i 0 * (val B64 (lb.take k) + B64 ^ k * lb.getD k 0) * B64 ^ i = la.getD i 0 * val B64 (lb.take k) * B64 ^ i + B64 ^ (i + k) * (la.getD i 0 * lb.getD k 0) := by
          rw [Nat.mul_add, Nat.add_mul, Nat.pow_add]; congr 1; ac_rfl
        rw [e1, ← Nat.add_assoc, ← hv]
        generalize la.getD i 0 * lb.getD k 0 = xy at *
        generalize l.getD (i + k) 0 = o at *
        generalize B64 ^ (i + k) = P at *
        have e2 : P * s + (hi' + c1 + c2) * (P * B64) = P * o + P * xy + cr * P := by
          have f1 : P * (s + B64 * (hi' + c1 + c2)) = P * s + (hi' + c1 + c2) * (P * B64) := by rw [Nat.mul_add]; congr 1; ac_rfl
          have f2 : P * (o + xy + cr) = P * o + P * xy + cr * P := by rw [Nat.mul_add, Nat.mul_add, Nat.mul_comm P cr]
          rw [← f1, r1, f2]
        omega
    · have hk' : k = lb.length := by simp at hge; omega
      subst hk'
      have e8 : IntKind.i64.wrap ((i : Int) + 1) = ((i + 1 : Nat) : Int) := by rw [wrap_i64 (by omega) (by omega)]; omega
      rw [hnb, wrap_i64 (x := (i : Int) + ((lb.length : Nat) : Int)) (by omega) (by omega), show (i : Int) + ((lb.length : Nat) : Int) = ((i + lb.length : Nat) : Int) by omega]
      refine stO ho (by omega) (by omega) ?_
      intro w9 ho9 hon9
      rw [Int.toNat_natCast] at ho9
      have hzero := hz (i + lb.length) (Nat.le_refl _) (by omega)
      refine ⟨⟨rfl, rfl, rfl, hon9.ahead h1 (Nat.le_refl _), i + 1, _, e8, hi, ho9, hoc, by simpa using hl, ok_set ol hcr, fun j h2 h3 => ?_, ?_⟩, by rw [e8]; omega⟩
      · rw [List.length_set] at h3
        rw [getD_set _ _ _ _ (by omega), if_neg (by omega)]
        exact hz j (by omega) h3
      · have vs := val_set (B := B64) l (i + lb.length) cr (by omega)
        rw [hzero, Nat.mul_zero, Nat.add_zero] at vs
        rw [vs, Nat.mul_comm (B64 ^ (i + lb.length)), hv, List.take_length, val_take_succ', Nat.add_mul]
        congr 1
        ac_rfl

end Mul
end Go.Proofs.YtahbekmnphkiiaaDoor
namespace Go.Proofs.YtahbekmnphkiiaaDoor
open Go Go.RowKit Eng Sp Dg
set_option linter.unusedVariables false
set_option linter.unusedSimpArgs false
set_option maxRecDepth 100000
namespace Mul
open _root_.Go.Proofs.YtahbekmnphkiiaaDoor.Nat (ldN ldNf stN mkN Fill mkF stF stFf Num OwnNil add64 sub64 len_le Norm_spec)

theorem part_lo {w : World} {a : Slc} {l : List Nat} (h : Rd .u64 w a (nn l)) (ol : ok B64 l) (ll : l.length ≤ 2 ^ 46) (k : Nat) :
    Calls pr mul_part_id #[a.v, .int .i64 0, .int .i64 (k : Int)] w fun e w' => w' = w ∧ ∃ s, e = .returned (Slc.v s) ∧ Rd .u64 w s (nn (digs B64 (val B64 (l.take k)))) ∧ (digs B64 (val B64 (l.take k))).length ≤ k := by
  refine Calls.mono (part_spec h ol ll (f := 0) (t := (k : Int)) (by omega) (by simp) (by omega)) ?_
  rintro e w' ⟨rfl, s, rfl, hr⟩
  have e1 : (l.drop (min (0 : Int).toNat l.length)).take (min ((k : Int)).toNat l.length - min (0 : Int).toNat l.length) = l.take k := by
    simp
  rw [e1] at hr
  exact ⟨rfl, s, rfl, hr, Nat.le_trans (len_le (ok_take ol k)) (by simp; omega)⟩
theorem part_hi {w : World} {a : Slc} {l : List Nat} (h : Rd .u64 w a (nn l)) (ol : ok B64 l) (ll : l.length ≤ 2 ^ 46) (k : Nat) (n : Nat) (hn : n = l.length) :
    Calls pr mul_part_id #[a.v, .int .i64 (k : Int), .int .i64 (n : Int)] w fun e w' => w' = w ∧ ∃ s, e = .returned (Slc.v s) ∧ Rd .u64 w s (nn (digs B64 (val B64 (l.drop k)))) ∧ (digs B64 (val B64 (l.drop k))).length ≤ l.length - k := by
  refine Calls.mono (part_spec h ol ll (f := (k : Int)) (t := (n : Int)) (by omega) (by simp; omega) (by omega)) ?_
  rintro e w' ⟨rfl, s, rfl, hr⟩
  have e1 : (l.drop (min ((k : Int)).toNat l.length)).take (min ((n : Int)).toNat l.length - min ((k : Int)).toNat l.length) = l.drop k := by
    rw [hn]
    simp
    rw [Nat.min_def]; split
    · rw [List.take_of_length_le (by simp)]
    · rw [List.drop_of_length_le (Nat.le_refl _), List.drop_of_length_le (by omega)]; simp
  rw [e1] at hr
  exact ⟨rfl, s, rfl, hr, Nat.le_trans (len_le (ok_drop ol k)) (by simp)⟩

/-- An answer that is a row of the call's own with limbs of the number. -/
def Res (w : World) (N m : Nat) (e : Ending) (w' : World) : Prop := Ahead w w' ∧ ∃ s l, e = .returned (Slc.v s) ∧ OwnNil w.heap.size w' s l ∧ l.length ≤ m ∧ ok B64 l ∧ val B64 l = N

theorem kara (A B C D P : Nat) : A * C + ((A + B) * (C + D) - A * C - B * D) * P + B * D * (P * P) = (A + P * B) * (C + P * D) := by
  have h1 : (A + B) * (C + D) = A * C + A * D + B * C + B * D := by rw [Nat.add_mul, Nat.mul_add, Nat.mul_add]; omega
  have h2 : (A + B) * (C + D) - A * C - B * D = A * D + B * C := by rw [h1]; omega
  rw [h2, Nat.add_mul (A * D), Nat.mul_add (A + P * B), Nat.add_mul A, Nat.add_mul A]
  have e1 : A * (P * D) = A * D * P := by ac_rfl
  have e2 : P * B * C = B * C * P := by ac_rfl
  have e3 : P * B * (P * D) = B * D * (P * P) := by ac_rfl
  rw [e1, e2, e3]
  omega

set_option maxHeartbeats 2000000 in
theorem halved_spec : ∀ (n : Nat) (w : World) (a : Slc) (la : List Nat) (ha : Rd .u64 w a (nn la)) (oa : ok B64 la) (b : Slc) (lb : List Nat) (hb : Rd .u64 w b (nn lb)) (ob : ok B64 lb) (cut : Int) (hc0 : 4 ≤ cut) (hc1 : cut ≤ 9223372036854775807)
    (hsz : la.length + lb.length + 4 ≤ 2 ^ 44) (hn : la.length + lb.length ≤ n), Calls pr mul_halved_id #[a.v, b.v, .int .i64 cut] w (Res w (val B64 la * val B64 lb) (la.length + lb.length + 1)) := by
  have hB := B64v
  intro n
  induction n using Nat.strongRecOn with
  | ind n ih =>
  intro w a la ha oa b lb hb ob cut hc0 hc1 hsz hn
  have hna : a.n = la.length := by rw [ha.n, nn_length]
  have hnb : b.n = lb.length := by rw [hb.n, nn_length]
  refine mul_halved_vc a b cut w _ ?_
  have key : ∀ m, m < la.length + lb.length → ∀ (w : World) (a : Slc) (la : List Nat) (ha : Rd .u64 w a (nn la)) (oa : ok B64 la) (b : Slc) (lb : List Nat) (hb : Rd .u64 w b (nn lb)) (ob : ok B64 lb),
      la.length + lb.length + 4 ≤ 2 ^ 44 → la.length + lb.length ≤ m → Calls pr mul_halved_id #[a.v, b.v, .int .i64 cut] w (Res w (val B64 la * val B64 lb) (la.length + lb.length + 1)) :=
    fun m hm w a la ha oa b lb hb ob h1 h2 => ih m (by omega) w a la ha oa b lb hb ob cut hc0 hc1 h1 h2
  clear ih hn
  refine br_intro (fun hlt => ?_) (fun hge => ?_)
  have hle : la.length ≤ lb.length := by simp at hlt; omega
  clear hlt
  obtain ⟨p, e⟩ : ∃ p, p = b := ⟨_, rfl⟩
  subst e
  obtain ⟨q, e⟩ : ∃ q, q = a := ⟨_, rfl⟩
  subst e
  obtain ⟨lp, e⟩ : ∃ lp, lp = lb := ⟨_, rfl⟩
  subst e
  obtain ⟨lq, e⟩ : ∃ lq, lq = la := ⟨_, rfl⟩
  subst e
  rw [Nat.mul_comm, Nat.add_comm lq.length lp.length]
  rw [Nat.add_comm lq.length lp.length] at hsz key
  have hp := hb
  have hq := ha
  have op := ob
  have oq := oa
  have hnp := hnb
  have hnq := hna
  clear ha hb oa ob hna hnb
  rotate_left 1
  have hle : lb.length ≤ la.length := by simp at hge; omega
  clear hge
  obtain ⟨p, e⟩ : ∃ p, p = a := ⟨_, rfl⟩
  subst e
  obtain ⟨q, e⟩ : ∃ q, q = b := ⟨_, rfl⟩
  subst e
  obtain ⟨lp, e⟩ : ∃ lp, lp = la := ⟨_, rfl⟩
  subst e
  obtain ⟨lq, e⟩ : ∃ lq, lq = lb := ⟨_, rfl⟩
  subst e
  have hp := ha
  have hq := hb
  have op := oa
  have oq := ob
  have hnp := hna
  have hnq := hnb
  clear ha hb oa ob hna hnb
  rotate_left 1
  all_goals
    have hXY : val B64 lp * val B64 lq < B64 ^ (lp.length + lq.length + 1) := by
      have h1 := val_lt op
      have h2 := val_lt oq
      have h3 : val B64 lp * val B64 lq < B64 ^ (lp.length + lq.length) := by
        rw [Nat.pow_add]; exact Nat.mul_lt_mul_of_lt_of_lt h1 h2
      exact Nat.lt_of_lt_of_le h3 (Nat.pow_le_pow_right (by omega) (by omega))
    refine br_intro (fun hs => ?_) (fun hs => ?_)
    · refine Calls.mono (school_spec hp hq op oq (by omega)) ?_
      rintro e w1 ⟨h1, s, l, rfl, ho, hl, ol, hv⟩
      exact ⟨_, rfl, h1, s, l, rfl, ho, by omega, ol, hv⟩
    · have hq4 : 4 ≤ lq.length := by simp at hs; omega
      have ek : IntKind.i64.wrap (Int.tdiv (IntKind.i64.wrap ((p.n : Int) + 1)) 2) = (((lp.length + 1) / 2 : Nat) : Int) := by
        rw [wrap_i64 (x := (p.n : Int) + 1) (by omega) (by omega), Int.tdiv_eq_ediv_of_nonneg (by omega), wrap_i64 (by omega) (by omega)]; omega
      have em : IntKind.i64.wrap (IntKind.i64.wrap ((p.n : Int) + (q.n : Int)) + 1) = ((lp.length + lq.length + 1 : Nat) : Int) := by
        rw [wrap_i64 (x := (p.n : Int) + (q.n : Int)) (by omega) (by omega), wrap_i64 (by omega) (by omega)]; omega
      rw [ek, em]
      generalize hk : (lp.length + 1) / 2 = k at *
      have hX : val B64 lp = val B64 (lp.take k) + B64 ^ k * val B64 (lp.drop k) := val_take_drop lp k (by omega)
      refine br_intro (fun hu => ?_) (fun hu => ?_)
      · -- the shorter one is not parted
        refine mkN (by omega) (by omega) ?_
        intro c w2 hcc ho2 h2 hs2
        have hlc : (List.replicate ((lp.length + lq.length + 1 : Nat) : Int).toNat 0).length = lp.length + lq.length + 1 := by rw [List.length_replicate]; omega
        have hvc : val B64 (List.replicate ((lp.length + lq.length + 1 : Nat) : Int).toNat 0) = 0 := val_replicate _
        have olc : ok B64 (List.replicate ((lp.length + lq.length + 1 : Nat) : Int).toNat 0) := ok_replicate (by omega) _
        generalize List.replicate ((lp.length + lq.length + 1 : Nat) : Int).toNat 0 = C0 at *
        refine Calls.mono (part_lo (hp.ahead h2) op (by omega) k) ?_
        rintro e w3 ⟨rfl, s3, rfl, r3, l3⟩
        refine ⟨_, rfl, Calls.mono (key (k + lq.length) (by omega) _ _ _ r3 (ok_digs two64 _) _ _ (hq.ahead h2) oq (by omega) (by omega)) ?_⟩
        rintro e w4 ⟨h4, s4, L4, rfl, o4, n4, k4, v4⟩
        rw [val_digs two64] at v4
        have hpos : 0 < B64 ^ k := Nat.pow_pos (by omega)
        have hsum : val B64 lp * val B64 lq = val B64 (lp.take k) * val B64 lq + val B64 (lp.drop k) * val B64 lq * B64 ^ k := by
          rw [hX, Nat.add_mul]; congr 1; ac_rfl
        refine ⟨_, rfl, Calls.mono (addAt_spec (at_ := 0) (ho2.ahead h4) o4.rd (off_new o4 (by omega)) olc k4 (by omega) (by omega) (Nat.zero_le _) ?_) ?_⟩
        · rw [hvc, v4, hlc, Nat.pow_zero, Nat.mul_one, Nat.zero_add]
          exact Nat.lt_of_le_of_lt (by rw [hsum]; exact Nat.le_add_right _ _) hXY
        rintro e w5 ⟨rfl, hon5, l5, o5, n5, k5, v5⟩
        have h5 : Ahead w w5 := hon5.ahead (h2.trans h4) (Nat.le_refl _)
        refine ⟨rfl, ?_⟩
        rw [hnp]
        refine Calls.mono (part_hi (hp.ahead h5) op (by omega) k _ rfl) ?_
        rintro e w6 ⟨rfl, s5, rfl, r5, l5'⟩
        refine ⟨_, rfl, Calls.mono (key (lp.length - k + lq.length) (by omega) _ _ _ r5 (ok_digs two64 _) _ _ (hq.ahead h5) oq (by omega) (by omega)) ?_⟩
        rintro e w7 ⟨h7, s6, L6, rfl, o6, n6, k6, v6⟩
        rw [val_digs two64] at v6
        have hlt5 := o5.lt
        refine ⟨_, rfl, Calls.mono (addAt_spec (at_ := k) (o5.ahead h7) o6.rd (off_new o6 (by omega)) k5 k6 (by omega) (by omega) (by omega) ?_) ?_⟩
        · rw [v5, v6, n5, hlc, hvc, v4, Nat.pow_zero, Nat.mul_one, Nat.zero_add, ← hsum]
          exact hXY
        rintro e w8 ⟨rfl, hon8, l8, o8, n8, k8, v8⟩
        refine ⟨rfl, hon8.ahead (h5.trans h7) (Nat.le_refl _), c, l8, rfl, .inr ⟨_, Nat.le_refl _, by rw [hcc]; unfold maxLen; omega, o8⟩, by omega, k8, ?_⟩
        rw [v8, v5, v6, hvc, v4, Nat.pow_zero, Nat.mul_one, Nat.zero_add, hsum]
      · have hu' : k < lq.length := by simp at hu; omega
        have hY : val B64 lq = val B64 (lq.take k) + B64 ^ k * val B64 (lq.drop k) := val_take_drop lq k (by omega)
        refine Calls.mono (part_lo hp op (by omega) k) ?_
        rintro e w9 ⟨rfl, al, rfl, ral, nal⟩
        refine ⟨_, rfl, ?_⟩
        rw [hnp]
        refine Calls.mono (part_hi hp op (by omega) k _ rfl) ?_
        rintro e w10 ⟨rfl, ah, rfl, rah, nah⟩
        refine ⟨_, rfl, Calls.mono (part_lo hq oq (by omega) k) ?_⟩
        rintro e w11 ⟨rfl, bl', rfl, rbl, nbl⟩
        refine ⟨_, rfl, ?_⟩
        rw [hnq]
        refine Calls.mono (part_hi hq oq (by omega) k _ rfl) ?_
        rintro e w12 ⟨rfl, bh, rfl, rbh, nbh⟩
        have kal := ok_digs two64 (val B64 (lp.take k))
        have kah := ok_digs two64 (val B64 (lp.drop k))
        have kbl := ok_digs two64 (val B64 (lq.take k))
        have kbh := ok_digs two64 (val B64 (lq.drop k))
        have val1 := val_digs two64 (val B64 (lp.take k))
        have val2 := val_digs two64 (val B64 (lp.drop k))
        have val3 := val_digs two64 (val B64 (lq.take k))
        have val4 := val_digs two64 (val B64 (lq.drop k))
        generalize val B64 (lp.take k) = A at *
        generalize val B64 (lp.drop k) = B at *
        generalize val B64 (lq.take k) = C at *
        generalize val B64 (lq.drop k) = D at *
        refine ⟨_, rfl, Calls.mono (key (k + k) (by omega) _ _ _ ral kal _ _ rbl kbl (by omega) (by omega)) ?_⟩
        rintro e w13 ⟨h13, s11, L11, rfl, o11, n11, k11, v11⟩
        refine ⟨_, rfl, Calls.mono (key (lp.length - k + (lq.length - k)) (by omega) _ _ _ (rah.ahead h13) kah _ _ (rbh.ahead h13) kbh (by omega) (by omega)) ?_⟩
        rintro e w14 ⟨h14, s12, L12, rfl, o12, n12, k12, v12⟩
        have h014 := h13.trans h14
        refine ⟨_, rfl, Calls.mono (sum_spec (ral.ahead h014) (rah.ahead h014) kal kah (by omega) (by omega)) ?_⟩
        rintro e w15 ⟨h15, s13, L13, rfl, o13, n13, k13, v13⟩
        refine ⟨_, rfl, Calls.mono (Norm_spec o13.rd (by omega) k13) ?_⟩
        rintro e w16 ⟨h16, s14, rfl, o14⟩
        have h016 := (h014.trans h15).trans h16
        refine ⟨_, rfl, Calls.mono (sum_spec (rbl.ahead h016) (rbh.ahead h016) kbl kbh (by omega) (by omega)) ?_⟩
        rintro e w17 ⟨h17, s15, L15, rfl, o15, n15, k15, v15⟩
        refine ⟨_, rfl, Calls.mono (Norm_spec o15.rd (by omega) k15) ?_⟩
        rintro e w18 ⟨h18, s16, rfl, o16⟩
        have h018 := (h016.trans h17).trans h18
        have d13 := len_le k13
        have d15 := len_le k15
        refine ⟨_, rfl, Calls.mono (key (k + 1 + (k + 1)) (by omega) _ _ _ ((o14.ahead h17).ahead h18).rd (ok_digs two64 _) _ _ o16.rd (ok_digs two64 _) (by omega) (by omega)) ?_⟩
        rintro e w19 ⟨h19, s17, L17, rfl, o17, n17, k17, v17⟩
        rw [val_digs two64, val_digs two64, v13, v15, val1, val2, val3, val4] at v17
        rw [val1, val3] at v11
        rw [val2, val4] at v12
        have h019 := h018.trans h19
        have hAC : A * C + B * D ≤ (A + B) * (C + D) := by
          rw [Nat.add_mul, Nat.mul_add, Nat.mul_add]; omega
        have h1419 := ((((h15.trans h16).trans h17).trans h18).trans h19)
        have o11' := (o11.ahead h14).ahead h1419
        have o12' := o12.ahead h1419
        refine ⟨_, rfl, Calls.mono (less_spec o17.rd o11'.rd k17 k11 (by omega) (by omega) (by rw [v17, v11]; omega)) ?_⟩
        rintro e w20 ⟨h20, s18, L18, rfl, o18, n18, k18, v18⟩
        refine ⟨_, rfl, Calls.mono (less_spec o18.rd (o12'.ahead h20).rd k18 k12 (by omega) (by omega) (by rw [v18, v17, v11, v12]; omega)) ?_⟩
        rintro e w21 ⟨h21, s19, L19, rfl, o19, n19, k19, v19⟩
        rw [v18, v17, v11, v12] at v19
        have h021 := (h019.trans h20).trans h21
        have hsz21 := h021.size
        refine ⟨_, rfl, mkN (by omega) (by omega) ?_⟩
        intro c w22 hcc ho22 h22 hs22
        have hlc : (List.replicate ((lp.length + lq.length + 1 : Nat) : Int).toNat 0).length = lp.length + lq.length + 1 := by rw [List.length_replicate]; omega
        have hvc : val B64 (List.replicate ((lp.length + lq.length + 1 : Nat) : Int).toNat 0) = 0 := val_replicate _
        have olc : ok B64 (List.replicate ((lp.length + lq.length + 1 : Nat) : Int).toNat 0) := ok_replicate (by omega) _
        generalize List.replicate ((lp.length + lq.length + 1 : Nat) : Int).toNat 0 = C0 at *
        have r11 := ((o11'.ahead h20).ahead h21).rd
        have r12 := ((o12'.ahead h20).ahead h21).rd
        have r19 := o19.rd
        have hsum := kara A B C D (B64 ^ k)
        rw [← hX, ← hY] at hsum
        have f11 := rd_off r11 (Nat.le_refl w21.heap.size)
        have f12 := rd_off r12 (Nat.le_refl w21.heap.size)
        have f19 := rd_off r19 (Nat.le_refl w21.heap.size)
        have hpw : B64 ^ (2 * k) = B64 ^ k * B64 ^ k := by rw [Nat.two_mul, Nat.pow_add]
        refine Calls.mono (addAt_spec (at_ := 0) ho22 (r11.ahead h22) f11 olc k11 (by omega) (by omega) (Nat.zero_le _) ?_) ?_
        · rw [hvc, v11, hlc, Nat.pow_zero, Nat.mul_one, Nat.zero_add]
          exact Nat.lt_of_le_of_lt (by rw [← hsum]; omega) hXY
        rintro e w23 ⟨rfl, hon23, l23, o23, n23, k23, v23⟩
        rw [hvc, v11, Nat.pow_zero, Nat.mul_one, Nat.zero_add] at v23
        refine ⟨rfl, Calls.mono (addAt_spec (at_ := k) o23 (hon23.rd (r19.ahead h22) f19) f19 k23 k19 (by omega) (by omega) (by omega) ?_) ?_⟩
        · rw [v23, v19, n23, hlc]
          exact Nat.lt_of_le_of_lt (by rw [← hsum]; omega) hXY
        rintro e w24 ⟨rfl, hon24, l24, o24, n24, k24, v24⟩
        rw [v23, v19] at v24
        have hon := hon23.trans hon24
        have e2k : IntKind.i64.wrap (2 * ((k : Nat) : Int)) = ((2 * k : Nat) : Int) := by rw [wrap_i64 (by omega) (by omega)]; omega
        rw [e2k]
        refine ⟨rfl, Calls.mono (addAt_spec (at_ := 2 * k) o24 (hon.rd (r12.ahead h22) f12) f12 k24 k12 (by omega) (by omega) (by omega) ?_) ?_⟩
        · rw [v24, v12, n24, n23, hlc, hpw, hsum]
          exact hXY
        rintro e w25 ⟨rfl, hon25, l25, o25, n25, k25, v25⟩
        rw [v24, v12, hpw, hsum] at v25
        exact ⟨rfl, (hon.trans hon25).ahead (h021.trans h22) hsz21, c, l25, rfl, .inr ⟨_, hsz21, by rw [hcc]; unfold maxLen; omega, o25⟩, by omega, k25, v25⟩

end Mul
end Go.Proofs.YtahbekmnphkiiaaDoor
namespace Go.Proofs.YtahbekmnphkiiaaDoor
open Go Go.RowKit Eng Sp Dg
set_option linter.unusedVariables false
set_option linter.unusedSimpArgs false
set_option maxRecDepth 100000
namespace Mul
open _root_.Go.Proofs.YtahbekmnphkiiaaDoor.Nat (ldN ldNf stN mkN Num OwnNil len_le Norm_spec Length_spec Ret bigC own_num digs_len_bl Yes)

theorem fits_spec {w : World} {s : Slc} {l : List Nat} (h : Rd .u64 w s (nn l)) (hl : l.length ≤ 2 ^ 44) (ol : ok B64 l) : Calls pr mul_fits_id #[s.v] w (Ret w (bigC (val B64 l)) (val B64 l)) := by
  have hd := len_le ol
  refine mul_fits_vc s w _ (Calls.mono (Norm_spec h hl ol) ?_)
  rintro e w1 ⟨h1, t, rfl, ho⟩
  refine ⟨_, rfl, Calls.mono (Length_spec ho.rd (by omega) (ok_digs two64 _)) ?_⟩
  rintro e w2 ⟨rfl, rfl⟩
  rw [val_digs two64]
  refine ⟨_, rfl, br_intro (fun hb => ?_) (fun hb => ?_)⟩
  · have hc : bigC (val B64 l) = 3 := by rw [bigC, if_neg (by simp at hb; omega)]
    rw [hc]
    exact ⟨h1, _, rfl, by rw [if_neg (by omega)]; exact OwnNil.nil⟩
  · have hc : bigC (val B64 l) = 0 := by rw [bigC, if_pos (by simp at hb; omega)]
    rw [hc]
    exact ⟨h1, _, rfl, by rw [if_pos rfl]; exact ho⟩

theorem bl_mul {x y : Nat} (hx : x ≠ 0) (hy : y ≠ 0) : bl x + bl y - 1 ≤ bl (x * y) := by
  have h1 := (bl_bounds hx).1
  have h2 := (bl_bounds hy).1
  have p1 := bl_pos hx
  have p2 := bl_pos hy
  have h3 := Nat.mul_le_mul h1 h2
  rw [← Nat.pow_add] at h3
  rcases Nat.lt_or_ge (bl (x * y)) (bl x + bl y - 1) with h | h
  · exfalso
    have h4 := bl_le_iff.1 (show bl (x * y) ≤ bl x - 1 + (bl y - 1) by omega)
    omega
  · exact h

theorem great_spec {w : World} {a b : Slc} {x y : Nat} (ha : Num w a x) (hb : Num w b y) :
    Calls pr mul_great_id #[a.v, b.v] w fun e w' => w' = w ∧ ∃ c : Bool, e = .returned (.bool c) ∧ (c = true ↔ x ≠ 0 ∧ y ≠ 0 ∧ 67108864 < bl x + bl y - 1) := by
  have bx := ha.bl
  have by' := hb.bl
  refine mul_great_vc a b w _ (Calls.mono (Nat.len_num ha) ?_)
  rintro e w1 ⟨rfl, rfl⟩
  refine ⟨_, rfl, Calls.mono (Nat.len_num hb) ?_⟩
  rintro e w2 ⟨rfl, rfl⟩
  have zx : bl x = 0 ↔ x = 0 := ⟨fun h => by rcases Nat.eq_zero_or_pos x with h1 | h1; exact h1; have := bl_pos (n := x) (by omega); omega, fun h => by rw [h, bl_zero]⟩
  have zy : bl y = 0 ↔ y = 0 := ⟨fun h => by rcases Nat.eq_zero_or_pos y with h1 | h1; exact h1; have := bl_pos (n := y) (by omega); omega, fun h => by rw [h, bl_zero]⟩
  refine ⟨_, rfl, br_intro (fun h => br_intro (fun h' => ?_) (fun h' => ?_)) (fun h => ?_)⟩
  · have h1 : 0 < bl x := by simp at h; omega
    have h2 : 0 < bl y := by simp at h'; omega
    rw [wrap_i64 (x := (bl x : Int) + (bl y : Int)) (by omega) (by omega), wrap_i64 (by omega) (by omega)]
    refine ⟨rfl, _, rfl, ?_⟩
    simp only [decide_eq_true_eq]
    constructor
    · intro h3
      exact ⟨fun e => by have := zx.2 e; omega, fun e => by have := zy.2 e; omega, by omega⟩
    · rintro ⟨_, _, h3⟩
      omega
  · have h2 : bl y = 0 := by simp at h'; omega
    exact ⟨rfl, _, rfl, by simp [zy.1 h2]⟩
  · have h2 : bl x = 0 := by simp at h; omega
    exact ⟨rfl, _, rfl, by simp [zx.1 h2]⟩

theorem Mul_spec {w : World} {a b : Slc} {x y : Nat} (ha : Num w a x) (hb : Num w b y) (la : (digs B64 x).length + 16 ≤ 2 ^ 44) (lb : (digs B64 y).length + 16 ≤ 2 ^ 44) :
    Calls pr mul_Mul_id #[a.v, b.v] w (Ret w (bigC (x * y)) (x * y)) := by
  obtain ⟨l, ra, na, oa, rfl⟩ := ha
  obtain ⟨m, rb, nb, ob, rfl⟩ := hb
  refine mul_Mul_vc a b w _ ?_
  refine mul_product__mul_Mul_1_vc a b w _ (Calls.mono (Norm_spec ra na oa) ?_)
  rintro e w1 ⟨h1, s, rfl, os⟩
  refine ⟨_, rfl, Calls.mono (Norm_spec (rb.ahead h1) nb ob) ?_⟩
  rintro e w2 ⟨h2, t, rfl, ot⟩
  have h12 := h1.trans h2
  have rs := (os.ahead h2).rd
  have rt := ot.rd
  have ns : Num w2 s (val B64 l) := ⟨_, rs, by omega, ok_digs two64 _, val_digs two64 _⟩
  have nt : Num w2 t (val B64 m) := ⟨_, rt, by omega, ok_digs two64 _, val_digs two64 _⟩
  generalize val B64 l = x at *
  generalize val B64 m = y at *
  refine ⟨_, rfl, Calls.mono (great_spec ns nt) ?_⟩
  rintro e w3 ⟨rfl, c, rfl, hc⟩
  refine ⟨_, rfl, br_intro (fun h => ?_) (fun h => ?_)⟩
  · obtain ⟨h3, h4, h5⟩ := hc.1 h
    have := bl_mul h3 h4
    have hcc : bigC (x * y) = 3 := by rw [bigC, if_neg (by omega)]
    rw [hcc]
    exact ⟨_, _, rfl, h12, _, rfl, by rw [if_neg (by omega)]; exact OwnNil.nil⟩
  · have hsz : (digs B64 x).length + (digs B64 y).length + 16 ≤ 2 ^ 44 := by
      by_cases hx : x = 0
      · subst hx; rw [digs_zero]; simp; omega
      · by_cases hy : y = 0
        · subst hy; rw [digs_zero]; simp; omega
        · have hbl : bl x + bl y - 1 ≤ 67108864 := by
            rcases Nat.lt_or_ge 67108864 (bl x + bl y - 1) with h6 | h6
            · have := hc.2 ⟨hx, hy, h6⟩; rw [h] at this; cases this
            · exact h6
          have p1 := bl_pos hx
          have p2 := bl_pos hy
          have := digs_len_bl (N := x) (m := 2 ^ 21) (by omega)
          have := digs_len_bl (N := y) (m := 2 ^ 21) (by omega)
          omega
    refine mul_Mul_1_vc s t w3 _ (Calls.mono (halved_spec _ w3 s _ rs (ok_digs two64 x) t _ rt (ok_digs two64 y) 40 (by omega) (by omega) (by omega) (Nat.le_refl _)) ?_)
    rintro e w4 ⟨h4, u, L, rfl, ou, nu, ku, vu⟩
    rw [val_digs two64, val_digs two64] at vu
    refine ⟨_, rfl, _, rfl, Calls.mono (fits_spec ou.rd (by omega) ku) ?_⟩
    rw [vu]
    rintro e w5 ⟨h5, v, rfl, ov⟩
    have hsz := (h12.trans h4).size
    exact ⟨_, _, rfl, _, _, rfl, (h12.trans h4).trans h5, _, rfl, ov.mono hsz⟩

end Mul
end Go.Proofs.YtahbekmnphkiiaaDoor
namespace Go.Proofs.YtahbekmnphkiiaaDoor
open Go Go.RowKit Eng
set_option linter.unusedVariables false

set_option maxRecDepth 100000 in
/-- surd/whole.Mul: function 41. -/
theorem whole_Mul_vc (a0_a_0 : Bool) (a0_a_1 : Slc) (a1_b_0 : Bool) (a1_b_1 : Slc) (w : World) (R : Ending → World → Prop)
    
    (h : newC w #[Value.bool a0_a_0, a0_a_1.v] 37 fun ad1 w1 =>
    newC w1 #[Value.bool a1_b_0, a1_b_1.v] 37 fun ad2 w2 =>
    newC w2 #[Value.bool false, (⟨none, 0, 0⟩ : Slc).v] 37 fun ad3 w3 =>
    ldS (ad1.add 1) w3 fun s1 =>
    ldS (ad2.add 1) w3 fun s2 =>
    Calls Tryd.prog 66 #[s1.v, s2.v] w3 fun e1 w4 =>
    ∃ s3 : Slc, ∃ x1 : Int, e1 = .returned (Value.tuple #[s3.v, Value.int .i64 x1]) ∧
    (ldB ad1 w4 fun b1 =>
     ldB ad2 w4 fun b2 =>
     Calls Tryd.prog 67 #[Value.bool (!(b1 == b2)), s3.v, Value.int .i64 x1] w4 fun e2 w5 =>
     ∃ b3 : Bool, ∃ s4 : Slc, ∃ x2 : Int, e2 = .returned (Value.tuple #[Value.agg #[Value.bool b3, s4.v], Value.int .i64 x2]) ∧
     (stC ad3 (Value.bool b3) w5 fun w6 =>
      stC (ad3.add 1) s4.v w6 fun w7 =>
      ldB ad3 w7 fun b4 =>
      ldS (ad3.add 1) w7 fun s5 =>
      R (.returned (Value.tuple #[Value.agg #[Value.bool b4, s5.v], Value.int .i64 x2])) w7))) :
    Calls Tryd.prog 41 #[Value.agg #[Value.bool a0_a_0, a0_a_1.v], Value.agg #[Value.bool a1_b_0, a1_b_1.v]] w R := by
  refine calls_of_vc (fun _ => none) (by kernel_rfl) Tryd.func41 rfl ?_ ?_
  · refine kcast h ?_; kernel_rfl
  · exact (obl_seq rfl (obl_reg (obl_seq rfl (obl_reg (obl_seq rfl (obl_reg (obl_ret trivial)))))))

set_option maxRecDepth 100000 in
/-- surd/dyadic.Mul: function 11. -/
theorem dyadic_Mul_vc (a0_a_0 : Bool) (a0_a_1 : Slc) (a0_a_2 : Int) (a1_b_0 : Bool) (a1_b_1 : Slc) (a1_b_2 : Int) (w : World) (R : Ending → World → Prop)
    
    (h : newC w #[Value.bool a0_a_0, a0_a_1.v, Value.int .i64 a0_a_2] 39 fun ad1 w1 =>
    newC w1 #[Value.bool a1_b_0, a1_b_1.v, Value.int .i64 a1_b_2] 39 fun ad2 w2 =>
    newC w2 #[Value.bool false, (⟨none, 0, 0⟩ : Slc).v, Value.int .i64 0] 39 fun ad3 w3 =>
    ldB ad1 w3 fun b1 =>
    ldS (ad1.add 1) w3 fun s1 =>
    ldI .i64 (ad1.add 2) w3 fun x1 =>
    ldB ad2 w3 fun b2 =>
    ldS (ad2.add 1) w3 fun s2 =>
    ldI .i64 (ad2.add 2) w3 fun x2 =>
    Calls Tryd.prog 40 #[Value.agg #[Value.bool b1, s1.v, Value.int .i64 x1], Value.agg #[Value.bool b2, s2.v, Value.int .i64 x2]] w3 fun e1 w4 =>
    ∃ b3 : Bool, ∃ s3 : Slc, ∃ x3 : Int, ∃ b4 : Bool, ∃ s4 : Slc, ∃ x4 : Int, ∃ x5 : Int, e1 = .returned (Value.tuple #[Value.agg #[Value.bool b3, s3.v, Value.int .i64 x3], Value.agg #[Value.bool b4, s4.v, Value.int .i64 x4], Value.int .i64 x5]) ∧
    (newC w4 #[Value.bool false, (⟨none, 0, 0⟩ : Slc).v, Value.int .i64 0] 76 fun ad4 w5 =>
     newC w5 #[Value.bool false, (⟨none, 0, 0⟩ : Slc).v, Value.int .i64 0] 76 fun ad5 w6 =>
     stC ad4 (Value.bool b3) w6 fun w7 =>
     stC (ad4.add 1) s3.v w7 fun w8 =>
     stC (ad4.add 2) (Value.int .i64 x3) w8 fun w9 =>
     stC ad5 (Value.bool b4) w9 fun w10 =>
     stC (ad5.add 1) s4.v w10 fun w11 =>
     stC (ad5.add 2) (Value.int .i64 x4) w11 fun w12 =>
     br (x5 != 0)
     (stC ad3 (Value.bool false) w12 fun w13 =>
      stC (ad3.add 1) ((⟨none, 0, 0⟩ : Slc).v) w13 fun w14 =>
      stC (ad3.add 2) (Value.int .i64 0) w14 fun w15 =>
      ldB ad3 w15 fun b5 =>
      ldS (ad3.add 1) w15 fun s5 =>
      ldI .i64 (ad3.add 2) w15 fun x6 =>
      R (.returned (Value.tuple #[Value.agg #[Value.bool b5, s5.v, Value.int .i64 x6], Value.int .i64 x5])) w15)
     (ldB ad4 w12 fun b6 =>
      ldS (ad4.add 1) w12 fun s6 =>
      ldB ad5 w12 fun b7 =>
      ldS (ad5.add 1) w12 fun s7 =>
      Calls Tryd.prog 41 #[Value.agg #[Value.bool b6, s6.v], Value.agg #[Value.bool b7, s7.v]] w12 fun e2 w16 =>
      ∃ b8 : Bool, ∃ s8 : Slc, ∃ x7 : Int, e2 = .returned (Value.tuple #[Value.agg #[Value.bool b8, s8.v], Value.int .i64 x7]) ∧
      (newC w16 #[Value.bool false, (⟨none, 0, 0⟩ : Slc).v] 37 fun ad6 w17 =>
       stC ad6 (Value.bool b8) w17 fun w18 =>
       stC (ad6.add 1) s8.v w18 fun w19 =>
       br (x7 != 0)
       (stC ad3 (Value.bool false) w19 fun w20 =>
        stC (ad3.add 1) ((⟨none, 0, 0⟩ : Slc).v) w20 fun w21 =>
        stC (ad3.add 2) (Value.int .i64 0) w21 fun w22 =>
        ldB ad3 w22 fun b9 =>
        ldS (ad3.add 1) w22 fun s9 =>
        ldI .i64 (ad3.add 2) w22 fun x8 =>
        R (.returned (Value.tuple #[Value.agg #[Value.bool b9, s9.v, Value.int .i64 x8], Value.int .i64 x7])) w22)
       (ldB ad6 w19 fun b10 =>
        ldS (ad6.add 1) w19 fun s10 =>
        ldI .i64 (ad4.add 2) w19 fun x9 =>
        ldI .i64 (ad5.add 2) w19 fun x10 =>
        Calls Tryd.prog 42 #[Value.agg #[Value.bool b10, s10.v], Value.int .i64 (IntKind.i64.wrap (x9 + x10))] w19 fun e3 w23 =>
        ∃ b11 : Bool, ∃ s11 : Slc, ∃ x11 : Int, ∃ x12 : Int, e3 = .returned (Value.tuple #[Value.agg #[Value.bool b11, s11.v, Value.int .i64 x11], Value.int .i64 x12]) ∧
        (stC ad3 (Value.bool b11) w23 fun w24 =>
         stC (ad3.add 1) s11.v w24 fun w25 =>
         stC (ad3.add 2) (Value.int .i64 x11) w25 fun w26 =>
         ldB ad3 w26 fun b12 =>
         ldS (ad3.add 1) w26 fun s12 =>
         ldI .i64 (ad3.add 2) w26 fun x13 =>
         R (.returned (Value.tuple #[Value.agg #[Value.bool b12, s12.v, Value.int .i64 x13], Value.int .i64 x12])) w26)))))) :
    Calls Tryd.prog 11 #[Value.agg #[Value.bool a0_a_0, a0_a_1.v, Value.int .i64 a0_a_2], Value.agg #[Value.bool a1_b_0, a1_b_1.v, Value.int .i64 a1_b_2]] w R := by
  refine calls_of_vc (fun _ => none) (by kernel_rfl) Tryd.func11 rfl ?_ ?_
  · refine kcast h ?_; kernel_rfl
  · exact (obl_seq rfl (obl_reg (obl_seq rfl (obl_reg (obl_seq rfl (obl_seq rfl (obl_reg (obl_cond (obl_seq rfl (obl_reg (obl_ret (obl_skip (obl_seq rfl (obl_reg (obl_seq rfl (obl_seq rfl (obl_reg (obl_cond (obl_seq rfl (obl_reg (obl_ret (obl_skip (obl_seq rfl (obl_reg (obl_ret trivial)))))))))))))))))))))))))

end Go.Proofs.YtahbekmnphkiiaaDoor
namespace Go.Proofs.YtahbekmnphkiiaaDoor
open Go Go.RowKit Eng L2
set_option linter.unusedVariables false
set_option maxHeartbeats 2000000
set_option maxRecDepth 100000

/-- surd/whole.Mul: function 41, its local variables as values. -/
theorem whole_Mul_v2 (a0_a_0 : Bool) (a0_a_1 : Slc) (a1_b_0 : Bool) (a1_b_1 : Slc) (w : World) (R : Ending → World → Prop)
    
    (h : ∀ w1, Ext w w1 → Ahead w w1 →
    (Calls Tryd.prog 66 #[a0_a_1.v, a1_b_1.v] w1 fun e1 w2 =>
     ∃ s1 : Slc, ∃ x1 : Int, e1 = .returned (Value.tuple #[s1.v, Value.int .i64 x1]) ∧ Ahead w1 w2 ∧
     (Calls Tryd.prog 67 #[Value.bool (!(a0_a_0 == a1_b_0)), s1.v, Value.int .i64 x1] w2 fun e2 w3 =>
      ∃ b1 : Bool, ∃ s2 : Slc, ∃ x2 : Int, e2 = .returned (Value.tuple #[Value.agg #[Value.bool b1, s2.v], Value.int .i64 x2]) ∧ Ahead w2 w3 ∧
      (∀ w4, Ext w3 w4 → Ahead w w4 →
       (R (.returned (Value.tuple #[Value.agg #[Value.bool b1, s2.v], Value.int .i64 x2])) w4)))))
     :
    Calls Tryd.prog 41 #[Value.agg #[Value.bool a0_a_0, a0_a_1.v], Value.agg #[Value.bool a1_b_0, a1_b_1.v]] w (fun e_ w_ => Ahead w w_ ∧ R e_ w_) := by
  refine whole_Mul_vc a0_a_0 a0_a_1 a1_b_0 a1_b_1 w _  ?_
  · have A : Ahead w w := Ahead.refl w
    have X : Ext w w := Ext.refl w
    refine newC_t fun bk1 u1 hb a _ B1 => ?_;have g1 := le_eq A.size hb;obtain ⟨A, X⟩ := axa2 a A X;refine newC_t fun bk2 u2 hb a _ B2 => ?_;have g2 := le_eq A.size hb;have l1_2 := lt1 hb B1;replace B1 := B1.ahead a;obtain ⟨A, X⟩ := axa2 a A X;refine newC_t fun bk3 u3 hb a _ B3 => ?_;have g3 := le_eq A.size hb;obtain ⟨_, _⟩ := lt2 hb B1 B2;obtain ⟨B1, B2⟩ := ah2 a B1 B2;obtain ⟨A, X⟩ := axa2 a A X;refine ldS_t 1 B1 rfl ?_;refine ldS_t 1 B2 rfl ?_;replace h := h _ X A;refine Calls.mono h ?_;clear h;rintro e1 w2 ⟨s1, x1, he_, a, h⟩;refine ⟨s1, x1, he_, ?_⟩;clear he_;obtain ⟨B1, B2, B3⟩ := ah3 a B1 B2 B3;obtain ⟨A, X⟩ := axr2 a A;refine ldB_t 0 B1 rfl ?_;refine ldB_t 0 B2 rfl ?_;refine Calls.mono h ?_;clear h;rintro e2 w3 ⟨b1, s2, x2, he_, a, h⟩;refine ⟨b1, s2, x2, he_, ?_⟩;clear he_;obtain ⟨B1, B2, B3⟩ := ah3 a B1 B2 B3;obtain ⟨A, X⟩ := axr2 a A;refine s2_t B3 fun u4 k B3 => ?_;obtain ⟨B1, B2⟩ := up2 k B1 B2;obtain ⟨A, X⟩ := axu2 k g3 A X;refine l2_t B3 ?_;replace h := h _ X A;exact ⟨A, h⟩

/-- surd/dyadic.Mul: function 11, its local variables as values. -/
theorem dyadic_Mul_v2 (a0_a_0 : Bool) (a0_a_1 : Slc) (a0_a_2 : Int) (a1_b_0 : Bool) (a1_b_1 : Slc) (a1_b_2 : Int) (w : World) (R : Ending → World → Prop)
    
    (h : ∀ w1, Ext w w1 → Ahead w w1 →
    (Calls Tryd.prog 40 #[Value.agg #[Value.bool a0_a_0, a0_a_1.v, Value.int .i64 a0_a_2], Value.agg #[Value.bool a1_b_0, a1_b_1.v, Value.int .i64 a1_b_2]] w1 fun e1 w2 =>
     ∃ b1 : Bool, ∃ s1 : Slc, ∃ x1 : Int, ∃ b2 : Bool, ∃ s2 : Slc, ∃ x2 : Int, ∃ x3 : Int, e1 = .returned (Value.tuple #[Value.agg #[Value.bool b1, s1.v, Value.int .i64 x1], Value.agg #[Value.bool b2, s2.v, Value.int .i64 x2], Value.int .i64 x3]) ∧ Ahead w1 w2 ∧
     (br (x3 != 0)
      (∀ w3, Ext w2 w3 → Ahead w w3 →
       (R (.returned (Value.tuple #[Value.agg #[Value.bool (false), ((⟨none, 0, 0⟩ : Slc)).v, Value.int .i64 (0 : Int)], Value.int .i64 x3])) w3))
      (∀ w4, Ext w2 w4 → Ahead w w4 →
       (Calls Tryd.prog 41 #[Value.agg #[Value.bool b1, s1.v], Value.agg #[Value.bool b2, s2.v]] w4 fun e2 w5 =>
        ∃ b3 : Bool, ∃ s3 : Slc, ∃ x4 : Int, e2 = .returned (Value.tuple #[Value.agg #[Value.bool b3, s3.v], Value.int .i64 x4]) ∧ Ahead w4 w5 ∧
        (br (x4 != 0)
         (∀ w6, Ext w5 w6 → Ahead w w6 →
          (R (.returned (Value.tuple #[Value.agg #[Value.bool (false), ((⟨none, 0, 0⟩ : Slc)).v, Value.int .i64 (0 : Int)], Value.int .i64 x4])) w6))
         (∀ w7, Ext w5 w7 → Ahead w w7 →
          (Calls Tryd.prog 42 #[Value.agg #[Value.bool b3, s3.v], Value.int .i64 (IntKind.i64.wrap (x1 + x2))] w7 fun e3 w8 =>
           ∃ b4 : Bool, ∃ s4 : Slc, ∃ x5 : Int, ∃ x6 : Int, e3 = .returned (Value.tuple #[Value.agg #[Value.bool b4, s4.v, Value.int .i64 x5], Value.int .i64 x6]) ∧ Ahead w7 w8 ∧
           (∀ w9, Ext w8 w9 → Ahead w w9 →
            (R (.returned (Value.tuple #[Value.agg #[Value.bool b4, s4.v, Value.int .i64 x5], Value.int .i64 x6])) w9))))))))))
     :
    Calls Tryd.prog 11 #[Value.agg #[Value.bool a0_a_0, a0_a_1.v, Value.int .i64 a0_a_2], Value.agg #[Value.bool a1_b_0, a1_b_1.v, Value.int .i64 a1_b_2]] w (fun e_ w_ => Ahead w w_ ∧ R e_ w_) := by
  refine dyadic_Mul_vc a0_a_0 a0_a_1 a0_a_2 a1_b_0 a1_b_1 a1_b_2 w _  ?_
  · have A : Ahead w w := Ahead.refl w
    have X : Ext w w := Ext.refl w
    refine newC_t fun bk1 u1 hb a _ B1 => ?_;have g1 := le_eq A.size hb;obtain ⟨A, X⟩ := axa2 a A X;refine newC_t fun bk2 u2 hb a _ B2 => ?_;have g2 := le_eq A.size hb;have l1_2 := lt1 hb B1;replace B1 := B1.ahead a;obtain ⟨A, X⟩ := axa2 a A X;refine newC_t fun bk3 u3 hb a _ B3 => ?_;have g3 := le_eq A.size hb;obtain ⟨_, _⟩ := lt2 hb B1 B2;obtain ⟨B1, B2⟩ := ah2 a B1 B2;obtain ⟨A, X⟩ := axa2 a A X;refine l3_t B1 ?_;refine l3_t B2 ?_;replace h := h _ X A;refine Calls.mono h ?_;clear h;rintro e1 w2 ⟨b1, s1, x1, b2, s2, x2, x3, he_, a, h⟩;refine ⟨b1, s1, x1, b2, s2, x2, x3, he_, ?_⟩;clear he_;obtain ⟨B1, B2, B3⟩ := ah3 a B1 B2 B3;obtain ⟨A, X⟩ := axr2 a A;refine newC_t fun bk4 u4 hb a _ B4 => ?_;have g4 := le_eq A.size hb;obtain ⟨_, _, _⟩ := lt3 hb B1 B2 B3;obtain ⟨B1, B2, B3⟩ := ah3 a B1 B2 B3;obtain ⟨A, X⟩ := axa2 a A X;refine newC_t fun bk5 u5 hb a _ B5 => ?_;have g5 := le_eq A.size hb;obtain ⟨_, _, _, _⟩ := lt4 hb B1 B2 B3 B4;obtain ⟨B1, B2, B3, B4⟩ := ah4 a B1 B2 B3 B4;obtain ⟨A, X⟩ := axa2 a A X;refine s3_t B4 fun u6 k B4 => ?_;obtain ⟨B1, B2, B3, B5⟩ := up4 k B1 B2 B3 B5;obtain ⟨A, X⟩ := axu2 k g4 A X;refine s3_t B5 fun u7 k B5 => ?_;obtain ⟨B1, B2, B3, B4⟩ := up4 k B1 B2 B3 B4;obtain ⟨A, X⟩ := axu2 k g5 A X;refine br_map h (fun h_ => ?_) (fun h_ => ?_)
    ·replace h := h_;clear h_;refine s3_t B3 fun u8 k B3 => ?_;obtain ⟨B1, B2, B4, B5⟩ := up4 k B1 B2 B4 B5;obtain ⟨A, X⟩ := axu2 k g3 A X;refine l3_t B3 ?_;replace h := h _ X A;exact ⟨A, h⟩
    ·replace h := h_;clear h_;refine ldB_t 0 B4 rfl ?_;refine ldS_t 1 B4 rfl ?_;refine ldB_t 0 B5 rfl ?_;refine ldS_t 1 B5 rfl ?_;replace h := h _ X A;refine Calls.mono h ?_;clear h;rintro e2 w5 ⟨b3, s3, x4, he_, a, h⟩;refine ⟨b3, s3, x4, he_, ?_⟩;clear he_;obtain ⟨B1, B2, B3, B4, B5⟩ := ah5 a B1 B2 B3 B4 B5;obtain ⟨A, X⟩ := axr2 a A;refine newC_t fun bk6 u9 hb a _ B6 => ?_;have g6 := le_eq A.size hb;obtain ⟨_, _, _, _, _⟩ := lt5 hb B1 B2 B3 B4 B5;obtain ⟨B1, B2, B3, B4, B5⟩ := ah5 a B1 B2 B3 B4 B5;obtain ⟨A, X⟩ := axa2 a A X;refine s2_t B6 fun u10 k B6 => ?_;obtain ⟨B1, B2, B3, B4, B5⟩ := up5 k B1 B2 B3 B4 B5;obtain ⟨A, X⟩ := axu2 k g6 A X;refine br_map h (fun h_ => ?_) (fun h_ => ?_)
     ·replace h := h_;clear h_;refine s3_t B3 fun u11 k B3 => ?_;obtain ⟨B1, B2, B4, B5, B6⟩ := up5 k B1 B2 B4 B5 B6;obtain ⟨A, X⟩ := axu2 k g3 A X;refine l3_t B3 ?_;replace h := h _ X A;exact ⟨A, h⟩
     ·replace h := h_;clear h_;refine l2_t B6 ?_;refine ldI_t 2 B4 rfl ?_;refine ldI_t 2 B5 rfl ?_;replace h := h _ X A;refine Calls.mono h ?_;clear h;rintro e3 w8 ⟨b4, s4, x5, x6, he_, a, h⟩;refine ⟨b4, s4, x5, x6, he_, ?_⟩;clear he_;obtain ⟨B1, B2, B3, B4, B5, B6⟩ := ah6 a B1 B2 B3 B4 B5 B6;obtain ⟨A, X⟩ := axr2 a A;refine s3_t B3 fun u12 k B3 => ?_;obtain ⟨B1, B2, B4, B5, B6⟩ := up5 k B1 B2 B4 B5 B6;obtain ⟨A, X⟩ := axu2 k g3 A X;refine l3_t B3 ?_;replace h := h _ X A;exact ⟨A, h⟩

/-- surd/dyadic.Add: function 21, its local variables as values. -/
theorem dyadic_Add_v2 (a0_a_0 : Bool) (a0_a_1 : Slc) (a0_a_2 : Int) (a1_b_0 : Bool) (a1_b_1 : Slc) (a1_b_2 : Int) (w : World) (R : Ending → World → Prop)
    
    (h : ∀ w1, Ext w w1 → Ahead w w1 →
    (Calls Tryd.prog 40 #[Value.agg #[Value.bool a0_a_0, a0_a_1.v, Value.int .i64 a0_a_2], Value.agg #[Value.bool a1_b_0, a1_b_1.v, Value.int .i64 a1_b_2]] w1 fun e1 w2 =>
     ∃ b1 : Bool, ∃ s1 : Slc, ∃ x1 : Int, ∃ b2 : Bool, ∃ s2 : Slc, ∃ x2 : Int, ∃ x3 : Int, e1 = .returned (Value.tuple #[Value.agg #[Value.bool b1, s1.v, Value.int .i64 x1], Value.agg #[Value.bool b2, s2.v, Value.int .i64 x2], Value.int .i64 x3]) ∧ Ahead w1 w2 ∧
     (br (x3 != 0)
      (∀ w3, Ext w2 w3 → Ahead w w3 →
       (R (.returned (Value.tuple #[Value.agg #[Value.bool (false), ((⟨none, 0, 0⟩ : Slc)).v, Value.int .i64 (0 : Int)], Value.int .i64 x3])) w3))
      (∀ w4, Ext w2 w4 → Ahead w w4 →
       (Calls Tryd.prog 57 #[Value.agg #[Value.bool b1, s1.v, Value.int .i64 x1], Value.agg #[Value.bool b2, s2.v, Value.int .i64 x2]] w4 fun e2 w5 =>
        ∃ b3 : Bool, ∃ s3 : Slc, ∃ x4 : Int, ∃ x5 : Int, e2 = .returned (Value.tuple #[Value.agg #[Value.bool b3, s3.v, Value.int .i64 x4], Value.int .i64 x5]) ∧ Ahead w4 w5 ∧
        (∀ w6, Ext w5 w6 → Ahead w w6 →
         (R (.returned (Value.tuple #[Value.agg #[Value.bool b3, s3.v, Value.int .i64 x4], Value.int .i64 x5])) w6)))))))
     :
    Calls Tryd.prog 21 #[Value.agg #[Value.bool a0_a_0, a0_a_1.v, Value.int .i64 a0_a_2], Value.agg #[Value.bool a1_b_0, a1_b_1.v, Value.int .i64 a1_b_2]] w (fun e_ w_ => Ahead w w_ ∧ R e_ w_) := by
  refine dyadic_Add_vc a0_a_0 a0_a_1 a0_a_2 a1_b_0 a1_b_1 a1_b_2 w _  ?_
  · have A : Ahead w w := Ahead.refl w
    have X : Ext w w := Ext.refl w
    refine newC_t fun bk1 u1 hb a _ B1 => ?_;have g1 := le_eq A.size hb;obtain ⟨A, X⟩ := axa2 a A X;refine newC_t fun bk2 u2 hb a _ B2 => ?_;have g2 := le_eq A.size hb;have l1_2 := lt1 hb B1;replace B1 := B1.ahead a;obtain ⟨A, X⟩ := axa2 a A X;refine newC_t fun bk3 u3 hb a _ B3 => ?_;have g3 := le_eq A.size hb;obtain ⟨_, _⟩ := lt2 hb B1 B2;obtain ⟨B1, B2⟩ := ah2 a B1 B2;obtain ⟨A, X⟩ := axa2 a A X;refine l3_t B1 ?_;refine l3_t B2 ?_;replace h := h _ X A;refine Calls.mono h ?_;clear h;rintro e1 w2 ⟨b1, s1, x1, b2, s2, x2, x3, he_, a, h⟩;refine ⟨b1, s1, x1, b2, s2, x2, x3, he_, ?_⟩;clear he_;obtain ⟨B1, B2, B3⟩ := ah3 a B1 B2 B3;obtain ⟨A, X⟩ := axr2 a A;refine newC_t fun bk4 u4 hb a _ B4 => ?_;have g4 := le_eq A.size hb;obtain ⟨_, _, _⟩ := lt3 hb B1 B2 B3;obtain ⟨B1, B2, B3⟩ := ah3 a B1 B2 B3;obtain ⟨A, X⟩ := axa2 a A X;refine newC_t fun bk5 u5 hb a _ B5 => ?_;have g5 := le_eq A.size hb;obtain ⟨_, _, _, _⟩ := lt4 hb B1 B2 B3 B4;obtain ⟨B1, B2, B3, B4⟩ := ah4 a B1 B2 B3 B4;obtain ⟨A, X⟩ := axa2 a A X;refine s3_t B4 fun u6 k B4 => ?_;obtain ⟨B1, B2, B3, B5⟩ := up4 k B1 B2 B3 B5;obtain ⟨A, X⟩ := axu2 k g4 A X;refine s3_t B5 fun u7 k B5 => ?_;obtain ⟨B1, B2, B3, B4⟩ := up4 k B1 B2 B3 B4;obtain ⟨A, X⟩ := axu2 k g5 A X;refine br_map h (fun h_ => ?_) (fun h_ => ?_)
    ·replace h := h_;clear h_;refine s3_t B3 fun u8 k B3 => ?_;obtain ⟨B1, B2, B4, B5⟩ := up4 k B1 B2 B4 B5;obtain ⟨A, X⟩ := axu2 k g3 A X;refine l3_t B3 ?_;replace h := h _ X A;exact ⟨A, h⟩
    ·replace h := h_;clear h_;refine l3_t B4 ?_;refine l3_t B5 ?_;replace h := h _ X A;refine Calls.mono h ?_;clear h;rintro e2 w5 ⟨b3, s3, x4, x5, he_, a, h⟩;refine ⟨b3, s3, x4, x5, he_, ?_⟩;clear he_;obtain ⟨B1, B2, B3, B4, B5⟩ := ah5 a B1 B2 B3 B4 B5;obtain ⟨A, X⟩ := axr2 a A;refine s3_t B3 fun u9 k B3 => ?_;obtain ⟨B1, B2, B4, B5⟩ := up4 k B1 B2 B4 B5;obtain ⟨A, X⟩ := axu2 k g3 A X;refine l3_t B3 ?_;replace h := h _ X A;exact ⟨A, h⟩

end Go.Proofs.YtahbekmnphkiiaaDoor
namespace Go.Proofs.YtahbekmnphkiiaaDoor
open Go Go.RowKit Eng Sp Dg L2
set_option linter.unusedVariables false
set_option linter.unusedSimpArgs false
set_option maxRecDepth 100000
namespace Dy
open _root_.Go.Proofs.YtahbekmnphkiiaaDoor.Nat (OwnNil Num Num.bl Num.ext Num.ahead OwnNil.mono OwnNil.ext OwnNil.rd OwnNil.ahead OwnNil.nil digs_len_bl num_of bigC Ret add_num sub_num cmp_num subC own_num)
open _root_.Go.Proofs.YtahbekmnphkiiaaDoor.Ref (RN len_mono)
open Sb

theorem bigC_bl' {n : Nat} (h : bigC n = 0) : bl n ≤ 67108864 := by
  unfold bigC at h
  split at h
  · assumption
  · omega
/-- A whole number, where the call is taken. -/
def WAns (z : Int) (en : Ending) (w' : World) : Prop := ∃ code neg s, en = .returned (.tuple #[.agg (c2 neg s), .int .i64 code]) ∧ (code = 0 → neg = zb z ∧ bl z.natAbs ≤ 67108864 ∧ Rd .u64 w' s (nn (digs B64 z.natAbs)))
theorem WOut.ans {w w' : World} {code : Int} {neg : Bool} {q : Nat} {en : Ending} {z : Int} (h : WOut w code neg q en w') (hz : code = 0 → sg neg q = z ∧ bl q ≤ 67108864) : WAns z en w' := by
  obtain ⟨s, rfl, o⟩ := h
  refine ⟨code, _, s, rfl, fun hc => ?_⟩
  obtain ⟨e1, e2⟩ := hz hc
  rw [if_pos hc] at o
  rw [if_pos hc, ← e1, zb_sg, sg_abs]
  exact ⟨rfl, e2, o.rd⟩
theorem result_spec {w w0 : World} {neg : Bool} {s : Slc} {x : Nat} {c : Int} (h : c = 0 → Num w s x) : Calls pr whole_result_id #[.bool neg, s.v, .int .i64 c] w fun en w' => Ahead w w' ∧ WAns (sg neg x) en w' := by
  refine whole_result_v2 neg s c w _ (br_intro (fun hc => fun w1 X1 a1 => ?_) (fun hc => fun w1 X1 a1 => ?_))
  · have hc' : c ≠ 0 := by simpa using hc
    exact ⟨c, _, _, rfl, fun h => absurd h hc'⟩
  · have hc' : c = 0 := by simpa using hc
    refine Calls.mono (fits_spec ((h hc').ahead a1)) ?_
    rintro en w2 ⟨h2, s2, rfl, o2⟩
    refine ⟨_, _, _, rfl, h2, fun w3 X3 a3 => ?_⟩
    refine WOut.ans (w := w1) (code := bC x) (neg := neg) (q := x) ⟨s2, rfl, o2.ext X3⟩ fun hb => ⟨rfl, ?_⟩
    unfold bC at hb
    split at hb
    · omega
    · omega
theorem sg_add {neg : Bool} {x y : Nat} : sg neg (x + y) = sg neg x + sg neg y := by unfold sg; split <;> omega
theorem sg_sub {neg : Bool} {x y : Nat} (h : y ≤ x) : sg neg (x - y) = sg neg x - sg neg y := by unfold sg; split <;> omega
theorem sg_not {neg : Bool} {x : Nat} : sg (!neg) x = -sg neg x := by unfold sg; cases neg <;> simp
theorem wAdd_spec {w : World} {n m : Bool} {a b : Slc} {x y : Nat} (ha : Num w a x) (hb : Num w b y) :
    Calls pr whole_Add_id #[.agg (c2 n a), .agg (c2 m b)] w fun en w' => Ahead w w' ∧ WAns (sg n x + sg m y) en w' := by
  have e1 : sg n x = sg (nD n x) x := by
    by_cases h : x = 0
    · rw [h, sg_zero, sg_zero]
    · rw [nD_ne h]
  have e2 : sg m y = sg (nD m y) y := by
    by_cases h : y = 0
    · rw [h, sg_zero, sg_zero]
    · rw [nD_ne h]
  rw [e1, e2]
  have lx := num_len ha
  have ly := num_len hb
  refine whole_Add_v2 n a m b w _ fun w1 X1 a1 => Calls.mono (wnorm_spec (ha.ahead a1)) ?_
  rintro en w2 ⟨h2, s, rfl, os⟩
  refine ⟨_, _, rfl, h2, Calls.mono (wnorm_spec ((hb.ahead a1).ahead h2)) ?_⟩
  rintro en w3 ⟨h3, t, rfl, ot⟩
  generalize nD n x = n at *
  generalize nD m y = m at *
  have ns : Num w3 s x := ⟨_, (os.ahead h3).rd, lx, ok_digs two64 _, val_digs two64 _⟩
  have nt : Num w3 t y := ⟨_, ot.rd, ly, ok_digs two64 _, val_digs two64 _⟩
  refine ⟨_, _, rfl, h3, br_intro (fun he => fun w4 X4 a4 => ?_) (fun he => fun w8 X8 a8 => ?_)⟩
  · have he' : n = m := eq_of_beq he
    subst he'
    refine Calls.mono (add_num (ns.ext X4) (nt.ext X4)) ?_
    rintro en w5 ⟨h5, u, rfl, ou⟩
    refine ⟨_, _, rfl, h5, Calls.mono (result_spec (x := x + y) (w0 := w) fun hc => ?_) ?_⟩
    · rw [if_pos hc] at ou; exact own_num ou (bigC_bl' hc)
    rintro en w6 ⟨h6, c, ng, v, rfl, hv⟩
    refine ⟨_, _, _, rfl, h6, fun w7 X7 a7 => ⟨c, ng, v, rfl, fun hc => ?_⟩⟩
    obtain ⟨q1, q2, q3⟩ := hv hc
    rw [← sg_add]
    exact ⟨q1, q2, q3.ext X7⟩
  · have he' : m = !n := by
      have := beq_eq_false_iff_ne.1 he
      cases n <;> cases m <;> simp_all
    subst he'
    refine Calls.mono (cmp_num (ns.ext X8) (nt.ext X8)) ?_
    rintro en w9 ⟨h9, rfl⟩
    refine ⟨_, rfl, h9, br_intro (fun hl => fun w10 X10 a10 => ?_) (fun hl => ?_)⟩
    · have hlt : x < y := cmpI_neg.1 (of_decide_eq_true hl)
      have XX := X8.trans (h9.ext.trans X10)
      refine Calls.mono (sub_num (nt.ext XX) (ns.ext XX)) ?_
      rintro en w11 ⟨h11, u, rfl, ou⟩
      refine ⟨_, _, rfl, h11, Calls.mono (result_spec (x := y - x) (w0 := w) fun hc => ?_) ?_⟩
      · rw [if_pos hc] at ou; refine own_num ou (bigC_bl' ?_); rw [subC, if_neg (by omega)] at hc; exact hc
      rintro en w6 ⟨h6, c, ng, v, rfl, hv⟩
      refine ⟨_, _, _, rfl, h6, fun w7 X7 a7 => ⟨c, ng, v, rfl, fun hc => ?_⟩⟩
      obtain ⟨q1, q2, q3⟩ := hv hc
      have ez : sg n x + sg (!n) y = sg (!n) (y - x) := by rw [sg_sub (by omega), sg_not, sg_not]; omega
      rw [ez]
      exact ⟨q1, q2, q3.ext X7⟩
    · have hlt : ¬ x < y := fun h => by have := of_decide_eq_false hl; exact this (cmpI_neg.2 h)
      refine Calls.mono (sub_num ((ns.ext X8).ahead h9) ((nt.ext X8).ahead h9)) ?_
      rintro en w11 ⟨h11, u, rfl, ou⟩
      refine ⟨_, _, rfl, h11, Calls.mono (result_spec (x := x - y) (w0 := w) fun hc => ?_) ?_⟩
      · rw [if_pos hc] at ou; refine own_num ou (bigC_bl' ?_); rw [subC, if_neg (by omega)] at hc; exact hc
      rintro en w6 ⟨h6, c, ng, v, rfl, hv⟩
      refine ⟨_, _, _, rfl, h6, fun w7 X7 a7 => ⟨c, ng, v, rfl, fun hc => ?_⟩⟩
      obtain ⟨q1, q2, q3⟩ := hv hc
      have ez : sg n x + sg (!n) y = sg n (x - y) := by rw [sg_sub (by omega), sg_not]; omega
      rw [ez]
      exact ⟨q1, q2, q3.ext X7⟩
theorem wMul_spec {w : World} {n m : Bool} {a b : Slc} {x y : Nat} (ha : Num w a x) (hb : Num w b y) (la : (digs B64 x).length + 16 ≤ 2 ^ 44) (lb : (digs B64 y).length + 16 ≤ 2 ^ 44) :
    Calls pr whole_Mul_id #[.agg (c2 n a), .agg (c2 m b)] w fun en w' => Ahead w w' ∧ WAns (sg n x * sg m y) en w' := by
  refine whole_Mul_v2 n a m b w _ fun w1 X1 a1 => Calls.mono (Mul.Mul_spec (ha.ahead a1) (hb.ahead a1) la lb) ?_
  rintro en w2 ⟨h2, u, rfl, ou⟩
  refine ⟨_, _, rfl, h2, Calls.mono (result_spec (x := x * y) (w0 := w) fun hc => ?_) ?_⟩
  · rw [if_pos hc] at ou; exact own_num ou (bigC_bl' hc)
  rintro en w6 ⟨h6, c, ng, v, rfl, hv⟩
  refine ⟨_, _, _, rfl, h6, fun w7 X7 a7 => ⟨c, ng, v, rfl, fun hc => ?_⟩⟩
  obtain ⟨q1, q2, q3⟩ := hv hc
  rw [← sg_sg_mul]
  exact ⟨q1, q2, q3.ext X7⟩

/-- What is known of an answer: where the call is taken, its number. -/
def Got (P : Int → Int → Prop) (w : World) (code : Int) (neg : Bool) (s : Slc) (E : Int) : Prop :=
  code = 0 → ∃ z, neg = zb z ∧ bl z.natAbs ≤ 67108864 ∧ wi E ∧ NZ z E ∧ Rd .u64 w s (nn (digs B64 z.natAbs)) ∧ P z E
theorem Got.ext {P : Int → Int → Prop} {w w' : World} {code : Int} {neg : Bool} {s : Slc} {E : Int} (h : Got P w code neg s E) (X : Ext w w') : Got P w' code neg s E := fun hc => by
  obtain ⟨z, h1, h2, h3, h4, h5, h6⟩ := h hc
  exact ⟨z, h1, h2, h3, h4, h5.ext X, h6⟩
/-- A dyadic's number, where the call is taken. -/
def DAns (P : Int → Int → Prop) (en : Ending) (w' : World) : Prop := ∃ code neg s E, en = .returned (.tuple #[.agg (c3 neg s E), .int .i64 code]) ∧ Got P w' code neg s E
theorem DAns.ext {P : Int → Int → Prop} {en : Ending} {w w' : World} (h : DAns P en w) (X : Ext w w') : DAns P en w' := by
  obtain ⟨c, n, s, E, rfl, hh⟩ := h
  refine ⟨c, n, s, E, rfl, fun hc => ?_⟩
  obtain ⟨z, h1, h2, h3, h4, h5, h6⟩ := hh hc
  exact ⟨z, h1, h2, h3, h4, h5.ext X, h6⟩
theorem DAns.no {P : Int → Int → Prop} {w' : World} {neg : Bool} {s : Slc} {E code : Int} (h : code ≠ 0) : DAns P (.returned (.tuple #[.agg (c3 neg s E), .int .i64 code])) w' := ⟨code, neg, s, E, rfl, fun h' => absurd h' h⟩
theorem told_ans {w : World} {neg : Bool} {s : Slc} {x : Nat} {e : Int} {P : Int → Int → Prop} (hT : Tab w) (h : Num w s x) (he : -4611686018427387904 ≤ e ∧ e ≤ 4611686018427387904) (hP : P (sg (nD neg x) (od x)) (eD x e)) :
    Calls pr dyadic_told_id #[.agg (c2 neg s), .int .i64 e] w fun en w' => Ahead w w' ∧ DAns P en w' := by
  refine Calls.mono (told_spec hT h he) ?_
  rintro en w1 ⟨h1, t, rfl, ot⟩
  refine ⟨h1, _, _, _, _, rfl, fun hc => ?_⟩
  rw [if_pos hc] at ot
  rw [if_pos hc, if_pos hc]
  obtain ⟨q1, q2⟩ := tC_zero hc
  refine ⟨sg (nD neg x) (od x), ?_, ?_, q2, (NF.of neg x e).nz, ?_, hP⟩
  · rw [(NF.of neg x e).zb]
  · rw [sg_abs]; exact q1
  · rw [sg_abs]; exact ot.rd
/-- The number that told makes of z. -/
theorem Vl.told' {z E b v : Int} (hb : b ≤ E) (h0 : b ≤ 0) (h : dv z E b = v) : Vl (sg (nD (zb z) z.natAbs) (od z.natAbs)) (eD z.natAbs E) b v := Vl.told hb h0 (by rw [sg_zb]; exact h)

/-- What a sum is asked to be. -/
def SumP (z e z' e' : Int) (Z E : Int) : Prop := ∀ b, b ≤ 0 → b ≤ e → b ≤ e' → Vl Z E b (dv z e b + dv z' e' b)
theorem dv_hi {n : Bool} {x : Nat} {e e' b : Int} (hge : e' ≤ e) (hb : b ≤ e') : dv (sg n x) e b = sg n (x * 2 ^ (e - e').toNat) * ((2 ^ (e' - b).toNat : Nat) : Int) := by
  rw [← sg_mul]
  show sg n x * _ = sg n x * _ * _
  rw [Int.mul_assoc, ← Int.natCast_mul, ← Nat.pow_add]
  congr 3
  omega
theorem long_spec {w : World} {s t : Slc} {n m : Bool} {x y : Nat} {e e' : Int} (hT : Tab w) (r : Rd .u64 w s (nn (digs B64 x))) (r' : Rd .u64 w t (nn (digs B64 y))) (hge : e' ≤ e) (he : far e) (he' : far e')
    (l1 : (digs B64 x).length + (e - e').toNat / 64 + 1 ≤ 2 ^ 44) (l2 : (digs B64 (x * 2 ^ (e - e').toNat)).length + 2 ≤ 2 ^ 44) (l3 : (digs B64 y).length + 2 ≤ 2 ^ 44) :
    Calls pr dyadic_long_id #[.agg (c3 n s e), .agg (c3 m t e')] w fun en w' => Ahead w w' ∧ DAns (SumP (sg n x) e (sg m y) e') en w' := by
  unfold far at he he'
  have hv : ∀ b, b ≤ e' → dv (sg n x) e b = sg n (x * 2 ^ (e - e').toNat) * ((2 ^ (e' - b).toNat : Nat) : Int) := fun b hb => dv_hi hge hb
  have fin : ∀ (neg : Bool) (X : Nat) (w1 : World) (u : Slc), Ahead w w1 → Num w1 u X → sg neg X = sg n (x * 2 ^ (e - e').toNat) + sg m y →
      Calls pr dyadic_told_id #[.agg (c2 neg u), .int .i64 e'] w1 fun e4 w6 => ∃ b1 : Bool, ∃ s3 : Slc, ∃ x2 : Int, ∃ x3 : Int, e4 = .returned (Value.tuple #[Value.agg #[Value.bool b1, s3.v, Value.int .i64 x2], Value.int .i64 x3]) ∧ Ahead w1 w6 ∧
        (∀ w7, Ext w6 w7 → Ahead w w7 → DAns (SumP (sg n x) e (sg m y) e') (.returned (Value.tuple #[Value.agg #[Value.bool b1, s3.v, Value.int .i64 x2], Value.int .i64 x3])) w7) := by
    intro neg X w1 u a1 hu hX
    refine Calls.mono (told_ans (P := SumP (sg n x) e (sg m y) e') (hT.ahead a1) hu (by omega) ?_) ?_
    · intro b h0 h1 h2
      refine Vl.told h2 h0 ?_
      rw [hv b h2]
      show sg neg X * _ = _ + sg m y * _
      rw [← Int.add_mul, ← hX]
    · rintro en w6 ⟨h6, c, n, s3, E, rfl, hh⟩
      exact ⟨_, _, _, _, rfl, h6, fun w7 X7 a7 => DAns.ext ⟨c, n, s3, E, rfl, hh⟩ X7⟩
  generalize hA : x * 2 ^ (e - e').toNat = A at *
  refine dyadic_long_v2 n s e m t e' w _ fun w1 X1 a1 => ?_
  rw [wrap_i64 (by omega) (by omega), show e - e' = ((e - e').toNat : Int) by omega]
  refine Calls.mono (dleft_spec (r.ahead a1) l1) ?_
  rw [hA]
  rintro en w2 ⟨h2, u, rfl, ou⟩
  have a2 := a1.trans h2
  have nu : Num w2 u A := ⟨_, ou.rd, by omega, ok_digs two64 _, val_digs two64 _⟩
  have nt : Num w2 t y := ⟨_, r'.ahead a2, by omega, ok_digs two64 _, val_digs two64 _⟩
  refine ⟨_, rfl, h2, br_intro (fun hs => ?_) (fun hs => fun w12 X12 a12 => ?_)⟩
  · have hs' : m = !n := by
      have : ¬ n = m := by simpa using hs
      revert this
      cases n <;> cases m <;> simp
    refine Calls.mono (cmp_num nu nt) ?_
    rintro en w3 ⟨h3, rfl⟩
    refine ⟨_, rfl, h3, br_intro (fun hl => fun w4 X4 a4 => ?_) (fun hl => fun w8 X8 a8 => ?_)⟩
    · have hlt : A < y := cmpI_neg.1 (of_decide_eq_true hl)
      refine Calls.mono (minus_spec (r'.ahead a4) ((ou.ahead h3).ext X4).rd (by omega) (by omega)) ?_
      rintro en w5 ⟨h5, v, rfl, ov⟩
      have lm := len_mono two64 (Nat.sub_le y A)
      exact ⟨_, rfl, h5, fin _ (y - A) w5 v (a4.trans h5) ⟨_, ov.rd, by omega, ok_digs two64 _, val_digs two64 _⟩ (by rw [hs', sg_sub (by omega), sg_not, sg_not]; omega)⟩
    · have hlt : ¬ A < y := fun h => by have := of_decide_eq_false hl; exact this (cmpI_neg.2 h)
      refine Calls.mono (minus_spec ((ou.ahead h3).ext X8).rd (r'.ahead a8) (by omega) (by omega)) ?_
      rintro en w5 ⟨h5, v, rfl, ov⟩
      have lm := len_mono two64 (Nat.sub_le A y)
      exact ⟨_, rfl, h5, fin _ (A - y) w5 v (a8.trans h5) ⟨_, ov.rd, by omega, ok_digs two64 _, val_digs two64 _⟩ (by rw [hs', sg_sub (by omega), sg_not]; omega)⟩
  · have hs' : m = n := by
      have : ¬ ¬ n = m := by simpa using hs
      revert this
      cases n <;> cases m <;> simp
    refine Calls.mono (plus_spec (ou.ext X12).rd (r'.ahead a12) (by omega) (by omega)) ?_
    rintro en w5 ⟨h5, v, rfl, ov⟩
    have lm := Ref.digs_add_len two64 (x := A) (y := y) (k := 2 ^ 44 - 2) (by omega) (by omega)
    exact ⟨_, rfl, h5, fin _ (A + y) w5 v (a12.trans h5) ⟨_, ov.rd, by omega, ok_digs two64 _, val_digs two64 _⟩ (by rw [hs', sg_add])⟩

/-- Two numbers whose sum is asked for, in either order. -/
def SI (z e z' e' : Int) (n : Bool) (s : Slc) (a : Int) (m : Bool) (t : Slc) (c : Int) (w : World) (Q : Nat → Nat → Prop) : Prop := ∃ x y : Nat, Rd .u64 w s (nn (digs B64 x)) ∧ Rd .u64 w t (nn (digs B64 y)) ∧ (digs B64 x).length + 2 ≤ 2 ^ 44 ∧ (digs B64 y).length + 2 ≤ 2 ^ 44 ∧ far a ∧ far c ∧
  (∀ Z E, SumP (sg n x) a (sg m y) c Z E → SumP z e z' e' Z E) ∧ Q x y
theorem SumP.swap {z e z' e' Z E : Int} (h : SumP z e z' e' Z E) : SumP z' e' z e Z E := fun b h0 h1 h2 => by rw [Int.add_comm]; exact h b h0 h2 h1
theorem num_of_digs {w : World} {s : Slc} {x : Nat} (r : Rd .u64 w s (nn (digs B64 x))) (l : (digs B64 x).length + 2 ≤ 2 ^ 44) : Num w s x := ⟨_, r, by omega, ok_digs two64 _, val_digs two64 _⟩
theorem DAns.mono {P Q : Int → Int → Prop} {en : Ending} {w : World} (h : DAns P en w) (hq : ∀ Z E, P Z E → Q Z E) : DAns Q en w := by
  obtain ⟨c, n, s, E, rfl, hh⟩ := h
  refine ⟨c, n, s, E, rfl, fun hc => ?_⟩
  obtain ⟨z, h1, h2, h3, h4, h5, h6⟩ := hh hc
  exact ⟨z, h1, h2, h3, h4, h5, hq _ _ h6⟩
/-- The room of a shifted number. -/
theorem shl_len {x k : Nat} (h : k + bl x ≤ 67108867) : (digs B64 (x * 2 ^ k)).length ≤ 2 ^ 21 ∧ (digs B64 x).length ≤ 2 ^ 21 := by
  have h1 : bl (x * 2 ^ k) ≤ bl x + k := bl_le (by rw [Nat.pow_add]; exact Nat.mul_lt_mul_of_pos_right (lt_bl x) (two_pos k))
  exact ⟨digs_len_bl (by omega), digs_len_bl (by omega)⟩

set_option maxHeartbeats 1000000 in
theorem sum_spec {w : World} {s t : Slc} {n m : Bool} {x y : Nat} {e e' : Int} (hT : Tab w) (r : Rd .u64 w s (nn (digs B64 x))) (r' : Rd .u64 w t (nn (digs B64 y))) (he : far e) (he' : far e')
    (l : (digs B64 x).length + 2 ≤ 2 ^ 44) (l' : (digs B64 y).length + 2 ≤ 2 ^ 44) :
    Calls pr dyadic_sum_id #[.agg (c3 n s e), .agg (c3 m t e')] w fun en w' => Ahead w w' ∧ DAns (SumP (sg n x) e (sg m y) e') en w' := by
  refine dyadic_sum_v2 n s e m t e' w _
    (fun n2 s2 e2 n3 s3 e3 _ _ _ w' => SI (sg n x) e (sg m y) e' n2 s2 e2 n3 s3 e3 w' fun _ _ => True)
    (fun n2 s2 e2 n3 s3 e3 _ _ _ w' => e3 ≤ e2 ∧ SI (sg n x) e (sg m y) e' n2 s2 e2 n3 s3 e3 w' fun _ _ => True)
    (fun g n2 s2 e2 n3 s3 e3 _ _ _ w' => g = e2 - e3 ∧ e3 ≤ e2 ∧ SI (sg n x) e (sg m y) e' n2 s2 e2 n3 s3 e3 w' fun a _ => (digs B64 a).length + (e2 - e3).toNat / 64 + 1 ≤ 2 ^ 44 ∧ (digs B64 (a * 2 ^ (e2 - e3).toNat)).length + 2 ≤ 2 ^ 44)
    (fun c n2 s2 e2 n3 s3 e3 _ _ _ n7 s7 w' => e3 ≤ e2 ∧ SI (sg n x) e (sg m y) e' n2 s2 e2 n3 s3 e3 w' fun a _ => (digs B64 a).length + (e2 - e3).toNat / 64 + 1 ≤ 2 ^ 44 ∧ (digs B64 (a * 2 ^ (e2 - e3).toNat)).length + 2 ≤ 2 ^ 44 ∧
      (c = 0 → Rd .u64 w' s7 (nn (digs B64 (a * 2 ^ (e2 - e3).toNat))) ∧ sg n7 (a * 2 ^ (e2 - e3).toNat) = sg n2 (a * 2 ^ (e2 - e3).toNat))) ?_ ?_ ?_ ?_ ?_
  · intro w1 X1 a1
    refine Calls.mono (part_sign_spec (num_of_digs (r.ahead a1) l)) ?_
    rintro en w2 ⟨h2, rfl⟩
    have a2 := a1.trans h2
    refine ⟨_, rfl, h2, br_intro (fun hz => fun w3 X3 a3 => ?_) (fun hz => ?_)⟩
    · exact ⟨y, x, r'.ahead a3, r.ahead a3, l', l, he', he, fun Z E h => h.swap, trivial⟩
    · exact ⟨x, y, r.ahead a2, r'.ahead a2, l, l', he, he', fun Z E h => h, trivial⟩
  · rintro n2 s2 e2 n3 s3 e3 _ _ _ w1 a1 ⟨a, c, ra, rc, la, lc, fa, fc, hs, -⟩
    refine Calls.mono (part_sign_spec (num_of_digs rc lc)) ?_
    rintro en w2 ⟨h2, rfl⟩
    refine ⟨_, rfl, h2, br_intro (fun hz => ?_) (fun hz => br_intro (fun hlt => fun w3 X3 a3 => ?_) (fun hlt => ?_))⟩
    · have hc : c = 0 := sgn_zero_iff.1 (eq_of_beq hz)
      subst hc
      unfold far at fa
      refine Calls.mono (told_ans (P := SumP (sg n x) e (sg m y) e') (hT.ahead (a1.trans h2)) (num_of_digs (ra.ahead h2) la) (by omega) (hs _ _ ?_)) ?_
      · intro b h0 h1 h2
        refine Vl.told h1 h0 ?_
        rw [sg_zero, dv_zero, Int.add_zero]
      · rintro en w6 ⟨h6, c, n, s3, E, rfl, hh⟩
        exact ⟨_, _, _, _, rfl, h6, fun w7 X7 a7 => DAns.ext ⟨c, n, s3, E, rfl, hh⟩ X7⟩
    · exact ⟨by have := of_decide_eq_true hlt; omega, c, a, (rc.ahead h2).ext X3, (ra.ahead h2).ext X3, lc, la, fc, fa, fun Z E h => hs Z E h.swap, trivial⟩
    · exact ⟨by have := of_decide_eq_false hlt; omega, a, c, ra.ahead h2, rc.ahead h2, la, lc, fa, fc, hs, trivial⟩
  · rintro n2 s2 e2 n3 s3 e3 _ _ _ w1 a1 ⟨hge, a, c, ra, rc, la, lc, fa, fc, hs, -⟩
    have ba := (num_of_digs ra la).bl
    have bc := (num_of_digs rc lc).bl
    have fa0 := fa
    have fc0 := fc
    unfold far at fa fc
    rw [wrap_i64 (x := e2 - e3) (by omega) (by omega)]
    refine br_intro (fun hg => fun w2 X2 a2 => ?_) (fun hg => fun w2 X2 a2 => ?_)
    · refine Calls.mono (number_top_spec (num_of_digs (ra.ext X2) la) (by omega)) ?_
      rintro en w3 ⟨h3, rfl⟩
      refine ⟨_, rfl, h3, Calls.mono (number_top_spec (num_of_digs ((rc.ext X2).ahead h3) lc) (by omega)) ?_⟩
      rintro en w4 ⟨h4, rfl⟩
      refine ⟨_, rfl, h4, ?_⟩
      rw [wrap_i64 (x := e3 + (bl c : Int) - 1 + 1) (by omega) (by omega), wrap_i64 (x := maxI _ _ - e3) (by unfold maxI; split <;> omega) (by unfold maxI; split <;> omega)]
      refine br_intro (fun hb => fun w5 X5 a5 => DAns.no (by omega)) (fun hb => ?_)
      have hb' := of_decide_eq_false hb
      have hroom : (e2 - e3).toNat + bl a ≤ 67108867 := by unfold maxI at hb'; split at hb' <;> omega
      have sl := shl_len hroom
      exact ⟨rfl, hge, a, c, ((ra.ext X2).ahead h3).ahead h4, ((rc.ext X2).ahead h3).ahead h4, la, lc, fa0, fc0, hs, by omega, by omega⟩
    · have hg' := of_decide_eq_false hg
      have h0 : (e2 - e3).toNat = 0 := by omega
      exact ⟨rfl, hge, a, c, ra.ext X2, rc.ext X2, la, lc, fa0, fc0, hs, by rw [h0]; omega, by rw [h0, Nat.pow_zero, Nat.mul_one]; exact la⟩
  · rintro g n2 s2 e2 n3 s3 e3 _ _ _ w1 a1 ⟨rfl, hge, a, c, ra, rc, la, lc, fa, fc, hs, l1, l2⟩
    intro w2 X2 a2
    obtain ⟨k, hk⟩ : ∃ k : Nat, e2 - e3 = (k : Int) := ⟨(e2 - e3).toNat, by omega⟩
    have hk' : (e2 - e3).toNat = k := by omega
    rw [hk'] at l1 l2
    rw [hk', hk]
    refine Calls.mono (dleft_spec (ra.ext X2) l1) ?_
    rintro en w3 ⟨h3, u, rfl, ou⟩
    refine ⟨_, rfl, h3, fun w4 X4 a4 => ?_⟩
    refine Calls.mono (wMake_spec (neg := n2) (num_of_digs (ou.ext X4).rd l2)) ?_
    rintro en w5 ⟨h5, v, rfl, ov⟩
    refine ⟨_, _, _, rfl, h5, fun w6 X6 a6 => ?_⟩
    have XX := (X2.trans h3.ext).trans (X4.trans (h5.ext.trans X6))
    refine ⟨hge, a, c, ra.ext XX, rc.ext XX, la, lc, fa, fc, hs, l1, l2, fun hc => ?_⟩
    rw [if_pos hc] at ov
    rw [if_pos hc]
    refine ⟨(ov.ext X6).rd, ?_⟩
    generalize a * 2 ^ k = A
    by_cases h : A = 0
    · rw [h, sg_zero, sg_zero]
    · rw [nD_ne h]
  · rintro cd n2 s2 e2 n3 s3 e3 _ _ _ n7 s7 w1 a1 ⟨hge, a, c, ra, rc, la, lc, fa, fc, hs, l1, l2, h7⟩
    have lng : ∀ w2, Ext w1 w2 → Ahead w w2 → Calls pr dyadic_long_id #[.agg (c3 n2 s2 e2), .agg (c3 n3 s3 e3)] w2 fun e8 w14 => ∃ b3 : Bool, ∃ s4 : Slc, ∃ x8 : Int, ∃ x9 : Int, e8 = .returned (Value.tuple #[Value.agg #[Value.bool b3, s4.v, Value.int .i64 x8], Value.int .i64 x9]) ∧ Ahead w2 w14 ∧
        (∀ w15, Ext w14 w15 → Ahead w w15 → DAns (SumP (sg n x) e (sg m y) e') (.returned (Value.tuple #[Value.agg #[Value.bool b3, s4.v, Value.int .i64 x8], Value.int .i64 x9])) w15) := by
      intro w2 X2 a2
      refine Calls.mono (long_spec (hT.ahead a2) (ra.ext X2) (rc.ext X2) hge fa fc l1 l2 lc) ?_
      rintro en w6 ⟨h6, c, n, s3, E, rfl, hh⟩
      exact ⟨_, _, _, _, rfl, h6, fun w7 X7 a7 => DAns.mono (DAns.ext ⟨c, n, s3, E, rfl, hh⟩ X7) hs⟩
    refine br_intro (fun hc => lng w1 (Ext.refl _) a1) (fun hc => ?_)
    have hc' : cd = 0 := by simpa using hc
    obtain ⟨r7, sg7⟩ := h7 hc'
    refine Calls.mono (wAdd_spec (num_of_digs r7 l2) (num_of_digs rc lc)) ?_
    rintro en w2 ⟨h2, c2', ng, u, rfl, hu⟩
    refine ⟨_, _, _, rfl, h2, br_intro (fun hx => fun w3 X3 a3 => lng w3 (h2.ext.trans X3) a3) (fun hx => fun w3 X3 a3 => ?_)⟩
    obtain ⟨rfl, hb, ru⟩ := hu (by simpa using hx)
    have hl := digs_len_bl (m := 2 ^ 20) (show bl (sg n7 (a * 2 ^ (e2 - e3).toNat) + sg n3 c).natAbs ≤ 64 * 2 ^ 20 by omega)
    unfold far at fc
    refine Calls.mono (told_ans (P := SumP (sg n x) e (sg m y) e') (hT.ahead a3) (num_of_digs (ru.ext X3) (by omega)) (by omega) (hs _ _ ?_)) ?_
    · intro b h0 h1 h2
      refine Vl.told' h2 h0 ?_
      rw [dv_add, sg7, dv_hi hge h2]; rfl
    · rintro en w6 ⟨h6, c, n, s3, E, rfl, hh⟩
      exact ⟨_, _, _, _, rfl, h6, fun w7 X7 a7 => DAns.ext ⟨c, n, s3, E, rfl, hh⟩ X7⟩

/-- The number that a dyadic of any shape means. -/
def vz (neg : Bool) (x : Nat) : Int := sg (nD neg x) (od x)
theorem Add_spec {w : World} {neg neg' : Bool} {s s' : Slc} {x x' : Nat} {e e' : Int} (hT : Tab w) (h : Num w s x) (h' : Num w s' x') (hl : (digs B64 x).length + 2 ≤ 2 ^ 44) (hl' : (digs B64 x').length + 2 ≤ 2 ^ 44) :
    Calls pr dyadic_Add_id #[.agg (c3 neg s e), .agg (c3 neg' s' e')] w fun en w' => Ahead w w' ∧ DAns (fun Z E => wi e ∧ wi e' ∧ SumP (vz neg x) (eD x e) (vz neg' x') (eD x' e') Z E) en w' := by
  refine dyadic_Add_v2 neg s e neg' s' e' w _ fun w1 X1 a1 => Calls.mono (two_spec (hT.ahead a1) (h.ahead a1) (h'.ahead a1)) ?_
  rintro en w2 ⟨h2, b1, s1, x1, b2, s2, x2, rfl, hh⟩
  refine ⟨_, _, _, _, _, _, _, rfl, h2, br_intro (fun hc => fun w3 X3 a3 => DAns.no (by simpa using hc)) (fun hc => fun w4 X4 a4 => ?_)⟩
  have hc' : twC e e' = 0 := by simpa using hc
  obtain ⟨rfl, rfl, rfl, rfl, o1, o2⟩ := hh hc'
  obtain ⟨hw, hw'⟩ := twC_zero hc'
  have l1 := len_mono two64 (od_le x)
  have l2 := len_mono two64 (od_le x')
  refine Calls.mono (sum_spec (hT.ahead a4) (o1.ext X4).rd (o2.ext X4).rd (far_eD h hw) (far_eD h' hw') (by omega) (by omega)) ?_
  rintro en w6 ⟨h6, c, n, s3, E, rfl, hh⟩
  exact ⟨_, _, _, _, rfl, h6, fun w7 X7 a7 => DAns.mono (DAns.ext ⟨c, n, s3, E, rfl, hh⟩ X7) fun Z E q => ⟨hw, hw', q⟩⟩
/-- What a product is asked to be. -/
def MulP (z e z' e' : Int) (Z E : Int) : Prop := ∀ b b', b ≤ 0 → b' ≤ 0 → b ≤ e → b' ≤ e' → Vl Z E (b + b') (dv z e b * dv z' e' b')
theorem DMul_spec {w : World} {neg neg' : Bool} {s s' : Slc} {x x' : Nat} {e e' : Int} (hT : Tab w) (h : Num w s x) (h' : Num w s' x') (hl : (digs B64 x).length + 16 ≤ 2 ^ 44) (hl' : (digs B64 x').length + 16 ≤ 2 ^ 44) :
    Calls pr dyadic_Mul_id #[.agg (c3 neg s e), .agg (c3 neg' s' e')] w fun en w' => Ahead w w' ∧ DAns (fun Z E => wi e ∧ wi e' ∧ MulP (vz neg x) (eD x e) (vz neg' x') (eD x' e') Z E) en w' := by
  refine dyadic_Mul_v2 neg s e neg' s' e' w _ fun w1 X1 a1 => Calls.mono (two_spec (hT.ahead a1) (h.ahead a1) (h'.ahead a1)) ?_
  rintro en w2 ⟨h2, b1, s1, x1, b2, s2, x2, rfl, hh⟩
  refine ⟨_, _, _, _, _, _, _, rfl, h2, br_intro (fun hc => fun w3 X3 a3 => DAns.no (by simpa using hc)) (fun hc => fun w4 X4 a4 => ?_)⟩
  have hc' : twC e e' = 0 := by simpa using hc
  obtain ⟨rfl, rfl, rfl, rfl, o1, o2⟩ := hh hc'
  obtain ⟨hw, hw'⟩ := twC_zero hc'
  have l1 := len_mono two64 (od_le x)
  have l2 := len_mono two64 (od_le x')
  have f1 := far_eD h hw
  have f2 := far_eD h' hw'
  unfold far at f1 f2
  rw [wrap_i64 (by omega) (by omega)]
  refine Calls.mono (wMul_spec (num_of_digs (o1.ext X4).rd (by omega)) (num_of_digs (o2.ext X4).rd (by omega)) (by omega) (by omega)) ?_
  rintro en w5 ⟨h5, c2', ng, u, rfl, hu⟩
  refine ⟨_, _, _, rfl, h5, br_intro (fun hx => fun w6 X6 a6 => DAns.no (by simpa using hx)) (fun hx => fun w7 X7 a7 => ?_)⟩
  obtain ⟨rfl, hb, ru⟩ := hu (by simpa using hx)
  have hl2 := digs_len_bl (m := 2 ^ 20) (show bl (sg (nD neg x) (od x) * sg (nD neg' x') (od x')).natAbs ≤ 64 * 2 ^ 20 by omega)
  refine Calls.mono (told_ans (P := fun Z E => wi e ∧ wi e' ∧ MulP (vz neg x) (eD x e) (vz neg' x') (eD x' e') Z E) (hT.ahead a7) (num_of_digs (ru.ext X7) (by omega)) (by omega) ⟨hw, hw', ?_⟩) ?_
  · intro b b' h0 h0' hb1 hb2
    refine Vl.told' (by omega) (by omega) ?_
    rw [dv_mulZ hb1 hb2]; rfl
  · rintro en w6 ⟨h6, c, n, s3, E, rfl, hh⟩
    exact ⟨_, _, _, _, rfl, h6, fun w7 X7 a7 => DAns.ext ⟨c, n, s3, E, rfl, hh⟩ X7⟩

end Dy
end Go.Proofs.YtahbekmnphkiiaaDoor
namespace Go.Proofs.YtahbekmnphkiiaaDoor
open Go Go.RowKit Eng Sp Dg L2
set_option linter.unusedVariables false
set_option linter.unusedSimpArgs false
set_option maxRecDepth 100000
namespace Dy
open _root_.Go.Proofs.YtahbekmnphkiiaaDoor.Nat (OwnNil Num Num.bl Num.ext Num.ahead OwnNil.mono OwnNil.ext OwnNil.rd OwnNil.ahead OwnNil.nil digs_len_bl num_of Yes)
open _root_.Go.Proofs.YtahbekmnphkiiaaDoor.Ref (RN len_mono)
open Sb

theorem vz_ans {z E : Int} (h : NZ z E) : vz (zb z) z.natAbs = z ∧ eD z.natAbs E = E := by
  refine ⟨?_, h.nf.eD⟩
  unfold vz
  rw [zb_nD, h.o, sg_zb]
theorem small_digs {z : Int} (h : bl z.natAbs ≤ 67108864) : (digs B64 z.natAbs).length ≤ 2 ^ 20 := digs_len_bl (by omega)

end Dy
end Go.Proofs.YtahbekmnphkiiaaDoor
namespace Go.Proofs.YtahbekmnphkiiaaDoor
open Go Go.RowKit Eng Sp Dg L2
set_option linter.unusedVariables false
set_option linter.unusedSimpArgs false
set_option maxRecDepth 100000
namespace Dp
open _root_.Go.Proofs.YtahbekmnphkiiaaDoor.Nat (OwnNil Num Num.bl Num.ext Num.ahead OwnNil.mono OwnNil.ext OwnNil.rd OwnNil.ahead OwnNil.nil digs_len_bl num_of bigC Ret add_num sub_num cmp_num subC own_num)
open _root_.Go.Proofs.YtahbekmnphkiiaaDoor.Ref (RN len_mono)
open Sb Dy

/-- What is asked for is told. -/
def AllTold (P : Int → Int → Prop) : Prop := ∀ Z E, P Z E → bl Z.natAbs ≤ 67108864 ∧ wi E
/-- An answer, and its code where T holds. -/
def DAT (P : Int → Int → Prop) (T : Prop) (en : Ending) (w' : World) : Prop := DAns P en w' ∧ (T → ∃ d, en = .returned (.tuple #[d, .int .i64 0]))
theorem DAT.ext {P : Int → Int → Prop} {T : Prop} {en : Ending} {w w' : World} (h : DAT P T en w) (X : Ext w w') : DAT P T en w' := ⟨h.1.ext X, h.2⟩
theorem DAT.mono {P Q : Int → Int → Prop} {T U : Prop} {en : Ending} {w : World} (h : DAT P T en w) (hq : ∀ Z E, P Z E → Q Z E) (ht : U → T) : DAT Q U en w := ⟨h.1.mono hq, fun u => h.2 (ht u)⟩
theorem AllTold.of {P Q : Int → Int → Prop} (h : AllTold Q) (hq : ∀ Z E, P Z E → Q Z E) : AllTold P := fun Z E p => h Z E (hq Z E p)
theorem told_anT {w : World} {neg : Bool} {s : Slc} {x : Nat} {e : Int} {P : Int → Int → Prop} {T : Prop} (hT : Tab w) (h : Num w s x) (he : -4611686018427387904 ≤ e ∧ e ≤ 4611686018427387904) (hP : P (sg (nD neg x) (od x)) (eD x e)) (ht : T → AllTold P) :
    Calls pr dyadic_told_id #[.agg (c2 neg s), .int .i64 e] w fun en w' => Ahead w w' ∧ DAT P T en w' := by
  refine Calls.mono (told_spec hT h he) ?_
  rintro en w1 ⟨h1, t, rfl, ot⟩
  refine ⟨h1, ⟨_, _, _, _, rfl, fun hc => ?_⟩, fun q => ?_⟩
  · rw [if_pos hc] at ot
    rw [if_pos hc, if_pos hc]
    obtain ⟨q1, q2⟩ := tC_zero hc
    refine ⟨sg (nD neg x) (od x), ?_, ?_, q2, (NF.of neg x e).nz, ?_, hP⟩
    · rw [(NF.of neg x e).zb]
    · rw [sg_abs]; exact q1
    · rw [sg_abs]; exact ot.rd
  · obtain ⟨q1, q2⟩ := ht q _ _ hP
    rw [sg_abs] at q1
    have hz : tC x e = 0 := by unfold tC; rw [if_neg (by omega), if_pos q2]
    exact ⟨_, congrArg (fun c => Ending.returned (.tuple #[_, .int .i64 c])) hz⟩
/-- A sum whose parts are far from each other is long. -/
theorem too_long {a c k M : Nat} {n m : Bool} (ha : a ≠ 0) (hc : c % 2 = 1) (hk : 0 < k) (bc : bl c ≤ M) (h : M + 2 < k + bl a - 1) :
    od (sg n (a * 2 ^ k) + sg m c).natAbs = (sg n (a * 2 ^ k) + sg m c).natAbs ∧ M < bl (sg n (a * 2 ^ k) + sg m c).natAbs := by
  have h1 := (bl_bounds ha).1
  have h2 := bl_le_iff.1 bc
  have h3 : 2 ^ (bl a - 1) * 2 ^ k ≤ a * 2 ^ k := Nat.mul_le_mul_right _ h1
  rw [← Nat.pow_add] at h3
  have h4 : 2 ^ (M + 2) ≤ 2 ^ (bl a - 1 + k) := Nat.pow_le_pow_right (by omega) (by have := bl_pos ha; omega)
  rw [Nat.pow_add, show 2 ^ 2 = 4 from rfl] at h4
  have hev : (a * 2 ^ k) % 2 = 0 := by
    obtain ⟨j, rfl⟩ : ∃ j, k = j + 1 := ⟨k - 1, by omega⟩
    rw [Nat.pow_succ, ← Nat.mul_assoc]; omega
  generalize a * 2 ^ k = A at *
  generalize 2 ^ (bl a - 1 + k) = B at *
  have hM : M < bl (sg n A + sg m c).natAbs ↔ ¬ (sg n A + sg m c).natAbs < 2 ^ M := by rw [← bl_le_iff]; omega
  rw [hM]
  generalize 2 ^ M = Q at *
  have hs : (sg n A + sg m c).natAbs = A + c ∨ (sg n A + sg m c).natAbs = A - c := by unfold sg; split <;> split <;> omega
  refine ⟨od_of_odd ?_, ?_⟩ <;> rcases hs with h | h <;> rw [h] <;> omega

theorem long_T {w : World} {s t : Slc} {n m : Bool} {x y : Nat} {e e' : Int} {T : Prop} (hT : Tab w) (ht : T → AllTold (SumP (sg n x) e (sg m y) e')) (r : Rd .u64 w s (nn (digs B64 x))) (r' : Rd .u64 w t (nn (digs B64 y))) (hge : e' ≤ e) (he : far e) (he' : far e')
    (l1 : (digs B64 x).length + (e - e').toNat / 64 + 1 ≤ 2 ^ 44) (l2 : (digs B64 (x * 2 ^ (e - e').toNat)).length + 2 ≤ 2 ^ 44) (l3 : (digs B64 y).length + 2 ≤ 2 ^ 44) :
    Calls pr dyadic_long_id #[.agg (c3 n s e), .agg (c3 m t e')] w fun en w' => Ahead w w' ∧ DAT (SumP (sg n x) e (sg m y) e') T en w' := by
  unfold far at he he'
  have hv : ∀ b, b ≤ e' → dv (sg n x) e b = sg n (x * 2 ^ (e - e').toNat) * ((2 ^ (e' - b).toNat : Nat) : Int) := fun b hb => dv_hi hge hb
  have fin : ∀ (neg : Bool) (X : Nat) (w1 : World) (u : Slc), Ahead w w1 → Num w1 u X → sg neg X = sg n (x * 2 ^ (e - e').toNat) + sg m y →
      Calls pr dyadic_told_id #[.agg (c2 neg u), .int .i64 e'] w1 fun e4 w6 => ∃ b1 : Bool, ∃ s3 : Slc, ∃ x2 : Int, ∃ x3 : Int, e4 = .returned (Value.tuple #[Value.agg #[Value.bool b1, s3.v, Value.int .i64 x2], Value.int .i64 x3]) ∧ Ahead w1 w6 ∧
        (∀ w7, Ext w6 w7 → Ahead w w7 → DAT (SumP (sg n x) e (sg m y) e') T (.returned (Value.tuple #[Value.agg #[Value.bool b1, s3.v, Value.int .i64 x2], Value.int .i64 x3])) w7) := by
    intro neg X w1 u a1 hu hX
    refine Calls.mono (told_anT (P := SumP (sg n x) e (sg m y) e') (hT.ahead a1) hu (by omega) ?_ ht) ?_
    · intro b h0 h1 h2
      refine Vl.told h2 h0 ?_
      rw [hv b h2]
      show sg neg X * _ = _ + sg m y * _
      rw [← Int.add_mul, ← hX]
    · rintro en w6 ⟨h6, ⟨c, n, s3, E, rfl, hh⟩, hc⟩
      exact ⟨_, _, _, _, rfl, h6, fun w7 X7 a7 => DAT.ext ⟨⟨c, n, s3, E, rfl, hh⟩, hc⟩ X7⟩
  generalize hA : x * 2 ^ (e - e').toNat = A at *
  refine dyadic_long_v2 n s e m t e' w _ fun w1 X1 a1 => ?_
  rw [wrap_i64 (by omega) (by omega), show e - e' = ((e - e').toNat : Int) by omega]
  refine Calls.mono (dleft_spec (r.ahead a1) l1) ?_
  rw [hA]
  rintro en w2 ⟨h2, u, rfl, ou⟩
  have a2 := a1.trans h2
  have nu : Num w2 u A := ⟨_, ou.rd, by omega, ok_digs two64 _, val_digs two64 _⟩
  have nt : Num w2 t y := ⟨_, r'.ahead a2, by omega, ok_digs two64 _, val_digs two64 _⟩
  refine ⟨_, rfl, h2, br_intro (fun hs => ?_) (fun hs => fun w12 X12 a12 => ?_)⟩
  · have hs' : m = !n := by
      have : ¬ n = m := by simpa using hs
      revert this
      cases n <;> cases m <;> simp
    refine Calls.mono (cmp_num nu nt) ?_
    rintro en w3 ⟨h3, rfl⟩
    refine ⟨_, rfl, h3, br_intro (fun hl => fun w4 X4 a4 => ?_) (fun hl => fun w8 X8 a8 => ?_)⟩
    · have hlt : A < y := cmpI_neg.1 (of_decide_eq_true hl)
      refine Calls.mono (minus_spec (r'.ahead a4) ((ou.ahead h3).ext X4).rd (by omega) (by omega)) ?_
      rintro en w5 ⟨h5, v, rfl, ov⟩
      have lm := len_mono two64 (Nat.sub_le y A)
      exact ⟨_, rfl, h5, fin _ (y - A) w5 v (a4.trans h5) ⟨_, ov.rd, by omega, ok_digs two64 _, val_digs two64 _⟩ (by rw [hs', sg_sub (by omega), sg_not, sg_not]; omega)⟩
    · have hlt : ¬ A < y := fun h => by have := of_decide_eq_false hl; exact this (cmpI_neg.2 h)
      refine Calls.mono (minus_spec ((ou.ahead h3).ext X8).rd (r'.ahead a8) (by omega) (by omega)) ?_
      rintro en w5 ⟨h5, v, rfl, ov⟩
      have lm := len_mono two64 (Nat.sub_le A y)
      exact ⟨_, rfl, h5, fin _ (A - y) w5 v (a8.trans h5) ⟨_, ov.rd, by omega, ok_digs two64 _, val_digs two64 _⟩ (by rw [hs', sg_sub (by omega), sg_not]; omega)⟩
  · have hs' : m = n := by
      have : ¬ ¬ n = m := by simpa using hs
      revert this
      cases n <;> cases m <;> simp
    refine Calls.mono (plus_spec (ou.ext X12).rd (r'.ahead a12) (by omega) (by omega)) ?_
    rintro en w5 ⟨h5, v, rfl, ov⟩
    have lm := Ref.digs_add_len two64 (x := A) (y := y) (k := 2 ^ 44 - 2) (by omega) (by omega)
    exact ⟨_, rfl, h5, fin _ (A + y) w5 v (a12.trans h5) ⟨_, ov.rd, by omega, ok_digs two64 _, val_digs two64 _⟩ (by rw [hs', sg_add])⟩

/-- Odd and not too long. -/
def Gd (n : Nat) : Prop := (n = 0 ∨ n % 2 = 1) ∧ bl n ≤ 67108864
set_option maxHeartbeats 1000000 in
theorem sum_T {w : World} {s t : Slc} {n m : Bool} {x y : Nat} {e e' : Int} (hT : Tab w) (r : Rd .u64 w s (nn (digs B64 x))) (r' : Rd .u64 w t (nn (digs B64 y))) (he : far e) (he' : far e')
    (l : (digs B64 x).length + 2 ≤ 2 ^ 44) (l' : (digs B64 y).length + 2 ≤ 2 ^ 44) :
    Calls pr dyadic_sum_id #[.agg (c3 n s e), .agg (c3 m t e')] w fun en w' => Ahead w w' ∧ DAT (SumP (sg n x) e (sg m y) e') (Gd x ∧ Gd y ∧ AllTold (SumP (sg n x) e (sg m y) e')) en w' := by
  refine dyadic_sum_v2 n s e m t e' w _
    (fun n2 s2 e2 n3 s3 e3 _ _ _ w' => SI (sg n x) e (sg m y) e' n2 s2 e2 n3 s3 e3 w' fun a c => (Gd x ∧ Gd y → Gd a ∧ Gd c) ∧ (c ≠ 0 → a ≠ 0))
    (fun n2 s2 e2 n3 s3 e3 _ _ _ w' => e3 ≤ e2 ∧ SI (sg n x) e (sg m y) e' n2 s2 e2 n3 s3 e3 w' fun a c => (Gd x ∧ Gd y → Gd a ∧ Gd c) ∧ c ≠ 0 ∧ a ≠ 0)
    (fun g n2 s2 e2 n3 s3 e3 _ _ _ w' => g = e2 - e3 ∧ e3 ≤ e2 ∧ SI (sg n x) e (sg m y) e' n2 s2 e2 n3 s3 e3 w' fun a _ => (digs B64 a).length + (e2 - e3).toNat / 64 + 1 ≤ 2 ^ 44 ∧ (digs B64 (a * 2 ^ (e2 - e3).toNat)).length + 2 ≤ 2 ^ 44)
    (fun c n2 s2 e2 n3 s3 e3 _ _ _ n7 s7 w' => e3 ≤ e2 ∧ SI (sg n x) e (sg m y) e' n2 s2 e2 n3 s3 e3 w' fun a _ => (digs B64 a).length + (e2 - e3).toNat / 64 + 1 ≤ 2 ^ 44 ∧ (digs B64 (a * 2 ^ (e2 - e3).toNat)).length + 2 ≤ 2 ^ 44 ∧
      (c = 0 → Rd .u64 w' s7 (nn (digs B64 (a * 2 ^ (e2 - e3).toNat))) ∧ sg n7 (a * 2 ^ (e2 - e3).toNat) = sg n2 (a * 2 ^ (e2 - e3).toNat))) ?_ ?_ ?_ ?_ ?_
  · intro w1 X1 a1
    refine Calls.mono (part_sign_spec (num_of_digs (r.ahead a1) l)) ?_
    rintro en w2 ⟨h2, rfl⟩
    have a2 := a1.trans h2
    refine ⟨_, rfl, h2, br_intro (fun hz => fun w3 X3 a3 => ?_) (fun hz => ?_)⟩
    · exact ⟨y, x, r'.ahead a3, r.ahead a3, l', l, he', he, fun Z E h => h.swap, fun g => ⟨g.2, g.1⟩, fun q => absurd (sgn_zero_iff.1 (eq_of_beq hz)) q⟩
    · exact ⟨x, y, r.ahead a2, r'.ahead a2, l, l', he, he', fun Z E h => h, fun g => g, fun _ q => by rw [q] at hz; simp [sgn] at hz⟩
  · rintro n2 s2 e2 n3 s3 e3 _ _ _ w1 a1 ⟨a, c, ra, rc, la, lc, fa, fc, hs, hG, hz0⟩
    refine Calls.mono (part_sign_spec (num_of_digs rc lc)) ?_
    rintro en w2 ⟨h2, rfl⟩
    have hnz : ∀ {b : Bool}, b = false → (b = (sgn n3 c == 0)) → c ≠ 0 := fun h h' q => by rw [h] at h'; subst q; simp [sgn] at h'
    refine ⟨_, rfl, h2, br_intro (fun hz => ?_) (fun hz => br_intro (fun hlt => fun w3 X3 a3 => ?_) (fun hlt => ?_))⟩
    · have hc : c = 0 := sgn_zero_iff.1 (eq_of_beq hz)
      subst hc
      unfold far at fa
      refine Calls.mono (told_anT (P := SumP (sg n x) e (sg m y) e') (T := Gd x ∧ Gd y ∧ AllTold (SumP (sg n x) e (sg m y) e')) (hT.ahead (a1.trans h2)) (num_of_digs (ra.ahead h2) la) (by omega) (hs _ _ ?_) (fun q => q.2.2)) ?_
      · intro b h0 h1 h2
        refine Vl.told h1 h0 ?_
        rw [sg_zero, dv_zero, Int.add_zero]
      · rintro en w6 ⟨h6, ⟨c, n, s3, E, rfl, hh⟩, hcd⟩
        exact ⟨_, _, _, _, rfl, h6, fun w7 X7 a7 => DAT.ext ⟨⟨c, n, s3, E, rfl, hh⟩, hcd⟩ X7⟩
    · exact ⟨by have := of_decide_eq_true hlt; omega, c, a, (rc.ahead h2).ext X3, (ra.ahead h2).ext X3, lc, la, fc, fa, fun Z E h => hs Z E h.swap, fun g => ⟨(hG g).2, (hG g).1⟩, hz0 (hnz hz rfl), hnz hz rfl⟩
    · exact ⟨by have := of_decide_eq_false hlt; omega, a, c, ra.ahead h2, rc.ahead h2, la, lc, fa, fc, hs, hG, hnz hz rfl, hz0 (hnz hz rfl)⟩
  · rintro n2 s2 e2 n3 s3 e3 _ _ _ w1 a1 ⟨hge, a, c, ra, rc, la, lc, fa, fc, hs, hG, hcz, haz⟩
    have ba := (num_of_digs ra la).bl
    have bc := (num_of_digs rc lc).bl
    have fa0 := fa
    have fc0 := fc
    unfold far at fa fc
    rw [wrap_i64 (x := e2 - e3) (by omega) (by omega)]
    refine br_intro (fun hg => fun w2 X2 a2 => ?_) (fun hg => fun w2 X2 a2 => ?_)
    · refine Calls.mono (number_top_spec (num_of_digs (ra.ext X2) la) (by omega)) ?_
      rintro en w3 ⟨h3, rfl⟩
      refine ⟨_, rfl, h3, Calls.mono (number_top_spec (num_of_digs ((rc.ext X2).ahead h3) lc) (by omega)) ?_⟩
      rintro en w4 ⟨h4, rfl⟩
      refine ⟨_, rfl, h4, ?_⟩
      rw [wrap_i64 (x := e3 + (bl c : Int) - 1 + 1) (by omega) (by omega), wrap_i64 (x := maxI _ _ - e3) (by unfold maxI; split <;> omega) (by unfold maxI; split <;> omega)]
      refine br_intro (fun hb => fun w5 X5 a5 => ⟨DAns.no (by omega), fun q => ?_⟩) (fun hb => ?_)
      · obtain ⟨⟨ga1, ga2⟩, gc1, gc2⟩ := hG ⟨q.1, q.2.1⟩
        have hb' := of_decide_eq_true hb
        have hg' := of_decide_eq_true hg
        have hka : 67108864 + 2 < (e2 - e3).toNat + bl a - 1 := by unfold maxI at hb'; split at hb' <;> omega
        obtain ⟨o1, o2⟩ := too_long (n := n2) (m := n3) haz (by omega) (by omega) gc2 hka
        have := (q.2.2.of hs) _ _ (show SumP (sg n2 a) e2 (sg n3 c) e3 _ _ from fun b h0 h1 h2 => Vl.told' h2 h0 (by rw [dv_add, dv_hi hge h2]; rfl))
        rw [sg_abs, o1] at this
        omega
      have hb' := of_decide_eq_false hb
      have hroom : (e2 - e3).toNat + bl a ≤ 67108867 := by unfold maxI at hb'; split at hb' <;> omega
      have sl := shl_len hroom
      exact ⟨rfl, hge, a, c, ((ra.ext X2).ahead h3).ahead h4, ((rc.ext X2).ahead h3).ahead h4, la, lc, fa0, fc0, hs, by omega, by omega⟩
    · have hg' := of_decide_eq_false hg
      have h0 : (e2 - e3).toNat = 0 := by omega
      exact ⟨rfl, hge, a, c, ra.ext X2, rc.ext X2, la, lc, fa0, fc0, hs, by rw [h0]; omega, by rw [h0, Nat.pow_zero, Nat.mul_one]; exact la⟩
  · rintro g n2 s2 e2 n3 s3 e3 _ _ _ w1 a1 ⟨rfl, hge, a, c, ra, rc, la, lc, fa, fc, hs, l1, l2⟩
    intro w2 X2 a2
    obtain ⟨k, hk⟩ : ∃ k : Nat, e2 - e3 = (k : Int) := ⟨(e2 - e3).toNat, by omega⟩
    have hk' : (e2 - e3).toNat = k := by omega
    rw [hk'] at l1 l2
    rw [hk', hk]
    refine Calls.mono (dleft_spec (ra.ext X2) l1) ?_
    rintro en w3 ⟨h3, u, rfl, ou⟩
    refine ⟨_, rfl, h3, fun w4 X4 a4 => ?_⟩
    refine Calls.mono (wMake_spec (neg := n2) (num_of_digs (ou.ext X4).rd l2)) ?_
    rintro en w5 ⟨h5, v, rfl, ov⟩
    refine ⟨_, _, _, rfl, h5, fun w6 X6 a6 => ?_⟩
    have XX := (X2.trans h3.ext).trans (X4.trans (h5.ext.trans X6))
    refine ⟨hge, a, c, ra.ext XX, rc.ext XX, la, lc, fa, fc, hs, l1, l2, fun hc => ?_⟩
    rw [if_pos hc] at ov
    rw [if_pos hc]
    refine ⟨(ov.ext X6).rd, ?_⟩
    generalize a * 2 ^ k = A
    by_cases h : A = 0
    · rw [h, sg_zero, sg_zero]
    · rw [nD_ne h]
  · rintro cd n2 s2 e2 n3 s3 e3 _ _ _ n7 s7 w1 a1 ⟨hge, a, c, ra, rc, la, lc, fa, fc, hs, l1, l2, h7⟩
    have lng : ∀ w2, Ext w1 w2 → Ahead w w2 → Calls pr dyadic_long_id #[.agg (c3 n2 s2 e2), .agg (c3 n3 s3 e3)] w2 fun e8 w14 => ∃ b3 : Bool, ∃ s4 : Slc, ∃ x8 : Int, ∃ x9 : Int, e8 = .returned (Value.tuple #[Value.agg #[Value.bool b3, s4.v, Value.int .i64 x8], Value.int .i64 x9]) ∧ Ahead w2 w14 ∧
        (∀ w15, Ext w14 w15 → Ahead w w15 → DAT (SumP (sg n x) e (sg m y) e') (Gd x ∧ Gd y ∧ AllTold (SumP (sg n x) e (sg m y) e')) (.returned (Value.tuple #[Value.agg #[Value.bool b3, s4.v, Value.int .i64 x8], Value.int .i64 x9])) w15) := by
      intro w2 X2 a2
      refine Calls.mono (long_T (T := AllTold (SumP (sg n x) e (sg m y) e')) (hT.ahead a2) (fun q => q.of hs) (ra.ext X2) (rc.ext X2) hge fa fc l1 l2 lc) ?_
      rintro en w6 ⟨h6, ⟨c, n, s3, E, rfl, hh⟩, hcd⟩
      exact ⟨_, _, _, _, rfl, h6, fun w7 X7 a7 => DAT.mono (DAT.ext ⟨⟨c, n, s3, E, rfl, hh⟩, hcd⟩ X7) hs (fun q => q.2.2)⟩
    refine br_intro (fun hc => lng w1 (Ext.refl _) a1) (fun hc => ?_)
    have hc' : cd = 0 := by simpa using hc
    obtain ⟨r7, sg7⟩ := h7 hc'
    refine Calls.mono (wAdd_spec (num_of_digs r7 l2) (num_of_digs rc lc)) ?_
    rintro en w2 ⟨h2, c2', ng, u, rfl, hu⟩
    refine ⟨_, _, _, rfl, h2, br_intro (fun hx => fun w3 X3 a3 => lng w3 (h2.ext.trans X3) a3) (fun hx => fun w3 X3 a3 => ?_)⟩
    obtain ⟨rfl, hb, ru⟩ := hu (by simpa using hx)
    have hl := digs_len_bl (m := 2 ^ 20) (show bl (sg n7 (a * 2 ^ (e2 - e3).toNat) + sg n3 c).natAbs ≤ 64 * 2 ^ 20 by omega)
    unfold far at fc
    refine Calls.mono (told_anT (P := SumP (sg n x) e (sg m y) e') (T := Gd x ∧ Gd y ∧ AllTold (SumP (sg n x) e (sg m y) e')) (hT.ahead a3) (num_of_digs (ru.ext X3) (by omega)) (by omega) (hs _ _ ?_) (fun q => q.2.2)) ?_
    · intro b h0 h1 h2
      refine Vl.told' h2 h0 ?_
      rw [dv_add, sg7, dv_hi hge h2]; rfl
    · rintro en w6 ⟨h6, ⟨c, n, s3, E, rfl, hh⟩, hcd⟩
      exact ⟨_, _, _, _, rfl, h6, fun w7 X7 a7 => DAT.ext ⟨⟨c, n, s3, E, rfl, hh⟩, hcd⟩ X7⟩
theorem odz (x : Nat) : od x = 0 ∨ od x % 2 = 1 := by
  by_cases h : x = 0
  · exact .inl (by rw [h, od_zero])
  · exact .inr (od_odd h)
theorem twC_ok {e e' : Int} (h : wi e) (h' : wi e') : twC e e' = 0 := by unfold twC; rw [if_pos h, if_pos h']
theorem Add_T {w : World} {neg neg' : Bool} {s s' : Slc} {x x' : Nat} {e e' : Int} (hT : Tab w) (h : Num w s x) (h' : Num w s' x') (hl : (digs B64 x).length + 2 ≤ 2 ^ 44) (hl' : (digs B64 x').length + 2 ≤ 2 ^ 44) :
    Calls pr dyadic_Add_id #[.agg (c3 neg s e), .agg (c3 neg' s' e')] w fun en w' => Ahead w w' ∧ DAT (fun Z E => wi e ∧ wi e' ∧ SumP (vz neg x) (eD x e) (vz neg' x') (eD x' e') Z E) (wi e ∧ wi e' ∧ bl x ≤ 67108864 ∧ bl x' ≤ 67108864 ∧ AllTold (SumP (vz neg x) (eD x e) (vz neg' x') (eD x' e'))) en w' := by
  refine dyadic_Add_v2 neg s e neg' s' e' w _ fun w1 X1 a1 => Calls.mono (two_spec (hT.ahead a1) (h.ahead a1) (h'.ahead a1)) ?_
  rintro en w2 ⟨h2, b1, s1, x1, b2, s2, x2, rfl, hh⟩
  refine ⟨_, _, _, _, _, _, _, rfl, h2, br_intro (fun hc => fun w3 X3 a3 => ⟨DAns.no (by simpa using hc), fun q => absurd (twC_ok q.1 q.2.1) (by simpa using hc)⟩) (fun hc => fun w4 X4 a4 => ?_)⟩
  have hc' : twC e e' = 0 := by simpa using hc
  obtain ⟨rfl, rfl, rfl, rfl, o1, o2⟩ := hh hc'
  obtain ⟨hw, hw'⟩ := twC_zero hc'
  have l1 := len_mono two64 (od_le x)
  have l2 := len_mono two64 (od_le x')
  refine Calls.mono (sum_T (hT.ahead a4) (o1.ext X4).rd (o2.ext X4).rd (far_eD h hw) (far_eD h' hw') (by omega) (by omega)) ?_
  rintro en w6 ⟨h6, ⟨c, n, s3, E, rfl, hh⟩, hcd⟩
  exact ⟨_, _, _, _, rfl, h6, fun w7 X7 a7 => DAT.mono (DAT.ext ⟨⟨c, n, s3, E, rfl, hh⟩, hcd⟩ X7) (fun Z E q => ⟨hw, hw', q⟩) fun q => ⟨⟨odz x, Nat.le_trans (bl_mono (od_le x)) q.2.2.1⟩, ⟨odz x', Nat.le_trans (bl_mono (od_le x')) q.2.2.2.1⟩, q.2.2.2.2⟩⟩
end Dp
end Go.Proofs.YtahbekmnphkiiaaDoor
namespace Go.Proofs.YtahbekmnphkiiaaDoor
open Go Go.RowKit Eng Sp Dg L2
set_option linter.unusedVariables false
set_option linter.unusedSimpArgs false
set_option maxRecDepth 100000
namespace Dp
open _root_.Go.Proofs.YtahbekmnphkiiaaDoor.Nat (Num Num.ahead Num.ext)
open Sb Dy Dl

/-- A sum from 0 on. -/
def sumZ (f : Nat → Int) : Nat → Int
  | 0 => 0
  | n + 1 => sumZ f n + f n
theorem sumZ_congr {f g : Nat → Int} : ∀ {n : Nat}, (∀ i, i < n → f i = g i) → sumZ f n = sumZ g n
  | 0, _ => rfl
  | n + 1, h => by
    show sumZ f n + f n = sumZ g n + g n
    rw [sumZ_congr (fun i hi => h i (by omega)), h n (by omega)]
theorem sumZ_front (f : Nat → Int) : ∀ n, sumZ f (n + 1) = f 0 + sumZ (fun i => f (i + 1)) n
  | 0 => by show 0 + f 0 = f 0 + 0; omega
  | n + 1 => by
    show sumZ f (n + 1) + f (n + 1) = f 0 + (sumZ (fun i => f (i + 1)) n + f (n + 1))
    rw [sumZ_front f n]; omega
theorem sumZ_rev (f : Nat → Int) : ∀ n, sumZ (fun i => f (n - 1 - i)) n = sumZ f n
  | 0 => rfl
  | n + 1 => by
    rw [sumZ_front]
    show f (n + 1 - 1 - 0) + sumZ (fun i => f (n + 1 - 1 - (i + 1))) n = sumZ f n + f n
    have : sumZ (fun i => f (n + 1 - 1 - (i + 1))) n = sumZ (fun i => f (n - 1 - i)) n := sumZ_congr fun i hi => by
      show f _ = f _
      rw [show n + 1 - 1 - (i + 1) = n - 1 - i by omega]
    rw [this, sumZ_rev f n, show n + 1 - 1 - 0 = n by omega]; omega
/-- Horner's value after k steps, in steps of 2^(k F). -/
def hor (F : Int) (z e : Nat → Int) (zx ex : Int) (n : Nat) : Nat → Int
  | 0 => 0
  | k + 1 => hor F z e zx ex n k * dv zx ex F + dv (z (n - 1 - k)) (e (n - 1 - k)) (((k + 1 : Nat) : Int) * F)
theorem hor_add {F : Int} {z e z' e' u f : Nat → Int} {zx ex : Int} {n : Nat} (h : ∀ i, i < n → ∀ b, b ≤ F → dv (u i) (f i) b = dv (z i) (e i) b + dv (z' i) (e' i) b) (hF : F ≤ 0) :
    ∀ k, k ≤ n → hor F u f zx ex n k = hor F z e zx ex n k + hor F z' e' zx ex n k
  | 0, _ => rfl
  | k + 1, hk => by
    have hb : ((k + 1 : Nat) : Int) * F ≤ F := by
      have : ((k + 1 : Nat) : Int) * F = (k : Int) * F + F := by rw [Int.natCast_add, Int.add_mul]; simp
      have h2 : (k : Int) * F ≤ 0 := Int.mul_nonpos_of_nonneg_of_nonpos (by omega) hF
      omega
    show hor F u f zx ex n k * _ + _ = (hor F z e zx ex n k * _ + _) + (hor F z' e' zx ex n k * _ + _)
    rw [hor_add h hF k (by omega), h (n - 1 - k) (by omega) _ hb, Int.add_mul]
    omega
/-- A dyadic in memory and the number that it means. -/
def El (w : World) (d : DY) (z e : Int) : Prop := ∃ X, Num w d.s X ∧ (digs B64 X).length + 16 ≤ 2 ^ 44 ∧ vz d.n X = z ∧ eD X d.e = e
theorem El.ahead {w w' : World} {d : DY} {z e : Int} (h : El w d z e) (a : Ahead w w') : El w' d z e := by
  obtain ⟨X, h1, h2⟩ := h; exact ⟨X, h1.ahead a, h2⟩
theorem El.rd {w w' : World} {d : DY} {z e : Int} (h : El w d z e) (a : ∀ s l, Rd .u64 w s l → Rd .u64 w' s l) : El w' d z e := by
  obtain ⟨X, ⟨l, r, h1⟩, h2⟩ := h; exact ⟨X, ⟨l, a _ _ r, h1⟩, h2⟩
/-- An answer that was taken, as a dyadic in memory. -/
theorem El.got {P : Int → Int → Prop} {w : World} {n : Bool} {s : Slc} {E : Int} (h : Got P w 0 n s E) : ∃ z, El w ⟨n, s, E⟩ z E ∧ P z E ∧ NZ z E ∧ bl z.natAbs ≤ 67108864 ∧ wi E := by
  obtain ⟨z, h1, h2, h3, h4, h5, h6⟩ := h rfl
  obtain ⟨q1, q2⟩ := vz_ans h4
  have l := small_digs h2
  refine ⟨z, ⟨z.natAbs, ⟨_, h5, by omega, ok_digs two64 _, val_digs two64 _⟩, by omega, ?_, q2⟩, h6, h4, h2, h3⟩
  show vz n z.natAbs = z
  rw [h1]; exact q1
theorem El.zero (w : World) : El w zDY 0 0 := ⟨0, ⟨[], Rd.nil, by simp, ok_nil, rfl⟩, by rw [digs_zero]; simp, by unfold vz nD; simp [od_zero, sg], eD_zero 0⟩
/-- A list of dyadics and their numbers. -/
structure Ls (w : World) (s : Slc) (ys : List DY) (z e : Nat → Int) : Prop where
  r : RL w s ys
  el : ∀ i, i < ys.length → El w (ys.getD i zDY) (z i) (e i)
end Dp
end Go.Proofs.YtahbekmnphkiiaaDoor
