/- What the law leans on, part 3. No condition. -/
import Derived.Test.YtflipimlpgbnmaaZFuelParses2
namespace Go.Proofs.Ytflipimlpgbnmaa
open Go Go.RowKit Eng Sp Dg
set_option linter.unusedVariables false
set_option linter.unusedSimpArgs false
set_option maxRecDepth 100000
namespace Sb
open _root_.Go.Proofs.Ytflipimlpgbnmaa.Nat (OwnNil)
open _root_.Go.Proofs.Ytflipimlpgbnmaa.Mul (Only Off)

/-- The block's cells. -/
def Blk (w : World) (b : Nat) (cs : Array Value) : Prop := ∃ t, w.heap[b]? = some (.cells cs t (0, 0))
theorem Blk.lt {w : World} {b : Nat} {cs : Array Value} (h : Blk w b cs) : b < w.heap.size := by
  obtain ⟨t, h⟩ := h; exact (Array.getElem?_eq_some_iff.1 h).1
theorem Blk.ahead {w w' : World} {b : Nat} {cs : Array Value} (h : Blk w b cs) (ha : Ahead w w') : Blk w' b cs := by
  have hl := h.lt
  obtain ⟨t, h⟩ := h; exact ⟨t, by rw [Below.block ha b hl]; exact h⟩
theorem Blk.only {w w' : World} {b k : Nat} {cs : Array Value} (h : Blk w b cs) (ho : Only k w w') (hne : b ≠ k) : Blk w' b cs := by
  obtain ⟨t, h⟩ := h; exact ⟨t, by rw [ho.2.2.2.2 b hne]; exact h⟩
theorem Blk.cell {w : World} {b i : Nat} {cs : Array Value} {v : Value} (h : Blk w b cs) (hc : cs[i]? = some v) : w.cell? ⟨b, i, none⟩ = some v := by
  obtain ⟨t, h⟩ := h
  simp [World.cell?, h, hc]

theorem newC_b {w : World} {cs : Array Value} {t : TypeId} {K : Addr → World → Prop} (h : ∀ b w', b = w.heap.size → Ahead w w' → w'.heap.size = b + 1 → Blk w' b cs → K ⟨b, 0, none⟩ w') : newC w cs t K :=
  h _ _ rfl (Ahead.alloc _ _) (size_alloc _ _) ⟨t, get_alloc _ _⟩

/-- Nothing but the block, which holds no limb, has changed. -/
structure Upd (b : Nat) (w w' : World) : Prop where
  only : Only b w w'
  rd : ∀ s l, Rd .u64 w s l → Rd .u64 w' s l
theorem Upd.trans {b : Nat} {w w' w'' : World} (h : Upd b w w') (h' : Upd b w' w'') : Upd b w w'' := ⟨h.only.trans h'.only, fun s l hr => h'.rd s l (h.rd s l hr)⟩
theorem Upd.ahead {b : Nat} {w0 w w' : World} (h : Upd b w w') (ha : Ahead w0 w) (hb : w0.heap.size ≤ b) : Ahead w0 w' := h.only.ahead ha hb
theorem Upd.size {b : Nat} {w w' : World} (h : Upd b w w') : w'.heap.size = w.heap.size := h.only.2.2.2.1
theorem Upd.own {b base : Nat} {w w' : World} (h : Upd b w w') {s : Slc} {l : List Nat} (hr : OwnNil base w s l) (ho : b < base) : OwnNil base w' s l := h.only.ownNil hr ho
theorem Upd.blk {b k : Nat} {w w' : World} {cs : Array Value} (h : Upd k w w') (hr : Blk w b cs) (hne : b ≠ k) : Blk w' b cs := hr.only h.only hne
theorem Upd.cell {b : Nat} {w w' : World} (h : Upd b w w') {ad : Addr} {v : Value} (hne : ad.block ≠ b) (hc : w.cell? ad = some v) : w'.cell? ad = some v := by
  rw [World.cell?_of_block (h.only.2.2.2.2 _ hne)]; exact hc

def noU (cs : Array Value) : Bool := cs.toList.all fun v => match v with
  | .int .u64 _ => false
  | _ => true
theorem off_blk {w : World} {b : Nat} {cs : Array Value} {s : Slc} {l : List Int} (h : Blk w b cs) (hn : noU cs = true) (hr : Rd .u64 w s l) : Off b s := by
  intro ad e hp hb
  obtain ⟨ad', e', hc⟩ := hr.get 0 (by have := hr.n; omega)
  rw [e] at e'
  obtain rfl := Option.some.inj e'
  obtain ⟨t, h⟩ := h
  have hadd : ad.add 0 = ad := by simp [Addr.add]
  rw [hadd, World.cell?, hb, h] at hc
  simp only at hc
  split at hc
  · cases hc
  · have hm := Array.mem_of_getElem? hc
    unfold noU at hn
    have := List.all_eq_true.1 hn _ (Array.mem_toList_iff.2 hm)
    simp at this

theorem stC_b (i : Nat) {w : World} {b : Nat} {cs : Array Value} {ad : Addr} {v : Value} {K : World → Prop} (h : Blk w b cs) (hi : i < cs.size) (hn : noU cs = true)
    (hk : ∀ w', Upd b w w' → Blk w' b (cs.setIfInBounds i v) → K w') (hA : ad = ⟨b, i, none⟩ := by first | rfl | exact add_off) : stC ad v w K := by
  subst hA
  obtain ⟨t, hh⟩ := h
  have ho : Only b w (w.setCell ⟨b, i, none⟩ v) := Only.setCell b i w v
  refine ⟨⟨cs[i], by simp [World.cell?, hh, hi]⟩, by simp [World.frozen?, hh], hk _ ⟨ho, fun s l hr => ho.rd hr (off_blk ⟨t, hh⟩ hn hr)⟩ ⟨t, ?_⟩⟩
  have hlt := (Array.getElem?_eq_some_iff.1 hh).1
  have hget := (Array.getElem?_eq_some_iff.1 hh).2
  simp [World.setCell, Array.getElem?_modify, hh]

abbrev c3 (x : Bool) (s : Slc) (e : Int) : Array Value := #[.bool x, s.v, .int .i64 e]
abbrev c2 (x : Bool) (s : Slc) : Array Value := #[.bool x, s.v]

end Sb
end Go.Proofs.Ytflipimlpgbnmaa
namespace Go.Proofs.Ytflipimlpgbnmaa
open Go Go.RowKit Eng Sp Dg
set_option linter.unusedVariables false
set_option linter.unusedSimpArgs false
set_option maxRecDepth 100000
namespace Fuel
open _root_.Go.Proofs.Ytflipimlpgbnmaa.Nat (Yes num_spec end_awake Num Num.ahead Num.bl OwnNil OwnNil.rd OwnNil.ahead OwnI OwnI.rd OwnI.ahead OwnI.mono atts tw tw_length atts_le atts_lt pow16 Attempts_spec alike_spec Norm_spec Add_spec bigC)

open Sb

theorem cutLoG {k : IntKind} {t e : TypeId} (hT : isSl pr t k = some e) {w : World} {s : Slc} {h : Int} (h0 : 0 ≤ h) (h1 : h ≤ s.n) {K : Slc → World → Prop} (hk : K ⟨if s.c = h.toNat then s.A else s.A.map (·.add h.toNat), s.n - h.toNat, s.c - h.toNat⟩ w) :
    semS pr (Instr.sliceAt t s.v (some (.int .i64 h)) none none) w fun s' w' => K s' w' := by
  unfold semS; rw [Sem.wp_iff_run, run_slice_lo hT w s h0 h1]; exact ⟨_, rfl, hk⟩

/-- The meter lies in block b: its fuel is N, k attempts have been told. -/
def Mt (w : World) (b : Nat) (N k : Nat) : Prop := ∃ s : Slc, Blk w b #[s.v, .int .i64 (k : Int), .bool true] ∧ Num w s N
theorem Mt.ahead {w w' : World} {b N k : Nat} (h : Mt w b N k) (ha : Ahead w w') : Mt w' b N k := by
  obtain ⟨s, h1, h2⟩ := h; exact ⟨s, h1.ahead ha, h2.ahead ha⟩
theorem Mt.lt {w : World} {b N k : Nat} (h : Mt w b N k) : b < w.heap.size := by obtain ⟨s, h1, _⟩ := h; exact h1.lt
/-- Only the meter's block, and new memory. -/
structure Stp (b : Nat) (w w' : World) : Prop where
  bar : Bar (fun k => k = b) w w'
  rd : ∀ s l, Rd .u64 w s l → Rd .u64 w' s l
theorem Stp.of_ahead {b : Nat} {w w' : World} (h : Ahead w w') : Stp b w w' := ⟨Bar.of_ahead h, fun _ _ hr => hr.ahead h⟩
theorem Stp.trans {b : Nat} {x y z : World} (h : Stp b x y) (k : Stp b y z) : Stp b x z := ⟨h.bar.trans k.bar, fun s l hr => k.rd s l (h.rd s l hr)⟩
theorem Stp.ahead {b : Nat} {w0 w w' : World} (h : Stp b w w') (ha : Ahead w0 w) (hb : w0.heap.size ≤ b) : Ahead w0 w' :=
  ⟨h.bar.os.trans ha.os, h.bar.tape.trans ha.tape, h.bar.output.trans ha.output, Nat.le_trans ha.size h.bar.size, fun k hk => (h.bar.block k (Nat.lt_of_lt_of_le hk ha.size) (by omega)).trans (Below.block ha k hk)⟩
theorem Stp.num {b : Nat} {w w' : World} {s : Slc} {N : Nat} (h : Stp b w w') (hn : Num w s N) : Num w' s N := by
  obtain ⟨l, h1, h2⟩ := hn; exact ⟨l, h.rd _ _ h1, h2⟩

def enough (N : Nat) (p : Int) : Prop := 0 < atts N ∧ p ≤ ((64 * 2 ^ (atts N - 1) : Nat) : Int)
instance (N : Nat) (p : Int) : Decidable (enough N p) := inferInstanceAs (Decidable (_ ∧ _))

end Fuel
end Go.Proofs.Ytflipimlpgbnmaa
namespace Go.Proofs.Ytflipimlpgbnmaa
open Go Go.RowKit Eng
set_option linter.unusedVariables false

def numeral_Parse_cut (J0 : ByteArray → Int → Slc → Int → Int → World → Prop) (m0 : ByteArray → Int → Slc → Int → Int → World → Nat) : Nat → Option ((Act → World → Prop) × (Act → World → Nat))
  | 0 => some (fun a_ w_ => atSz a_ 60 (atN a_ 0 fun t0_s => atI .i64 a_ 1 fun t1_base => atS a_ 6 fun t6_l => atI .i64 a_ 19 fun t19 => atI .i64 a_ 20 fun t20 => J0 t0_s t1_base t6_l t19 t20 w_), fun a_ w_ => mN a_ 0 fun t0_s => mI a_ 1 fun t1_base => mS a_ 6 fun t6_l => mI a_ 19 fun t19 => mI a_ 20 fun t20 => m0 t0_s t1_base t6_l t19 t20 w_)
  | _ => none

set_option maxRecDepth 100000 in
/-- surd/numeral.Parse: function 59. -/
theorem numeral_Parse_vc (a0_s : ByteArray) (a1_base : Int) (w : World) (R : Ending → World → Prop)
    (J0 : ByteArray → Int → Slc → Int → Int → World → Prop) (m0 : ByteArray → Int → Slc → Int → Int → World → Nat)
    (h : Calls Try.prog 67 #[Value.int .i64 a1_base] w fun e1 w1 =>
    ∃ b1 : Bool, e1 = .returned (Value.bool b1) ∧
    (br (!b1)
     (R (.returned (Value.tuple #[(⟨none, 0, 0⟩ : Slc).v, Value.int .i64 50])) w1)
     (br (a0_s.toList == (⟨#[]⟩ : ByteArray).toList)
      (R (.returned (Value.tuple #[(⟨none, 0, 0⟩ : Slc).v, Value.int .i64 51])) w1)
      (semS Try.prog (Instr.makeSlice 38 (Value.int .i64 (a0_s.size : Int)) (Value.int .i64 (a0_s.size : Int))) w1 fun s1 w2 =>
       J0 a0_s a1_base s1 (a0_s.size : Int) 0 w2))))
    (h0 : ∀ (t0_s : ByteArray) (t1_base : Int) (t6_l : Slc) (t19 : Int) (t20 : Int) (w_ : World), J0 t0_s t1_base t6_l t19 t20 w_ → 
    br (decide (t20 < t19))
    (semI Try.prog .u8 (Instr.index 9 (Value.string t0_s) (Value.int .i64 t20)) w_ fun x1 w3 =>
     br (decide (x1 ≥ 48))
     (br (decide (x1 ≤ 57))
      (br (decide ((IntKind.i64.wrap (IntKind.u8.wrap (x1 - 48))) ≥ t1_base))
       (R (.returned (Value.tuple #[(⟨none, 0, 0⟩ : Slc).v, Value.int .i64 51])) w3)
       (semA Try.prog (Instr.indexAt 38 t6_l.v (Value.int .i64 t20)) w3 fun ad1 w4 =>
        stC ad1 (Value.int .i64 (IntKind.i64.wrap (IntKind.u8.wrap (x1 - 48)))) w4 fun w5 =>
        J0 t0_s t1_base t6_l t19 (IntKind.i64.wrap (t20 + 1)) w5 ∧
        m0 t0_s t1_base t6_l t19 (IntKind.i64.wrap (t20 + 1)) w5 < m0 t0_s t1_base t6_l t19 t20 w_))
      (br (decide (x1 ≥ 97))
       (br (decide (x1 ≤ 122))
        (br (decide ((IntKind.i64.wrap ((IntKind.i64.wrap (IntKind.u8.wrap (x1 - 97))) + 10)) ≥ t1_base))
         (R (.returned (Value.tuple #[(⟨none, 0, 0⟩ : Slc).v, Value.int .i64 51])) w3)
         (semA Try.prog (Instr.indexAt 38 t6_l.v (Value.int .i64 t20)) w3 fun ad2 w6 =>
          stC ad2 (Value.int .i64 (IntKind.i64.wrap ((IntKind.i64.wrap (IntKind.u8.wrap (x1 - 97))) + 10))) w6 fun w7 =>
          J0 t0_s t1_base t6_l t19 (IntKind.i64.wrap (t20 + 1)) w7 ∧
          m0 t0_s t1_base t6_l t19 (IntKind.i64.wrap (t20 + 1)) w7 < m0 t0_s t1_base t6_l t19 t20 w_))
        (br (decide ((36 : Int) ≥ t1_base))
         (R (.returned (Value.tuple #[(⟨none, 0, 0⟩ : Slc).v, Value.int .i64 51])) w3)
         (semA Try.prog (Instr.indexAt 38 t6_l.v (Value.int .i64 t20)) w3 fun ad3 w8 =>
          stC ad3 (Value.int .i64 36) w8 fun w9 =>
          J0 t0_s t1_base t6_l t19 (IntKind.i64.wrap (t20 + 1)) w9 ∧
          m0 t0_s t1_base t6_l t19 (IntKind.i64.wrap (t20 + 1)) w9 < m0 t0_s t1_base t6_l t19 t20 w_)))
       (br (decide ((36 : Int) ≥ t1_base))
        (R (.returned (Value.tuple #[(⟨none, 0, 0⟩ : Slc).v, Value.int .i64 51])) w3)
        (semA Try.prog (Instr.indexAt 38 t6_l.v (Value.int .i64 t20)) w3 fun ad4 w10 =>
         stC ad4 (Value.int .i64 36) w10 fun w11 =>
         J0 t0_s t1_base t6_l t19 (IntKind.i64.wrap (t20 + 1)) w11 ∧
         m0 t0_s t1_base t6_l t19 (IntKind.i64.wrap (t20 + 1)) w11 < m0 t0_s t1_base t6_l t19 t20 w_))))
     (br (decide (x1 ≥ 97))
      (br (decide (x1 ≤ 122))
       (br (decide ((IntKind.i64.wrap ((IntKind.i64.wrap (IntKind.u8.wrap (x1 - 97))) + 10)) ≥ t1_base))
        (R (.returned (Value.tuple #[(⟨none, 0, 0⟩ : Slc).v, Value.int .i64 51])) w3)
        (semA Try.prog (Instr.indexAt 38 t6_l.v (Value.int .i64 t20)) w3 fun ad5 w12 =>
         stC ad5 (Value.int .i64 (IntKind.i64.wrap ((IntKind.i64.wrap (IntKind.u8.wrap (x1 - 97))) + 10))) w12 fun w13 =>
         J0 t0_s t1_base t6_l t19 (IntKind.i64.wrap (t20 + 1)) w13 ∧
         m0 t0_s t1_base t6_l t19 (IntKind.i64.wrap (t20 + 1)) w13 < m0 t0_s t1_base t6_l t19 t20 w_))
       (br (decide ((36 : Int) ≥ t1_base))
        (R (.returned (Value.tuple #[(⟨none, 0, 0⟩ : Slc).v, Value.int .i64 51])) w3)
        (semA Try.prog (Instr.indexAt 38 t6_l.v (Value.int .i64 t20)) w3 fun ad6 w14 =>
         stC ad6 (Value.int .i64 36) w14 fun w15 =>
         J0 t0_s t1_base t6_l t19 (IntKind.i64.wrap (t20 + 1)) w15 ∧
         m0 t0_s t1_base t6_l t19 (IntKind.i64.wrap (t20 + 1)) w15 < m0 t0_s t1_base t6_l t19 t20 w_)))
      (br (decide ((36 : Int) ≥ t1_base))
       (R (.returned (Value.tuple #[(⟨none, 0, 0⟩ : Slc).v, Value.int .i64 51])) w3)
       (semA Try.prog (Instr.indexAt 38 t6_l.v (Value.int .i64 t20)) w3 fun ad7 w16 =>
        stC ad7 (Value.int .i64 36) w16 fun w17 =>
        J0 t0_s t1_base t6_l t19 (IntKind.i64.wrap (t20 + 1)) w17 ∧
        m0 t0_s t1_base t6_l t19 (IntKind.i64.wrap (t20 + 1)) w17 < m0 t0_s t1_base t6_l t19 t20 w_))))
    (Calls Try.prog 68 #[t6_l.v, Value.int .i64 t1_base] w_ fun e2 w18 =>
     ∃ s2 : Slc, ∃ x2 : Int, e2 = .returned (Value.tuple #[s2.v, Value.int .i64 x2]) ∧
     (R (.returned (Value.tuple #[s2.v, Value.int .i64 x2])) w18))) :
    Calls Try.prog 59 #[Value.string a0_s, Value.int .i64 a1_base] w R := by
  refine calls_of_vc (numeral_Parse_cut J0 m0) (by kernel_rfl) Try.func59 rfl ?_ ?_
  · refine kcast h ?_; kernel_rfl
  · exact (obl_seq rfl (obl_reg (obl_seq rfl (obl_seq rfl (obl_reg (obl_cond (obl_seq rfl (obl_reg (obl_ret (obl_skip (obl_seq rfl (obl_seq rfl (obl_reg (obl_cond (obl_seq rfl (obl_reg (obl_ret (obl_skip (obl_seq rfl (obl_reg (obl_seq rfl (obl_seq rfl (obl_reg (obl_loop _ rfl (fun a_ w_ hL_ => (by
    obtain ⟨hz_, hd_, hL_⟩ := atSz_out hL_
    obtain ⟨t0_s, h0_, hL_⟩ := atN_out hL_
    obtain ⟨t1_base, h1_, hL_⟩ := atI_out hL_
    obtain ⟨t6_l, h6_, hL_⟩ := atS_out hL_
    obtain ⟨t19, h19_, hL_⟩ := atI_out hL_
    obtain ⟨t20, h20_, hL_⟩ := atI_out hL_
    obtain ⟨g0, rfl⟩ : ∃ g, a_ = Fr 60 [(0, Value.string t0_s), (1, Value.int .i64 t1_base), (6, t6_l.v), (19, Value.int .i64 t19), (20, Value.int .i64 t20)] g := ⟨_, fr_of hz_ hd_ [(0, Value.string t0_s), (1, Value.int .i64 t1_base), (6, t6_l.v), (19, Value.int .i64 t19), (20, Value.int .i64 t20)] (sel_cons h0_ (sel_cons h1_ (sel_cons h6_ (sel_cons h19_ (sel_cons h20_ sel_nil)))))⟩
    clear hz_ hd_ h0_ h1_ h6_ h19_ h20_
    have hJ0_ := hL_
    refine ⟨(fun _ => none), kcast (h0 t0_s t1_base t6_l t19 t20 w_ hJ0_) ?_, ?_⟩
    · kernel_rfl
    · exact (obl_seq rfl (obl_reg (obl_seq rfl (obl_cond (obl_skip (obl_exit (obl_seq rfl (obl_blk rfl (obl_seq rfl (obl_reg (obl_seq rfl (obl_reg (obl_seq rfl (obl_seq rfl (obl_reg (obl_blk rfl (obl_seq rfl (obl_reg (obl_cond (obl_reg (obl_seq rfl (obl_reg (obl_cond (obl_reg (obl_skip (obl_seq rfl (obl_seq rfl (obl_reg (obl_cond (obl_seq rfl (obl_reg (obl_ret (obl_skip (obl_reg (obl_reg trivial))))))))))))))))))))))))))))))))))))) (obl_seq rfl (obl_reg (obl_ret trivial)))))))))))))))))))))))))))

set_option maxRecDepth 100000 in
/-- surd/fuel.Parse: function 44. -/
theorem fuel_Parse_vc (a0_s : ByteArray) (w : World) (R : Ending → World → Prop)
    
    (h : br (decide ((a0_s.size : Int) > 1048576))
    (R (.returned (Value.tuple #[(⟨none, 0, 0⟩ : Slc).v, Value.int .i64 1])) w)
    (Calls Try.prog 59 #[Value.string a0_s, Value.int .i64 10] w fun e1 w1 =>
     ∃ s1 : Slc, ∃ x1 : Int, e1 = .returned (Value.tuple #[s1.v, Value.int .i64 x1]) ∧
     (R (.returned (Value.tuple #[s1.v, Value.int .i64 x1])) w1))) :
    Calls Try.prog 44 #[Value.string a0_s] w R := by
  refine calls_of_vc (fun _ => none) (by kernel_rfl) Try.func44 rfl ?_ ?_
  · refine kcast h ?_; kernel_rfl
  · exact (obl_seq rfl (obl_reg (obl_seq rfl (obl_seq rfl (obl_reg (obl_cond (obl_seq rfl (obl_reg (obl_ret (obl_skip (obl_seq rfl (obl_reg (obl_ret trivial)))))))))))))

def surdref06_Digits_cut (J0 : ByteArray → Int → World → Prop) (m0 : ByteArray → Int → World → Nat) : Nat → Option ((Act → World → Prop) × (Act → World → Nat))
  | 0 => some (fun a_ w_ => atSz a_ 23 (atN a_ 0 fun t0_s => atI .i64 a_ 3 fun t3_i => J0 t0_s t3_i w_), fun a_ w_ => mN a_ 0 fun t0_s => mI a_ 3 fun t3_i => m0 t0_s t3_i w_)
  | _ => none

set_option maxRecDepth 100000 in
/-- surd/surdref06.Digits: function 60. -/
theorem surdref06_Digits_vc (a0_s : ByteArray) (w : World) (R : Ending → World → Prop)
    (J0 : ByteArray → Int → World → Prop) (m0 : ByteArray → Int → World → Nat)
    (h : J0 a0_s 0 w)
    (h0 : ∀ (t0_s : ByteArray) (t3_i : Int) (w_ : World), J0 t0_s t3_i w_ → 
    br (decide (t3_i < (t0_s.size : Int)))
    (semI Try.prog .u8 (Instr.index 9 (Value.string t0_s) (Value.int .i64 t3_i)) w_ fun x1 w1 =>
     br (decide (x1 < 48))
     (R (.returned (Value.bool false)) w1)
     (semI Try.prog .u8 (Instr.index 9 (Value.string t0_s) (Value.int .i64 t3_i)) w1 fun x2 w2 =>
      br (decide (x2 > 57))
      (R (.returned (Value.bool false)) w2)
      (J0 t0_s (IntKind.i64.wrap (t3_i + 1)) w2 ∧
       m0 t0_s (IntKind.i64.wrap (t3_i + 1)) w2 < m0 t0_s t3_i w_)))
    (R (.returned (Value.bool (decide ((t0_s.size : Int) > 0)))) w_)) :
    Calls Try.prog 60 #[Value.string a0_s] w R := by
  refine calls_of_vc (surdref06_Digits_cut J0 m0) (by kernel_rfl) Try.func60 rfl ?_ ?_
  · refine kcast h ?_; kernel_rfl
  · exact (obl_seq rfl (obl_reg (obl_seq rfl (obl_seq rfl (obl_reg (obl_loop _ rfl (fun a_ w_ hL_ => (by
    obtain ⟨hz_, hd_, hL_⟩ := atSz_out hL_
    obtain ⟨t0_s, h0_, hL_⟩ := atN_out hL_
    obtain ⟨t3_i, h3_, hL_⟩ := atI_out hL_
    obtain ⟨g0, rfl⟩ : ∃ g, a_ = Fr 23 [(0, Value.string t0_s), (3, Value.int .i64 t3_i)] g := ⟨_, fr_of hz_ hd_ [(0, Value.string t0_s), (3, Value.int .i64 t3_i)] (sel_cons h0_ (sel_cons h3_ sel_nil))⟩
    clear hz_ hd_ h0_ h3_
    have hJ0_ := hL_
    refine ⟨(fun _ => none), kcast (h0 t0_s t3_i w_ hJ0_) ?_, ?_⟩
    · kernel_rfl
    · exact (obl_seq rfl (obl_seq rfl (obl_reg (obl_cond (obl_skip (obl_exit (obl_seq rfl (obl_blk rfl (obl_seq rfl (obl_reg (obl_cond (obl_seq rfl (obl_reg (obl_ret (obl_skip (obl_reg trivial)))))))))))))))))) (obl_seq rfl (obl_reg (obl_ret trivial)))))))))

def surdref06_Number_cut (J0 : ByteArray → Slc → Int → World → Prop) (m0 : ByteArray → Slc → Int → World → Nat) : Nat → Option ((Act → World → Prop) × (Act → World → Nat))
  | 0 => some (fun a_ w_ => atSz a_ 22 (atN a_ 0 fun t0_s => atS a_ 3 fun t3_out => atI .i64 a_ 4 fun t4_i => J0 t0_s t3_out t4_i w_), fun a_ w_ => mN a_ 0 fun t0_s => mS a_ 3 fun t3_out => mI a_ 4 fun t4_i => m0 t0_s t3_out t4_i w_)
  | _ => none

set_option maxRecDepth 100000 in
/-- surd/surdref06.Number: function 61. -/
theorem surdref06_Number_vc (a0_s : ByteArray) (w : World) (R : Ending → World → Prop)
    (J0 : ByteArray → Slc → Int → World → Prop) (m0 : ByteArray → Slc → Int → World → Nat)
    (h : J0 a0_s (⟨none, 0, 0⟩ : Slc) 0 w)
    (h0 : ∀ (t0_s : ByteArray) (t3_out : Slc) (t4_i : Int) (w_ : World), J0 t0_s t3_out t4_i w_ → 
    br (decide (t4_i < (t0_s.size : Int)))
    (fixI Try.prog .u8 (Instr.index 9 (Value.string t0_s) (Value.int .i64 t4_i)) w_.drew fun x1 =>
     Calls Try.prog 31 #[Value.int .i64 10] w_.drew fun e1 w1 =>
     ∃ s1 : Slc, e1 = .returned s1.v ∧
     (Ahead w_.drew w1 ∧
      (Calls Try.prog 69 #[t3_out.v, s1.v] w1 fun e2 w2 =>
       ∃ s2 : Slc, e2 = .returned s2.v ∧
       (Ahead w1 w2 ∧
        (Calls Try.prog 31 #[Value.int .i64 (IntKind.i64.wrap (IntKind.u8.wrap (x1 - 48)))] w2 fun e3 w3 =>
         ∃ s3 : Slc, e3 = .returned s3.v ∧
         (Ahead w2 w3 ∧
          (Calls Try.prog 36 #[s2.v, s3.v] w3 fun e4 w4 =>
           ∃ s4 : Slc, e4 = .returned s4.v ∧
           (Ahead w3 w4 ∧
            (J0 t0_s s4 (IntKind.i64.wrap (t4_i + 1)) w4 ∧
             m0 t0_s s4 (IntKind.i64.wrap (t4_i + 1)) w4 < m0 t0_s t3_out t4_i w_)))))))))
    (R (.returned t3_out.v) w_)) :
    Calls Try.prog 61 #[Value.string a0_s] w R := by
  refine calls_of_vc (surdref06_Number_cut J0 m0) (by kernel_rfl) Try.func61 rfl ?_ ?_
  · refine kcast h ?_; kernel_rfl
  · exact (obl_seq rfl (obl_reg (obl_seq rfl (obl_reg (obl_seq rfl (obl_seq rfl (obl_reg (obl_loop _ rfl (fun a_ w_ hL_ => (by
    obtain ⟨hz_, hd_, hL_⟩ := atSz_out hL_
    obtain ⟨t0_s, h0_, hL_⟩ := atN_out hL_
    obtain ⟨t3_out, h3_, hL_⟩ := atS_out hL_
    obtain ⟨t4_i, h4_, hL_⟩ := atI_out hL_
    obtain ⟨g0, rfl⟩ : ∃ g, a_ = Fr 22 [(0, Value.string t0_s), (3, t3_out.v), (4, Value.int .i64 t4_i)] g := ⟨_, fr_of hz_ hd_ [(0, Value.string t0_s), (3, t3_out.v), (4, Value.int .i64 t4_i)] (sel_cons h0_ (sel_cons h3_ (sel_cons h4_ sel_nil)))⟩
    clear hz_ hd_ h0_ h3_ h4_
    have hJ0_ := hL_
    refine ⟨(fun _ => none), kcast (h0 t0_s t3_out t4_i w_ hJ0_) ?_, ?_⟩
    · kernel_rfl
    · exact (obl_seq rfl (obl_seq rfl (obl_reg (obl_cond (obl_skip (obl_exit (obl_seq rfl (obl_blk rfl (obl_held (by kernel_rfl) (by kernel_rfl) (by kernel_rfl) (obl_reg trivial)))))))))))) (obl_seq rfl (obl_reg (obl_ret trivial)))))))))))

set_option maxRecDepth 100000 in
/-- surd/surdlaw18.FuelParses: function 9. -/
theorem surdlaw18_FuelParses_vc (a0_s : ByteArray) (w : World) (R : Ending → World → Prop)
    
    (h : Calls Try.prog 44 #[Value.string a0_s] w fun e1 w1 =>
    ∃ s1 : Slc, ∃ x1 : Int, e1 = .returned (Value.tuple #[s1.v, Value.int .i64 x1]) ∧
    (Calls Try.prog 45 #[Value.string a0_s] w1 fun e2 w2 =>
     ∃ s2 : Slc, ∃ x2 : Int, e2 = .returned (Value.tuple #[s2.v, Value.int .i64 x2]) ∧
     (br (x2 != 0)
      (Calls Try.prog 11 #[Value.int .i64 x1] w2 fun e3 w3 =>
       ∃ x3 : Int, e3 = .returned (Value.int .i64 x3) ∧
       (br (x3 == x2)
        (br ((s1.n : Int) == 0)
         (Calls Try.prog 12 #[] w3 fun e4 w4 =>
          ∃ b1 : Bool, e4 = .returned (Value.bool b1) ∧
          (R (.returned (Value.bool b1)) w4))
         (R (.returned (Value.bool false)) w3))
        (R (.returned (Value.bool false)) w3)))
      (Calls Try.prog 11 #[Value.int .i64 x1] w2 fun e5 w5 =>
       ∃ x4 : Int, e5 = .returned (Value.int .i64 x4) ∧
       (br (x4 == 0)
        (Calls Try.prog 15 #[s2.v, s1.v] w5 fun e6 w6 =>
         ∃ b2 : Bool, e6 = .returned (Value.bool b2) ∧
         (br b2
          (newC w6 #[s1.v] 25 fun ad1 w7 =>
           Calls Try.prog 16 #[(⟨some ad1, 1, 1⟩ : Slc).v] w7 fun e7 w8 =>
           ∃ b3 : Bool, e7 = .returned (Value.bool b3) ∧
           (br b3
            (Calls Try.prog 12 #[] w8 fun e8 w9 =>
             ∃ b4 : Bool, e8 = .returned (Value.bool b4) ∧
             (R (.returned (Value.bool b4)) w9))
            (R (.returned (Value.bool false)) w8)))
          (R (.returned (Value.bool false)) w6)))
        (R (.returned (Value.bool false)) w5)))))) :
    Calls Try.prog 9 #[Value.string a0_s] w R := by
  refine calls_of_vc (fun _ => none) (by kernel_rfl) Try.func9 rfl ?_ ?_
  · refine kcast h ?_; kernel_rfl
  · exact (obl_seq rfl (obl_reg (obl_seq rfl (obl_reg (obl_seq rfl (obl_reg (obl_seq rfl (obl_seq rfl (obl_reg (obl_cond (obl_seq rfl (obl_reg (obl_ret (obl_skip (obl_seq rfl (obl_reg (obl_ret trivial)))))))))))))))))

set_option maxRecDepth 100000 in
/-- surd/surdref18.Parse: function 45. -/
theorem surdref18_Parse_vc (a0_s : ByteArray) (w : World) (R : Ending → World → Prop)
    
    (h : br (decide ((a0_s.size : Int) > 1048576))
    (R (.returned (Value.tuple #[(⟨none, 0, 0⟩ : Slc).v, Value.int .i64 1])) w)
    (Calls Try.prog 60 #[Value.string a0_s] w fun e1 w1 =>
     ∃ b1 : Bool, e1 = .returned (Value.bool b1) ∧
     (br (!b1)
      (R (.returned (Value.tuple #[(⟨none, 0, 0⟩ : Slc).v, Value.int .i64 51])) w1)
      (Calls Try.prog 61 #[Value.string a0_s] w1 fun e2 w2 =>
       ∃ s1 : Slc, e2 = .returned s1.v ∧
       (R (.returned (Value.tuple #[s1.v, Value.int .i64 0])) w2))))) :
    Calls Try.prog 45 #[Value.string a0_s] w R := by
  refine calls_of_vc (fun _ => none) (by kernel_rfl) Try.func45 rfl ?_ ?_
  · refine kcast h ?_; kernel_rfl
  · exact (obl_seq rfl (obl_reg (obl_seq rfl (obl_seq rfl (obl_reg (obl_cond (obl_seq rfl (obl_reg (obl_ret (obl_skip (obl_seq rfl (obl_seq rfl (obl_reg (obl_cond (obl_seq rfl (obl_reg (obl_ret (obl_skip (obl_seq rfl (obl_reg (obl_ret trivial)))))))))))))))))))))

set_option maxRecDepth 100000 in
/-- surd/numeral.good: function 67. -/
theorem numeral_good_vc (a0_base : Int) (w : World) (R : Ending → World → Prop)
    
    (h : br (decide (a0_base ≥ 2))
    (R (.returned (Value.bool (decide (a0_base ≤ 36)))) w)
    (R (.returned (Value.bool false)) w)) :
    Calls Try.prog 67 #[Value.int .i64 a0_base] w R := by
  refine calls_of_vc (fun _ => none) (by kernel_rfl) Try.func67 rfl ?_ ?_
  · refine kcast h ?_; kernel_rfl
  · exact (obl_seq rfl (obl_reg (obl_seq rfl (obl_reg (obl_ret trivial)))))

end Go.Proofs.Ytflipimlpgbnmaa
namespace Go.Proofs.Ytflipimlpgbnmaa
open Go Go.RowKit Eng Sp Dg
set_option linter.unusedVariables false
set_option linter.unusedSimpArgs false
set_option maxRecDepth 100000
namespace Bd
open _root_.Go.Proofs.Ytflipimlpgbnmaa.Nat (Num Num.ahead OwnNil OwnNil.ahead OwnNil.mono OwnNil.nil Ret)
open Sb

theorem ahead_mp {w0 w w' : World} {m : Nat} (h : Ahead w0 w) (a : Mp m w w') (hm : w0.heap.size ≤ m) : Ahead w0 w' :=
  ⟨a.os.trans h.os, a.tape.trans h.tape, a.output.trans h.output, Nat.le_trans h.size a.size, fun k hk => (a.block k (Nat.lt_of_lt_of_le hk h.size) (by omega)).trans (h.block k hk)⟩

theorem build_tail {B : Nat} {w0 w : World} {s : Slc} {l : List Nat} {b0 : Nat} {t1 t2 t3 t4 : TypeId} (hB : 2 ≤ B) (hB2 : B ≤ 36) (ol : ok B l) (hl : l.length ≤ 1048576) (hw : Ahead w0 w)
    (hc : w.cell? ⟨b0, 0, none⟩ = some (.int .i64 (B : Int))) (hr : Rd .i64 w s (nn l)) :
    Sem.wp pr (Instr.makeMap t1 none) (fun v1 w4 => ∃ m1 : Option Nat, v1 = Value.map m1 ∧
      (newC w4 #[Value.map none] t2 fun ad3 w5 => stC ad3 (Value.map m1) w5 fun w6 => newC w6 #[Value.nilFunc] t3 fun ad4 w7 =>
       stC ad4 (Value.func (Fn.func numeral_build_1_id) #[] #[Value.pointer (some ad3), Value.pointer (some ⟨b0, 0, none⟩)]) w7 fun w8 => newC w8 #[Value.nilFunc] t4 fun ad5 w9 =>
       stC ad5 (Value.func (Fn.func numeral_build_2_id) #[] #[Value.pointer (some ⟨b0, 0, none⟩), Value.pointer (some ad5), Value.pointer (some ad4)]) w9 fun w10 =>
       ldV ad5 w10 fun v2 => callX pr v2 #[s.v] w10 fun e1 w11 => ∃ s2 : Slc, ∃ x2 : Int, e1 = .returned (Value.tuple #[s2.v, Value.int .i64 x2]) ∧
       Ret w0 0 (hv B l) (.returned (Value.tuple #[s2.v, Value.int .i64 x2])) w11)) (fun _ _ => False) w := by
  rw [Sem.wp_iff_run, run_makeMap]
  refine ⟨_, rfl, ?_⟩
  have M4 : MapOk (w.alloc (.map #[] 0)) w.heap.size (fun n => B ^ n) := MapOk.made w _
  have h4 : Ahead w (w.alloc (.map #[] 0)) := Ahead.alloc _ _
  generalize hw4 : w.alloc (.map #[] 0) = w4 at M4 h4
  have z4 : w.heap.size < w4.heap.size := M4.lt
  refine newC_b fun b3 w5 hb3 h5 hs5 B5 => stC_b 0 B5 (by simp) rfl fun w6 u6 B6 => ?_
  have h46 : Ahead w4 w6 := u6.ahead h5 (by omega)
  have z6 := u6.size
  refine newC_b fun b4 w7 hb4 h7 hs7 B7 => stC_b 0 B7 (by simp) rfl fun w8 u8 B8 => ?_
  have h68 : Ahead w6 w8 := u8.ahead h7 (by omega)
  have z8 := u8.size
  refine newC_b fun b5 w9 hb5 h9 hs9 B9 => stC_b 0 B9 (by simp) rfl fun w10 u10 B10 => ?_
  have h810 : Ahead w8 w10 := u10.ahead h9 (by omega)
  have h410 := (h46.trans h68).trans h810
  have h10 := h4.trans h410
  have E : Env w10 B w.heap.size ⟨b0, 0, none⟩ ⟨b3, 0, none⟩ ⟨b4, 0, none⟩ ⟨b5, 0, none⟩ :=
    ⟨h10.cell hc, (B6.ahead (h68.trans h810)).cell rfl, (B8.ahead h810).cell rfl, B10.cell rfl, M4.ahead h410⟩
  refine ⟨_, E.q, callX_intro (by kernel_rfl) (Calls.mono (part_spec hB hB2 l.length l w10 s rfl hl ol E (hr.ahead h10)) ?_)⟩
  rintro e w11 ⟨a11, _, t, rfl, ot⟩
  have h010 := hw.trans h10
  exact ⟨_, _, rfl, ahead_mp h010 a11 hw.size, t, rfl, by rw [if_pos rfl]; exact ot.mono h010.size⟩

theorem Build_spec {w : World} {s : Slc} {l : List Nat} {B : Nat} (hB : 2 ≤ B) (hB2 : B ≤ 36) (hr : Rd .i64 w s (nn l)) (ol : ok B l) (hl : l.length ≤ 1048576) :
    Calls pr numeral_build_id #[s.v, .int .i64 (B : Int)] w (Ret w 0 (hv B l)) := by
  refine numeral_build_vc s (B : Int) w _ (fun t0 t3 w' => ∃ j, j ≤ l.length ∧ hv B (l.drop j) = hv B l ∧ Rd .i64 w' t0 (nn (l.drop j)) ∧ Ahead w w' ∧ t3 = ⟨w.heap.size, 0, none⟩ ∧ w'.cell? ⟨w.heap.size, 0, none⟩ = some (.int .i64 (B : Int)))
    (fun t0 _ _ => t0.n) (newC_b fun b w1 hb h1 _ B1 => ?_) ?_
  · subst hb
    exact ⟨0, Nat.zero_le _, by simp, by simpa using hr.ahead h1, h1, rfl, B1.cell rfl⟩
  · rintro t0 t3 w1 ⟨j, hj, hv1, r1, h1, rfl, hc⟩
    have hn : t0.n = l.length - j := by rw [r1.n, nn_length]; simp
    refine br_intro (fun h => ?_) (fun h => ?_)
    · have hj' : j < l.length := by have := of_decide_eq_true h; omega
      refine ix_ld (k := .i64) (e := tInt) (by kernel_rfl) r1 (by omega) (by rw [nn_length]; simp; omega) ?_
      have e0 : (nn (l.drop j)).getD (0 : Int).toNat 0 = ((l.getD j 0 : Nat) : Int) := by
        rw [nn_getD, getD_drop]; simp
      rw [e0]
      refine br_intro (fun hz => ?_) (fun hz => ?_)
      · have hz' : l.getD j 0 = 0 := by have := eq_of_beq hz; omega
        have hd : l.drop j = 0 :: l.drop (j + 1) := by
          rw [List.drop_eq_getElem_cons hj', ← getD_lt l 0 hj', hz']
        refine Fuel.cutLoG (k := .i64) (e := tInt) (by kernel_rfl) (by omega) (by omega) ?_
        have r2 := r1.drop (m := 1) (by rw [nn_length]; simp; omega)
        rw [nn_drop, List.drop_drop] at r2
        exact ⟨⟨j + 1, hj', by rw [← hv1, hd, hv_cons0], r2, h1, rfl, hc⟩, by show t0.n - 1 < t0.n; omega⟩
      · refine br_false (decide_eq_false (by omega)) ?_
        rw [← hv1]
        exact build_tail hB hB2 (ok_drop ol j) (by simp; omega) h1 hc r1
    · refine br_false (decide_eq_false (by omega)) ?_
      rw [← hv1]
      exact build_tail hB hB2 (ok_drop ol j) (by simp; omega) h1 hc r1

/-- A text's bytes. -/
def bs (s : ByteArray) : List Nat := s.data.toList.map UInt8.toNat
theorem bs_length (s : ByteArray) : (bs s).length = s.size := by simp [bs]
theorem bs_lt {s : ByteArray} {i : Nat} : (bs s).getD i 0 < 256 := by
  rcases Nat.lt_or_ge i (bs s).length with h | h
  · rw [getD_lt _ _ h]
    simp only [bs, List.getElem_map]
    exact UInt8.toNat_lt _
  · rw [getD_ge _ _ h]; omega
theorem run_byte {P : Program} {t : TypeId} (hT : P.underlying t = some .string) (w : World) (s : ByteArray) {i : Nat} (h : i < s.size) :
    (Instr.index t (.string s) (.int .i64 (i : Int))).run P w = .ok (.int .u8 (((bs s).getD i 0 : Nat) : Int)) w := by
  have e : s[i]? = some s[i] := by simp [h]
  have e2 : (s[i]).toNat = (bs s).getD i 0 := by
    rw [getD_lt _ _ (by rw [bs_length]; exact h)]
    simp [bs]; rfl
  simp [Instr.index, asIntOf, run_underlying hT, Result.andThen, e, e2]
theorem ix_byte {P : Program} {t : TypeId} (hT : P.underlying t = some .string) {w : World} {s : ByteArray} {i : Nat} (h : i < s.size) {K : Int → World → Prop} (hk : K (((bs s).getD i 0 : Nat) : Int) w) :
    semI P .u8 (Instr.index t (.string s) (.int .i64 (i : Int))) w fun x w1 => K x w1 := by
  unfold semI
  rw [Sem.wp_iff_run, run_byte hT w s h]
  exact ⟨_, rfl, hk⟩
theorem fix_byte {P : Program} {t : TypeId} (hT : P.underlying t = some .string) {w : World} {s : ByteArray} {i : Nat} (h : i < s.size) {K : Int → Prop} (hk : K (((bs s).getD i 0 : Nat) : Int)) :
    fixI P .u8 (Instr.index t (.string s) (.int .i64 (i : Int))) w fun x => K x := ⟨_, fun w' _ => run_byte hT w' s h, hk⟩

/-- What a byte says as a digit; 36: nothing. -/
def dg (c : Nat) : Nat := if 48 ≤ c ∧ c ≤ 57 then c - 48 else if 97 ≤ c ∧ c ≤ 122 then c - 97 + 10 else 36
def dl (s : ByteArray) : List Nat := (bs s).map dg
theorem dl_length (s : ByteArray) : (dl s).length = s.size := by rw [dl, List.length_map, bs_length]
theorem dl_getD {s : ByteArray} {i : Nat} (h : i < s.size) : (dl s).getD i 0 = dg ((bs s).getD i 0) := by
  rw [getD_lt _ _ (by rw [dl_length]; exact h), getD_lt _ _ (by rw [bs_length]; exact h)]
  simp [dl]
/-- Digits of the base alone, one or more. -/
def GoodT (B : Nat) (s : ByteArray) : Prop := 0 < s.size ∧ ok B (dl s)
instance (B : Nat) (s : ByteArray) : Decidable (GoodT B s) := by unfold GoodT ok; exact inferInstance
def goodC (B : Nat) (s : ByteArray) : Int := if GoodT B s then 0 else 51
theorem not_good {B : Nat} {s : ByteArray} {i : Nat} (hi : i < s.size) (h : B ≤ dg ((bs s).getD i 0)) : ¬ GoodT B s := fun hg => by
  have h1 := ok_getD hg.2 (by rcases Nat.eq_zero_or_pos B with h0 | h0; · subst h0; have := hg.2 ((dl s)[i]'(by rw [dl_length]; exact hi)) (List.getElem_mem _); omega
                              · exact h0) i
  rw [dl_getD hi] at h1; omega

theorem good_spec {w : World} {B : Nat} (hB : 2 ≤ B) (hB2 : B ≤ 36) : Calls pr numeral_good_id #[.int .i64 (B : Int)] w fun e w' => w' = w ∧ e = .returned (.bool true) :=
  numeral_good_vc _ w _ (br_true (decide_eq_true (by omega)) ⟨rfl, by simp; omega⟩)

def PJ (w : World) (s : ByteArray) (B : Nat) (t0 : ByteArray) (t1 : Int) (t6 : Slc) (t19 t20 : Int) (w' : World) : Prop :=
  t0 = s ∧ t1 = (B : Int) ∧ t19 = (s.size : Int) ∧ 0 < s.size ∧ Ahead w w' ∧ ∃ i : Nat, t20 = (i : Int) ∧ i ≤ s.size ∧ ok B ((dl s).take i) ∧ ∃ b, w.heap.size ≤ b ∧ Owr .i64 tInt w' t6 (nn ((dl s).take i ++ List.replicate (s.size - i) 0)) b
theorem wrap_u8 {x : Int} (h0 : 0 ≤ x) (h1 : x < 256) : IntKind.u8.wrap x = x := by
  unfold IntKind.wrap; simp [IntKind.bits, IntKind.signed]; omega
theorem Parse_spec {w : World} {s : ByteArray} {B : Nat} (hB : 2 ≤ B) (hB2 : B ≤ 36) (hs : s.size ≤ 1048576) :
    Calls pr numeral_Parse_id #[.string s, .int .i64 (B : Int)] w (Ret w (goodC B s) (hv B (dl s))) := by
  have bad : ∀ w', Ahead w w' → ¬ GoodT B s → Ret w (goodC B s) (hv B (dl s)) (.returned (Value.tuple #[(⟨none, 0, 0⟩ : Slc).v, Value.int .i64 51])) w' := fun w' h hg =>
    ⟨h, ⟨none, 0, 0⟩, by rw [goodC, if_neg hg], by rw [goodC, if_neg hg, if_neg (by omega)]; exact OwnNil.nil⟩
  refine numeral_Parse_vc s (B : Int) w _ (PJ w s B) (fun _ _ _ t19 t20 _ => (t19 - t20).toNat) (Calls.mono (good_spec hB hB2) ?_) ?_
  · rintro e w1 ⟨rfl, rfl⟩
    refine ⟨_, rfl, br_false rfl (br_intro (fun h => ?_) (fun h => ?_))⟩
    · refine bad _ (Ahead.refl _) fun hg => ?_
      have h1 := eq_of_beq h
      have h2 : s.size = 0 := by
        have h3 : s.data = #[] := by
          have h4 := h1
          simp [ByteArray.toList_eq] at h4 
          exact h4
        show s.data.size = 0
        rw [h3]; rfl
      have := hg.1; omega
    · have hpos : 0 < s.size := by
        rcases Nat.eq_zero_or_pos s.size with h0 | h0
        · have h2 : s = ⟨#[]⟩ := by
            obtain ⟨d⟩ := s
            have : d = #[] := Array.eq_empty_of_size_eq_zero h0
            rw [this]
          rw [h2] at h; simp at h
        · exact h0
      refine mk (k := .i64) (e := tInt) (by kernel_rfl) (by omega) (Int.le_refl _) (by omega) fun t w2 _ o2 h2 _ => ?_
      rw [Int.toNat_natCast, nn_replicate] at o2
      exact ⟨rfl, rfl, rfl, hpos, h2, 0, rfl, Nat.zero_le _, by simpa using ok_nil, _, Nat.le_refl _, by simpa using o2⟩
  · rintro t0 t1 t6 t19 t20 w1 ⟨rfl, rfl, rfl, h0, h1, i, rfl, hi, hok, b, hb, ho⟩
    refine br_intro (fun h => ?_) (fun h => ?_)
    · have hi' : i < t0.size := by have := of_decide_eq_true h; omega
      have hlt := bs_lt (s := t0) (i := i)
      have leaf : ∀ d : Int, d = ((dg ((bs t0).getD i 0) : Nat) : Int) → br (decide (d ≥ (B : Int))) (Ret w (goodC B t0) (hv B (dl t0)) (.returned (Value.tuple #[(⟨none, 0, 0⟩ : Slc).v, Value.int .i64 51])) w1)
          (semA pr (Instr.indexAt tInts t6.v (.int .i64 (i : Int))) w1 fun ad w4 => stC ad (Value.int .i64 d) w4 fun w5 => PJ w t0 B t0 (B : Int) t6 (t0.size : Int) (IntKind.i64.wrap ((i : Int) + 1)) w5 ∧ ((t0.size : Int) - IntKind.i64.wrap ((i : Int) + 1)).toNat < ((t0.size : Int) - (i : Int)).toNat) := by
        rintro d rfl
        rw [wrap_i64 (x := (i : Int) + 1) (by omega) (by omega)]
        refine br_intro (fun hd => bad _ h1 (not_good hi' (by have h9 := of_decide_eq_true hd; exact Int.ofNat_le.1 h9))) (fun hd => ?_)
        have hd' : dg ((bs t0).getD i 0) < B := by have := of_decide_eq_false hd; omega
        have hlen : ((dl t0).take i).length = i := by rw [List.length_take, dl_length]; omega
        refine ix_st (k := .i64) (e := tInt) (by kernel_rfl) ho (by omega) (by rw [nn_length, List.length_append, hlen, List.length_replicate]; omega) fun w5 o5 a5 _ => ?_
        rw [Int.toNat_natCast, nn_set, List.set_append, if_neg (by omega), hlen, Nat.sub_self, show t0.size - i = (t0.size - (i + 1)) + 1 by omega, List.replicate_succ, List.set_cons_zero] at o5
        have etk : (dl t0).take (i + 1) = (dl t0).take i ++ [dg ((bs t0).getD i 0)] := by
          rw [List.take_succ_eq_append_getElem (by rw [dl_length]; exact hi'), ← dl_getD hi', getD_lt _ _ (by rw [dl_length]; exact hi')]
        refine ⟨⟨rfl, rfl, rfl, h0, a5 w h1 hb, i + 1, by omega, by omega, ?_, b, hb, ?_⟩, by omega⟩
        · rw [etk, ok_append]
          exact ⟨hok, fun y hy => by rw [List.mem_singleton.1 hy]; exact hd'⟩
        · rw [etk, List.append_assoc]; exact o5
      refine ix_byte (by kernel_rfl) hi' ?_
      generalize hc : (bs t0).getD i 0 = c at hlt leaf
      refine br_intro (fun q1 => br_intro (fun q2 => ?_) (fun q2 => br_intro (fun q3 => br_intro (fun q4 => ?_) (fun q4 => ?_)) (fun q3 => ?_))) (fun q1 => br_intro (fun q3 => br_intro (fun q4 => ?_) (fun q4 => ?_)) (fun q3 => ?_))
      all_goals (first | (have p1 := of_decide_eq_true q1) | (have p1 := of_decide_eq_false q1))
      all_goals (try first | (have p2 := of_decide_eq_true q2) | (have p2 := of_decide_eq_false q2))
      all_goals (try first | (have p3 := of_decide_eq_true q3) | (have p3 := of_decide_eq_false q3))
      all_goals (try first | (have p4 := of_decide_eq_true q4) | (have p4 := of_decide_eq_false q4))
      · refine leaf _ ?_
        rw [wrap_u8 (by omega) (by omega), wrap_i64 (by omega) (by omega), dg, if_pos (by omega)]; omega
      · refine leaf _ ?_
        rw [wrap_u8 (by omega) (by omega), wrap_i64 (x := (c : Int) - 97) (by omega) (by omega), wrap_i64 (by omega) (by omega), dg, if_neg (by omega), if_pos (by omega)]; omega
      · refine leaf _ ?_
        rw [dg, if_neg (by omega), if_neg (by omega)]; rfl
      · refine leaf _ ?_
        rw [dg, if_neg (by omega), if_neg (by omega)]; rfl
      · omega
      · refine leaf _ ?_
        rw [dg, if_neg (by omega), if_neg (by omega)]; rfl
      · refine leaf _ ?_
        rw [dg, if_neg (by omega), if_neg (by omega)]; rfl
    · have hi' : i = t0.size := by have := of_decide_eq_false h; omega
      subst hi'
      rw [List.take_of_length_le (by rw [dl_length]; exact Nat.le_refl _)] at hok ho
      rw [Nat.sub_self, List.replicate_zero, List.append_nil] at ho
      have hgood : GoodT B t0 := ⟨h0, hok⟩
      refine Calls.mono (Build_spec hB hB2 ho.rd hok (by rw [dl_length]; exact hs)) ?_
      rintro e w2 hr
      obtain ⟨h2, u, rfl, ou⟩ := hr.base h1
      exact ⟨_, _, rfl, h2, u, by rw [goodC, if_pos hgood], by rw [goodC, if_pos hgood]; exact ou⟩
end Bd
end Go.Proofs.Ytflipimlpgbnmaa
namespace Go.Proofs.Ytflipimlpgbnmaa
open Go Go.RowKit Eng Sp Dg
set_option linter.unusedVariables false
set_option linter.unusedSimpArgs false
set_option maxRecDepth 100000
namespace Bd
open _root_.Go.Proofs.Ytflipimlpgbnmaa.Nat (Yes num_spec end_awake Num Num.ahead OwnNil OwnNil.rd OwnNil.ahead OwnNil.mono OwnNil.nil Ret digs_len_bl)
open _root_.Go.Proofs.Ytflipimlpgbnmaa.Ref (RN RN.ahead RN.nil Is_spec Int_spec Add_spec rMul_spec low_ahead own_list)

theorem dg_ten {c : Nat} (hc : c < 256) : dg c < 10 ↔ 48 ≤ c ∧ c ≤ 57 := by
  unfold dg
  split
  · omega
  · split <;> omega
theorem dDigits_spec {w : World} {s : ByteArray} (hs : s.size ≤ 1048576) :
    Calls pr surdref06_Digits_id #[.string s] w fun e w' => w' = w ∧ e = .returned (.bool (decide (GoodT 10 s))) := by
  refine surdref06_Digits_vc s w _ (fun t0 t3 w' => t0 = s ∧ w' = w ∧ ∃ i : Nat, t3 = (i : Int) ∧ i ≤ s.size ∧ ok 10 ((dl s).take i)) (fun _ t3 _ => ((s.size : Int) - t3).toNat) ⟨rfl, rfl, 0, rfl, Nat.zero_le _, by simpa using ok_nil⟩ ?_
  rintro t0 t3 w1 ⟨rfl, rfl, i, rfl, hi, hok⟩
  refine br_intro (fun h => ?_) (fun h => ?_)
  · have hi' : i < t0.size := by have := of_decide_eq_true h; omega
    have hlt := bs_lt (s := t0) (i := i)
    have bad : ¬ (48 ≤ (bs t0).getD i 0 ∧ (bs t0).getD i 0 ≤ 57) → decide (GoodT 10 t0) = false := fun hn =>
      decide_eq_false (not_good hi' (Nat.le_of_not_lt fun h => hn ((dg_ten hlt).1 h)))
    refine ix_byte (by kernel_rfl) hi' (br_intro (fun q => ?_) (fun q => ix_byte (by kernel_rfl) hi' (br_intro (fun q2 => ?_) (fun q2 => ?_))))
    · have q' := of_decide_eq_true q
      exact ⟨rfl, by rw [bad (by omega)]⟩
    · have q' := of_decide_eq_true q2
      exact ⟨rfl, by rw [bad (by omega)]⟩
    · have q' := of_decide_eq_false q
      have q2' := of_decide_eq_false q2
      have hd := (dg_ten hlt).2 ⟨by omega, by omega⟩
      rw [wrap_i64 (by omega) (by omega)]
      refine ⟨⟨rfl, rfl, i + 1, rfl, hi', ?_⟩, by omega⟩
      rw [List.take_succ_eq_append_getElem (by rw [dl_length]; exact hi'), ok_append]
      refine ⟨hok, fun y hy => ?_⟩
      rw [List.mem_singleton.1 hy, ← getD_lt _ 0 (by rw [dl_length]; exact hi'), dl_getD hi']
      exact hd
  · have hi' : i = t0.size := by have := of_decide_eq_false h; omega
    subst hi'
    rw [List.take_of_length_le (by rw [dl_length]; exact Nat.le_refl _)] at hok
    refine ⟨rfl, ?_⟩
    have : decide (((t0.size : Nat) : Int) > 0) = decide (GoodT 10 t0) := decide_eq_decide.2 ⟨fun h => ⟨by omega, hok⟩, fun h => by have := h.1; omega⟩
    rw [this]
theorem len32_bl {N m : Nat} (h : bl N ≤ 32 * m) : (digs B32 N).length ≤ m := by
  refine digs_length_le two32 ?_
  rw [b32_pow]
  exact bl_le_iff.1 h
theorem Number_spec {w : World} {s : ByteArray} (hs : s.size ≤ 1048576) (hg : ok 10 (dl s)) :
    Calls pr surdref06_Number_id #[.string s] w fun e w' => Ahead w w' ∧ ∃ t, e = .returned (Slc.v t) ∧ RN w' t (hv 10 (dl s)) := by
  refine surdref06_Number_vc s w _ (fun t0 t3 t4 w' => t0 = s ∧ Ahead w w' ∧ ∃ i : Nat, t4 = (i : Int) ∧ i ≤ s.size ∧ RN w' t3 (hv 10 ((dl s).take i))) (fun _ _ t4 _ => ((s.size : Int) - t4).toNat)
    ⟨rfl, Ahead.refl _, 0, rfl, Nat.zero_le _, by simpa [hv_nil] using RN.nil⟩ ?_
  rintro t0 t3 t4 w1 ⟨rfl, h1, i, rfl, hi, r1⟩
  refine br_intro (fun h => ?_) (fun h => ?_)
  · have hi' : i < t0.size := by have := of_decide_eq_true h; omega
    have hlt := bs_lt (s := t0) (i := i)
    have hd := ok_getD hg (by omega) i
    rw [dl_getD hi'] at hd
    have hc := (dg_ten hlt).1 hd
    have hdg : dg ((bs t0).getD i 0) = (bs t0).getD i 0 - 48 := by rw [dg, if_pos hc]
    have a1 := Ahead.drew w1
    refine fix_byte (by kernel_rfl) hi' ?_
    refine Calls.mono (Int_spec (v := 10) (by omega)) ?_
    rintro e w2 ⟨h2, u, rfl, ru⟩
    have ltk : ((dl t0).take i).length ≤ i := by simp; omega
    have ltk2 : ((dl t0).take (i + 1)).length ≤ i + 1 := by simp; omega
    have b1 := bl_hv (B := 10) (by omega) (ok_take hg i)
    have b2 := bl_hv (B := 10) (by omega) (ok_take hg (i + 1))
    have hsucc := hv_take_succ 10 (dl t0) (i := i) (by rw [dl_length]; exact hi')
    rw [dl_getD hi'] at hsucc
    have b3 : bl (hv 10 ((dl t0).take i) * 10) ≤ bl (hv 10 ((dl t0).take (i + 1))) := bl_mono (by omega)
    have l1 := len32_bl (N := hv 10 ((dl t0).take i)) (m := 2 ^ 20) (by omega)
    have l2 := len32_bl (N := hv 10 ((dl t0).take i) * 10) (m := 2 ^ 20) (by omega)
    have l10 := len32_bl (N := 10) (m := 1) (bl_le (by omega))
    refine ⟨_, rfl, h2, Calls.mono (rMul_spec ((r1.ahead a1).ahead h2) ru (by omega)) ?_⟩
    rintro e w3 ⟨h3, p, rfl, rp⟩
    have hw : IntKind.i64.wrap (IntKind.u8.wrap (((bs t0).getD i 0 : Nat) - 48 : Int)) = ((dg ((bs t0).getD i 0) : Nat) : Int) := by
      rw [wrap_u8 (by omega) (by omega), wrap_i64 (by omega) (by omega), hdg]; omega
    refine ⟨_, rfl, h3, ?_⟩
    rw [hw]
    have ld := len32_bl (N := dg ((bs t0).getD i 0)) (m := 1) (bl_le (by omega))
    refine Calls.mono (Int_spec (v := dg ((bs t0).getD i 0)) (by omega)) ?_
    rintro e w4 ⟨h4, q, rfl, rq⟩
    refine ⟨_, rfl, h4, Calls.mono (Add_spec (rp.ahead h4) rq (by omega) (by omega)) ?_⟩
    rintro e w5 ⟨h5, z, rfl, rz⟩
    rw [wrap_i64 (by omega) (by omega)]
    refine ⟨_, rfl, h5, ⟨rfl, ((((h1.trans a1).trans h2).trans h3).trans h4).trans h5, i + 1, rfl, by omega, ?_⟩, by omega⟩
    rw [hsucc]; exact rz
  · have hi' : i = t0.size := by have := of_decide_eq_false h; omega
    subst hi'
    rw [List.take_of_length_le (by rw [dl_length]; exact Nat.le_refl _)] at r1
    exact ⟨h1, _, rfl, r1⟩

/-- What a text says as a fuel: its code and its number. -/
def fpC (s : ByteArray) : Int := if 1048576 < s.size then 1 else goodC 10 s
theorem fParse_spec {w : World} {s : ByteArray} : Calls pr fuel_Parse_id #[.string s] w (Ret w (fpC s) (hv 10 (dl s))) := by
  refine fuel_Parse_vc s w _ (br_intro (fun h => ?_) (fun h => ?_))
  · have h' := of_decide_eq_true h
    have hc : fpC s = 1 := by rw [fpC, if_pos (by omega)]
    exact ⟨Ahead.refl _, ⟨none, 0, 0⟩, by rw [hc], by rw [hc, if_neg (by omega)]; exact OwnNil.nil⟩
  · have h' := of_decide_eq_false h
    have hc : fpC s = goodC 10 s := by rw [fpC, if_neg (by omega)]
    rw [hc]
    refine Calls.mono (Parse_spec (B := 10) (by omega) (by omega) (by omega)) ?_
    rintro e w1 ⟨h1, t, rfl, ot⟩
    exact ⟨_, _, rfl, h1, t, rfl, ot⟩
theorem rParse_spec {w : World} {s : ByteArray} : Calls pr surdref18_Parse_id #[.string s] w fun e w' => Ahead w w' ∧ ∃ t, e = .returned (.tuple #[Slc.v t, .int .i64 (fpC s)]) ∧ (fpC s = 0 → RN w' t (hv 10 (dl s))) := by
  refine surdref18_Parse_vc s w _ (br_intro (fun h => ?_) (fun h => ?_))
  · have h' := of_decide_eq_true h
    have hc : fpC s = 1 := by rw [fpC, if_pos (by omega)]
    exact ⟨Ahead.refl _, ⟨none, 0, 0⟩, by rw [hc], fun h => by omega⟩
  · have h' := of_decide_eq_false h
    have hc : fpC s = goodC 10 s := by rw [fpC, if_neg (by omega)]
    rw [hc]
    refine Calls.mono (dDigits_spec (by omega)) ?_
    rintro e w1 ⟨rfl, rfl⟩
    refine ⟨_, rfl, ?_⟩
    by_cases hg : GoodT 10 s
    · rw [decide_eq_true hg]
      refine br_false rfl (Calls.mono (Number_spec (by omega) hg.2) ?_)
      rintro e w2 ⟨h2, t, rfl, rt⟩
      exact ⟨_, rfl, h2, t, by rw [goodC, if_pos hg], fun _ => rt⟩
    · rw [decide_eq_false hg]
      exact br_true rfl ⟨Ahead.refl _, ⟨none, 0, 0⟩, by rw [goodC, if_neg hg], fun h => by rw [goodC, if_neg hg] at h; omega⟩
theorem fpC_zero {s : ByteArray} (h : fpC s = 0) : s.size ≤ 1048576 ∧ GoodT 10 s := by
  unfold fpC goodC at h
  split at h
  · omega
  · split at h
    · rename_i h1 h2; exact ⟨by omega, h2⟩
    · omega

theorem FuelParses_ok {w : World} {x0 : ByteArray} (hx : x0.size ≤ 140737488351232) : Calls pr surdlaw18_FuelParses_id #[.string x0] w (Yes w) := by
  refine surdlaw18_FuelParses_vc x0 w _ (Calls.mono fParse_spec ?_)
  rintro e w1 ⟨h1, s, rfl, os⟩
  refine ⟨_, _, rfl, Calls.mono rParse_spec ?_⟩
  rintro e w2 ⟨h2, t, rfl, rt⟩
  refine ⟨_, _, rfl, ?_⟩
  by_cases hc : fpC x0 = 0
  · obtain ⟨hs, hg⟩ := fpC_zero hc
    have b1 := bl_hv (B := 10) (by omega) hg.2
    rw [dl_length] at b1
    rw [hc] at os rt ⊢
    rw [if_pos rfl] at os
    have l1 := digs_len_bl (N := hv 10 (dl x0)) (m := 2 ^ 20) (by omega)
    refine br_false rfl (Calls.mono num_spec ?_)
    rintro e w5 ⟨rfl, rfl⟩
    refine ⟨_, rfl, br_true rfl (Calls.mono (Is_spec (rt rfl) (os.ahead h2).rd (by omega)) ?_)⟩
    rintro e w6 ⟨h6, rfl⟩
    refine ⟨_, rfl, br_true rfl ?_⟩
    have h16 := h2.trans h6
    have h06 := h1.trans h16
    refine Calls.mono (own_list (base := w.heap.size) [(s, digs B64 (hv 10 (dl x0)))] h06.size ?_ (by simp) (by simp) rfl rfl) ?_
    · intro p hp
      simp only [List.mem_cons, List.not_mem_nil, or_false] at hp
      subst hp
      exact ⟨os.ahead h16, by simp only; omega⟩
    rintro e w8 ⟨rfl, hb8⟩
    exact ⟨_, rfl, br_true rfl (end_awake (low_ahead h06 (Nat.le_refl _) hb8))⟩
  · have hs0 : s = ⟨none, 0, 0⟩ ∨ s.n = 0 := by
      rw [if_neg hc] at os
      have := os.rd.n
      right; simpa using this
    have hs1 : s.n = 0 := by rcases hs0 with rfl | h; · rfl
                             · exact h
    refine br_true (by simpa using hc) (Calls.mono num_spec ?_)
    rintro e w3 ⟨rfl, rfl⟩
    exact ⟨_, rfl, br_true (by simp) (br_true (by rw [hs1]; rfl) (end_awake (h1.trans h2)))⟩
end Bd
end Go.Proofs.Ytflipimlpgbnmaa
