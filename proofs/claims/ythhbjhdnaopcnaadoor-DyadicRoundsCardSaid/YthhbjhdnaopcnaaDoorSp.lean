/- Slices of numbers in memory: what they read as, who owns them, and the laws of the operations on them. No condition. -/
import Derived.Test.YthhbjhdnaopcnaaDoorEng
namespace Go.Proofs.YthhbjhdnaopcnaaDoor
open Go Go.RowKit Eng
set_option linter.unusedVariables false
set_option linter.unusedSimpArgs false
namespace Sp

def ints (k : IntKind) (l : List Int) : List Value := l.map (Value.int k)
theorem ints_get {k : IntKind} {l : List Int} {i : Nat} (h : i < l.length) : (ints k l)[i]? = some (.int k (l.getD i 0)) := by
  simp [ints, h]
/-- The slice reads as these numbers. -/
structure Rd (k : IntKind) (w : World) (s : Slc) (l : List Int) : Prop where
  n : s.n = l.length
  c : s.n ≤ s.c
  get : ∀ i, i < l.length → ∃ ad, s.A = some ad ∧ w.cell? (ad.add i) = some (.int k (l.getD i 0))

theorem Rd.ahead {k : IntKind} {w w' : World} {s : Slc} {l : List Int} (h : Rd k w s l) (ha : Ahead w w') : Rd k w' s l :=
  ⟨h.n, h.c, fun i hi => by obtain ⟨ad, e, hc⟩ := h.get i hi; exact ⟨ad, e, ha.cell hc⟩⟩
theorem Rd.nil {k : IntKind} {w : World} {A : Option Addr} {c : Nat} : Rd k w ⟨A, 0, c⟩ [] := ⟨rfl, Nat.zero_le _, fun i hi => by simp at hi⟩

/-- A block of the call's own, from its first cell on: these numbers, then spare ones. -/
structure Own (k : IntKind) (t : TypeId) (w : World) (s : Slc) (l : List Int) (b : Nat) : Prop where
  hd : s = ⟨some ⟨b, 0, none⟩, l.length, s.c⟩
  mem : ∃ sp : List Value, s.c = l.length + sp.length ∧ w.heap[b]? = some (.cells (ints k l ++ sp).toArray t (0, 0))

theorem add_off {b i : Nat} : (⟨b, 0, none⟩ : Addr).add i = ⟨b, i, none⟩ := by
  unfold Addr.add; split
  · rename_i h; subst h; rfl
  · simp

theorem Own.n {k : IntKind} {t : TypeId} {w : World} {s : Slc} {l : List Int} {b : Nat} (h : Own k t w s l b) : s.n = l.length := by rw [h.hd]
theorem Own.A {k : IntKind} {t : TypeId} {w : World} {s : Slc} {l : List Int} {b : Nat} (h : Own k t w s l b) : s.A = some ⟨b, 0, none⟩ := by rw [h.hd]
theorem Own.lt {k : IntKind} {t : TypeId} {w : World} {s : Slc} {l : List Int} {b : Nat} (h : Own k t w s l b) : b < w.heap.size := by
  obtain ⟨sp, _, hm⟩ := h.mem
  exact (Array.getElem?_eq_some_iff.1 hm).1
theorem Own.cell {k : IntKind} {t : TypeId} {w : World} {s : Slc} {l : List Int} {b : Nat} (h : Own k t w s l b) {i : Nat} (hi : i < l.length) : w.cell? ⟨b, i, none⟩ = some (.int k (l.getD i 0)) := by
  obtain ⟨sp, _, hm⟩ := h.mem
  simp [World.cell?, hm, ints, List.getElem?_append, hi]
theorem Own.rd {k : IntKind} {t : TypeId} {w : World} {s : Slc} {l : List Int} {b : Nat} (h : Own k t w s l b) : Rd k w s l := by
  refine ⟨h.n, ?_, fun i hi => ⟨_, h.A, by rw [add_off]; exact h.cell hi⟩⟩
  obtain ⟨sp, hc, _⟩ := h.mem
  rw [h.n]; omega
theorem Own.ahead {k : IntKind} {t : TypeId} {w w' : World} {s : Slc} {l : List Int} {b : Nat} (h : Own k t w s l b) (ha : Ahead w w') : Own k t w' s l b := by
  obtain ⟨sp, hc, hm⟩ := h.mem
  refine ⟨h.hd, sp, hc, ?_⟩
  have := ha.block b h.lt
  rw [this]; exact hm
theorem Own.frozen {k : IntKind} {t : TypeId} {w : World} {s : Slc} {l : List Int} {b : Nat} (h : Own k t w s l b) (i : Nat) : w.frozen? ⟨b, i, none⟩ = false := by
  obtain ⟨sp, _, hm⟩ := h.mem
  simp [World.frozen?, hm]

theorem Ahead.setCell {w0 w : World} {ad : Addr} {v : Value} (h : Ahead w0 w) (hb : w0.heap.size ≤ ad.block) : Ahead w0 (w.setCell ad v) :=
  Below.trans h ⟨rfl, rfl, rfl, by simp [World.setCell], fun k hk => Below.heap_setCell _ _ _ _ (by omega)⟩
theorem size_alloc (w : World) (o : Obj) : (w.alloc o).heap.size = w.heap.size + 1 := by show (w.heap.push o).size = _; simp
theorem get_alloc (w : World) (o : Obj) : (w.alloc o).heap[w.heap.size]? = some o := by show (w.heap.push o)[w.heap.size]? = _; simp
theorem Ahead.alloc (w : World) (o : Obj) : Ahead w (w.alloc o) := Below.alloc (Below.refl _ _) (Nat.le_refl _) o
theorem Ahead.drew (w : World) : Ahead w w.drew := (Below.refl _ w).drew
theorem Ahead.size {w w' : World} (h : Ahead w w') : w.heap.size ≤ w'.heap.size := Below.size h

/-- A store into an own block. -/
theorem Own.set {k : IntKind} {t : TypeId} {w : World} {s : Slc} {l : List Int} {b : Nat} (h : Own k t w s l b) {i : Nat} (hi : i < l.length) (x : Int) :
    Own k t (w.setCell ⟨b, i, none⟩ (.int k x)) s (l.set i x) b := by
  obtain ⟨sp, hc, hm⟩ := h.mem
  refine ⟨by rw [h.hd]; simp, sp, by simpa using hc, ?_⟩
  simp only [World.setCell, Array.getElem?_modify]
  simp [hm, ints, List.set_append, hi, List.map_set]

/-! ### The slices' types -/
/-- Is it a type of slices of this kind of number? -/
def isSl (P : Program) (t : TypeId) (k : IntKind) : Option TypeId := match P.underlying t with
  | some (.slice e) => match P.info? e with
    | some i => match i.size, i.bytes, i.zero, P.underlying e with
      | 1, 8, some (.int k' 0), some (.int k'') => if k = k' ∧ k = k'' then some e else none
      | _, _, _, _ => none
    | none => none
  | _ => none
theorem isSl_out {P : Program} {t : TypeId} {k : IntKind} {e : TypeId} (h : isSl P t k = some e) :
    P.underlying t = some (.slice e) ∧ P.underlying e = some (.int k) ∧ ∃ i, P.info? e = some i ∧ i.size = 1 ∧ i.bytes = 8 ∧ i.zero = some (.int k 0) := by
  unfold isSl at h
  split at h
  · rename_i e' hu
    split at h
    · rename_i i hi
      split at h
      · rename_i k' k'' h1 h2 h3 h4
        split at h
        · rename_i hk
          obtain ⟨rfl, rfl⟩ := hk
          obtain rfl := Option.some.inj h
          exact ⟨hu, h4, i, hi, h1, h2, h3⟩
        · cases h
      · cases h
    · cases h
  · cases h

section
variable {P : Program} {t e : TypeId} {k : IntKind}

theorem run_indexAt (hT : isSl P t k = some e) (w : World) (s : Slc) (i : Int) (ad : Addr) (hA : s.A = some ad) (h0 : 0 ≤ i) (h1 : i < s.n) :
    (Instr.indexAt t s.v (.int .i64 i)).run P w = .ok (.pointer (some (ad.add i.toNat))) w := by
  obtain ⟨hu, _, inf, hi, hs, _⟩ := isSl_out hT
  obtain ⟨A, n, c⟩ := s
  simp only at hA h1
  subst hA
  simp only [Instr.indexAt, asIntOf, Slc.v, underlying, program, Sem.run_bind, Sem.run, Result.andThen, hu, Sem.run_pure]
  simp [h0, h1, sizeOf, typeInfo, program, Sem.run, hi, hs, hu]

/-- An element read. -/
theorem ix_ld (hT : isSl P t k = some e) {w : World} {s : Slc} {l : List Int} (h : Rd k w s l) {i : Int} (h0 : 0 ≤ i) (h1 : i < l.length) {K : Int → World → Prop}
    (hk : K (l.getD i.toNat 0) w) : semA P (Instr.indexAt t s.v (.int .i64 i)) w fun ad w1 => ldI k ad w1 fun x => K x w1 := by
  obtain ⟨ad, hA, hc⟩ := h.get i.toNat (by omega)
  unfold semA
  rw [Sem.wp_iff_run, run_indexAt hT w s i ad hA h0 (by rw [h.n]; exact h1)]
  exact ⟨_, rfl, _, hc, hk⟩

/-- An element read, in a region that draws. -/
theorem ix_fix (hT : isSl P t k = some e) {w : World} {s : Slc} {l : List Int} (h : Rd k w s l) {i : Int} (h0 : 0 ≤ i) (h1 : i < l.length) {K : Int → Prop}
    (hk : K (l.getD i.toNat 0)) : fixA P (Instr.indexAt t s.v (.int .i64 i)) w fun ad => ldI k ad w fun x => K x := by
  obtain ⟨ad, hA, hc⟩ := h.get i.toNat (by omega)
  exact ⟨_, fun w' _ => run_indexAt hT w' s i ad hA h0 (by rw [h.n]; exact h1), _, hc, hk⟩

/-- An element written. -/
theorem ix_st (hT : isSl P t k = some e) {w : World} {s : Slc} {l : List Int} {b : Nat} (h : Own k e w s l b) {i : Int} (h0 : 0 ≤ i) (h1 : i < l.length) {x : Int} {K : World → Prop}
    (hk : ∀ w', Own k e w' s (l.set i.toNat x) b → (∀ w0, Ahead w0 w → w0.heap.size ≤ b → Ahead w0 w') → w'.heap.size = w.heap.size → K w') :
    semA P (Instr.indexAt t s.v (.int .i64 i)) w fun ad w1 => stC ad (.int k x) w1 fun w2 => K w2 := by
  unfold semA
  rw [Sem.wp_iff_run, run_indexAt hT w s i _ h.A h0 (by rw [h.n]; exact h1)]
  refine ⟨_, rfl, ?_⟩
  rw [add_off]
  refine ⟨⟨_, h.cell (by omega)⟩, h.frozen _, hk _ (h.set (by omega) x) (fun w0 ha hb => ?_) (by simp [World.setCell])⟩
  exact Ahead.setCell ha hb

theorem run_newRow (w : World) (c : Array Value) : (newRow e c).run P w = .ok ⟨w.heap.size, 0, none⟩ (w.alloc (.cells c e)) := by
  simp [newRow, newObj, Sem.run]

theorem run_makeSlice (hT : isSl P t k = some e) (w : World) (n c : Nat) (hnc : n ≤ c) (hn : c * 8 ≤ 2 ^ 48) :
    (Instr.makeSlice t (.int .i64 n) (.int .i64 c)).run P w = .ok (.slice (some ⟨w.heap.size, 0, none⟩) n c) (w.alloc (.cells (ints k (List.replicate c 0)).toArray e (0, 0))) := by
  obtain ⟨hu, he, inf, hi, hs, hb, hz⟩ := isSl_out hT
  have hw : IntKind.i64.wrap (n : Int) = n := by unfold IntKind.wrap; simp [IntKind.bits, IntKind.signed]; omega
  have hwc : IntKind.i64.wrap (c : Int) = c := by unfold IntKind.wrap; simp [IntKind.bits, IntKind.signed]; omega
  have hzero : (zeroValue e).run P w = .ok (.int k 0) w := by simp [zeroValue, typeInfo, program, Sem.run, hi, hz]
  have hcells : (Array.range c).map (fun i => (#[Value.int k 0] : Array Value)[i % 1]!) = (ints k (List.replicate c 0)).toArray := by
    apply Array.ext
    · simp [ints]
    · intro i h1 h2; simp [ints, Nat.mod_one]
  have c1 : (decide ((c : Int) < 0) || decide (((8 : Nat) : Int) * (c : Int) > 2 ^ 48)) = false := by
    simp only [Bool.or_eq_false_iff, decide_eq_false_iff_not]; omega
  have c2 : decide ((n : Int) < 0) = false := by simp only [decide_eq_false_iff_not]; omega
  have c3 : decide ((n : Int) > (c : Int)) = false := by simp only [decide_eq_false_iff_not]; omega
  have hti : (typeInfo e).run P w = .ok inf w := by simp [typeInfo, program, Sem.run, hi]
  have hsz : (sizeOf e).run P w = .ok 1 w := by simp [sizeOf, hti, hs]
  have hul : (underlying t).run P w = .ok (.slice e) w := by simp [underlying, program, Sem.run, hu]
  unfold Instr.makeSlice
  simp only [Sem.run_bind, hul, Result.andThen, asInt, asIntOf, Sem.run_pure, hti, hb, hw, hwc, c1, c2, c3, Bool.or_self, if_false, Bool.false_eq_true, Int.toNat_natCast, run_askRoom, hsz, Nat.mul_one]
  by_cases h0 : c = 0
  · subst h0
    simp only [if_true, Sem.run_pure, Sem.run_bind, Result.andThen, run_newRow]
    have hr : ∀ f : Nat → Value, (Array.range 0).map f = #[] := fun f => Array.eq_empty_of_size_eq_zero (by simp)
    simp [ints, hr]
  · simp only [h0, if_false, hzero, Sem.run_bind, Result.andThen, Sem.run_pure, Value.cells, List.size_toArray, List.length_cons, List.length_nil, Nat.zero_add, hcells, run_newRow]

/-- make. -/
theorem mk (hT : isSl P t k = some e) {w : World} {n c : Int} (h0 : 0 ≤ n) (hnc : n ≤ c) (hn : c * 8 ≤ 2 ^ 48) {K : Slc → World → Prop}
    (hk : ∀ s w', s.c = c.toNat → Own k e w' s (List.replicate n.toNat 0) w.heap.size → Ahead w w' → w'.heap.size = w.heap.size + 1 → K s w') :
    semS P (Instr.makeSlice t (.int .i64 n) (.int .i64 c)) w fun s w' => K s w' := by
  obtain ⟨n, rfl⟩ := Int.eq_ofNat_of_zero_le h0
  obtain ⟨c, rfl⟩ := Int.eq_ofNat_of_zero_le (Int.le_trans h0 hnc)
  unfold semS
  rw [Sem.wp_iff_run, run_makeSlice hT w n c (by omega) (by omega)]
  refine ⟨⟨_, _, _⟩, rfl, hk _ _ (by simp) ⟨by simp, ints k (List.replicate (c - n) 0), by simp [ints]; omega, ?_⟩ (Ahead.alloc _ _) (size_alloc _ _)⟩
  rw [get_alloc, Int.toNat_natCast]
  unfold ints
  rw [← List.map_append, List.replicate_append_replicate, show n + (c - n) = c by omega]

/-! ### Cuts -/
theorem map_add_zero (A : Option Addr) : A.map (fun a => a.add 0) = A := by cases A <;> simp [Addr.add]
theorem run_slice_hi (hT : isSl P t k = some e) (w : World) (s : Slc) {h : Int} (h0 : 0 ≤ h) (h1 : h ≤ s.c) :
    (Instr.sliceAt t s.v none (some (.int .i64 h)) none).run P w = .ok (Slc.v ⟨s.A, h.toNat, s.c⟩) w := by
  obtain ⟨hu, he, inf, hi, hs, hb, hz⟩ := isSl_out hT
  simp [Instr.sliceAt, Instr.slice, Instr.sliceBounds, Instr.sliceBound, run_underlying hu, asIntOf, h0, h1, sizeOf, typeInfo, hi, hs, Slc.v, map_add_zero]
theorem run_slice_lo (hT : isSl P t k = some e) (w : World) (s : Slc) {h : Int} (h0 : 0 ≤ h) (h1 : h ≤ s.n) :
    (Instr.sliceAt t s.v (some (.int .i64 h)) none none).run P w = .ok (Slc.v ⟨if s.c = h.toNat then s.A else s.A.map (·.add h.toNat), s.n - h.toNat, s.c - h.toNat⟩) w := by
  obtain ⟨hu, he, inf, hi, hs, hb, hz⟩ := isSl_out hT
  simp [Instr.sliceAt, Instr.slice, Instr.sliceBounds, Instr.sliceBound, run_underlying hu, asIntOf, h0, h1, sizeOf, typeInfo, hi, hs, Slc.v]
theorem run_slice_both (hT : isSl P t k = some e) (w : World) (s : Slc) {l h : Int} (l0 : 0 ≤ l) (l1 : l ≤ h) (h1 : h ≤ s.c) :
    (Instr.sliceAt t s.v (some (.int .i64 l)) (some (.int .i64 h)) none).run P w = .ok (Slc.v ⟨if s.c = l.toNat then s.A else s.A.map (·.add l.toNat), h.toNat - l.toNat, s.c - l.toNat⟩) w := by
  obtain ⟨hu, he, inf, hi, hs, hb, hz⟩ := isSl_out hT
  have h0 : 0 ≤ h := by omega
  have h2 : l ≤ max h 0 := by omega
  simp [Instr.sliceAt, Instr.slice, Instr.sliceBounds, Instr.sliceBound, run_underlying hu, asIntOf, h0, h1, h2, l0, sizeOf, typeInfo, hi, hs, Slc.v]
theorem run_slice_cap (hT : isSl P t k = some e) (w : World) (s : Slc) {h : Int} (h0 : 0 ≤ h) (h1 : h ≤ s.c) :
    (Instr.sliceAt t s.v none (some (.int .i64 h)) (some (.int .i64 h))).run P w = .ok (Slc.v ⟨s.A, h.toNat, h.toNat⟩) w := by
  obtain ⟨hu, he, inf, hi, hs, hb, hz⟩ := isSl_out hT
  have h2 : h ≤ max h 0 := by omega
  simp [Instr.sliceAt, Instr.slice, Instr.sliceBounds, Instr.sliceBound, run_underlying hu, asIntOf, h0, h1, h2, sizeOf, typeInfo, hi, hs, Slc.v, map_add_zero]

theorem Rd.take {w : World} {s : Slc} {l : List Int} (h : Rd k w s l) {m c : Nat} (hm : m ≤ l.length) (hc : m ≤ c) : Rd k w ⟨s.A, m, c⟩ (l.take m) :=
  ⟨by simp; omega, hc, fun i hi => by
    have hi' : i < m := by simp at hi; omega
    obtain ⟨ad, e, hh⟩ := h.get i (by omega)
    refine ⟨ad, e, ?_⟩
    rw [hh]; simp [List.getElem?_take, hi']⟩
theorem add_add (a : Addr) (i j : Nat) : (a.add i).add j = a.add (i + j) := by
  by_cases h : i = 0
  · subst h; simp [Addr.add]
  · by_cases h' : j = 0
    · subst h'; simp [Addr.add, h]
    · have : ¬ (i + j = 0) := by omega
      simp only [Addr.add, h, h', this, if_false]
      congr 1; omega
theorem Rd.drop {w : World} {s : Slc} {l : List Int} (h : Rd k w s l) {m : Nat} (hm : m ≤ l.length) :
    Rd k w ⟨if s.c = m then s.A else s.A.map (·.add m), s.n - m, s.c - m⟩ (l.drop m) :=
  ⟨by simp [h.n], by have := h.c; simp; omega, fun i hi => by
    simp at hi
    obtain ⟨ad, e, hh⟩ := h.get (m + i) (by omega)
    have := h.c
    have := h.n
    refine ⟨ad.add m, ?_, ?_⟩
    · simp only; rw [if_neg (by omega), e]; rfl
    · rw [add_add, hh]; simp⟩
theorem Own.take {w : World} {s : Slc} {l : List Int} {b : Nat} (h : Own k e w s l b) {m : Nat} (hm : m ≤ l.length) : Own k e w ⟨s.A, m, s.c⟩ (l.take m) b := by
  obtain ⟨sp, hc, hh⟩ := h.mem
  refine ⟨by rw [h.A]; simp; omega, ints k (l.drop m) ++ sp, by simp [ints]; omega, ?_⟩
  rw [hh]; unfold ints
  rw [← List.append_assoc, ← List.map_append, List.take_append_drop]

/-! ### append -/
theorem Own.ownsRow {w : World} {s : Slc} {l : List Int} {b : Nat} (h : Own k e w s l b) {base : Nat} (hb : base ≤ b) (hc : s.c ≤ maxLen) : w.ownsRow base e 1 s.v l.length (ints k l) := by
  obtain ⟨sp, hc', hh⟩ := h.mem
  refine ⟨by simp [ints], .inr ⟨b, s.c, _, by rw [Slc.v, h.A, h.n], hb, hh, by omega, hc, by simp [ints]; omega, ?_⟩⟩
  simp [ints]
theorem own_of_row {w : World} {base : Nat} {v : Value} {l : List Int} (h : w.ownsRow base e 1 v l.length (ints k l)) (hn : v ≠ .slice none 0 0) :
    ∃ s b, v = Slc.v s ∧ base ≤ b ∧ s.c ≤ maxLen ∧ Own k e w s l b := by
  obtain ⟨_, ⟨hv, _⟩ | ⟨g, cap, cur, hv, hg, hh, hn, hc, hs, ht⟩⟩ := h
  · exact absurd hv hn
  · refine ⟨⟨_, _, _⟩, g, hv, hg, hc, rfl, cur.toList.drop l.length, by simp; omega, ?_⟩
    rw [Nat.mul_one] at ht
    rw [hh, ← ht, List.take_append_drop]

/-- append of what reads as ys, onto a slice of the call's own, or onto nil. -/
theorem app (hT : isSl P t k = some e) {w : World} {s x : Slc} {l ys : List Int} {ty : TypeId} {base : Nat} (hx : Rd k w x ys) (hy : 0 < ys.length)
    (hs : (s = ⟨none, 0, 0⟩ ∧ l = []) ∨ ∃ b, base ≤ b ∧ s.c ≤ maxLen ∧ Own k e w s l b) (hb : base ≤ w.heap.size) (hsz : (l.length + ys.length) * 8 ≤ 2 ^ 47) {K : Slc → World → Prop}
    (hk : ∀ s' w' b', base ≤ b' → s'.c ≤ maxLen → Own k e w' s' (l ++ ys) b' → Below base w w' → (∀ w0, Ahead w0 w → (∀ b, s.A = some ⟨b, 0, none⟩ → w0.heap.size ≤ b) → Ahead w0 w') → K s' w') :
    semS P (Builtin.append_ #[t, t] ty #[s.v, x.v]) w fun s' w' => K s' w' := by
  obtain ⟨hu, he, inf, hi, hs1, hb8, hz⟩ := isSl_out hT
  obtain ⟨ad, hA, _⟩ := hx.get 0 hy
  have hrow : w.ownsRow base e 1 s.v l.length (ints k l) := by
    rcases hs with ⟨rfl, rfl⟩ | ⟨b, h1, h2, h3⟩
    · exact ⟨rfl, .inl ⟨rfl, rfl⟩⟩
    · exact h3.ownsRow h1 h2
  obtain ⟨v', w', hr, ho, hg, hn⟩ := run_append_own (P := P) (ty := ty) w base t e inf (.int k 0) 1 8 hu hi hz hs1 hb8 rfl (by omega) s.v l.length (ints k l) hrow ad ys.length x.c (ints k ys) (by simp [ints])
    (fun j u hj => by
      have hj' : j < ys.length := by
        have := (List.getElem?_eq_some_iff.1 hj).1
        simpa [ints] using this
      obtain ⟨ad', e', hc⟩ := hx.get j hj'
      rw [hA] at e'
      obtain rfl := Option.some.inj e'
      rw [ints_get hj'] at hj
      obtain rfl := Option.some.inj hj
      exact hc) (by simp [ints, Value.oneCell']) (by unfold maxLen; omega) (by omega) hb
  have hne : v' ≠ .slice none 0 0 := fun h => by have := hn.1 h; omega
  have ho' : w'.ownsRow base e 1 v' (l ++ ys).length (ints k (l ++ ys)) := by
    simp only [ints, List.map_append, List.length_append]; exact ho
  obtain ⟨s', b', rfl, hb', hc', hown⟩ := own_of_row ho' hne
  unfold semS
  have hxv : x.v = .slice (some ad) ys.length x.c := by rw [Slc.v, hA, hx.n]
  rw [Sem.wp_iff_run, hxv, hr]
  have hblk : ∀ b, s.v.ownBlock = some b → (s = ⟨none, 0, 0⟩ ∧ l = []) ∨ (s.A = some ⟨b, 0, none⟩ ∧ base ≤ b) := by
    intro b hb2
    rcases hs with h | ⟨b0, h1, h2, h3⟩
    · exact .inl h
    · right
      rw [Slc.v, h3.A] at hb2
      simp [Value.ownBlock] at hb2
      subst hb2
      exact ⟨h3.A, h1⟩
  refine ⟨s', rfl, hk s' w' b' hb' hc' hown ?_ ?_⟩
  · refine Below.grown (Below.refl _ _) hg hb fun k hk => ?_
    rcases hblk k hk with ⟨h, _⟩ | h
    · rw [h] at hk; simp [Slc.v, Value.ownBlock] at hk
    · exact h.2
  · intro w0 ha hlow
    refine Below.grown ha hg ha.size fun k hk => ?_
    rcases hblk k hk with ⟨h, _⟩ | h
    · rw [h] at hk; simp [Slc.v, Value.ownBlock] at hk
    · exact hlow k h.1

/-- append of nothing onto nil. -/
theorem app0 (hT : isSl P t k = some e) {w : World} {x : Slc} {ty : TypeId} (hx : x.n = 0) {K : Slc → World → Prop} (hk : K ⟨none, 0, 0⟩ w) :
    semS P (Builtin.append_ #[t, t] ty #[Slc.v ⟨none, 0, 0⟩, x.v]) w fun s' w' => K s' w' := by
  obtain ⟨hu, he, inf, hi, hs1, hb8, hz⟩ := isSl_out hT
  unfold semS
  rw [Sem.wp_iff_run]
  have hr : (Builtin.append_ #[t, t] ty #[Slc.v ⟨none, 0, 0⟩, x.v]).run P w = .ok (.slice none 0 0) w := by
    obtain ⟨A, n, c⟩ := x
    simp only at hx
    subst hx
    cases A <;> simp [Builtin.append_, Slc.v, run_underlying hu, sizeOf, typeInfo, hi, hs1, Builtin.lenOf, Builtin.firstCells, loadCells, loadCellsFrom]
  rw [hr]
  exact ⟨⟨none, 0, 0⟩, rfl, hk⟩
end
end Sp
end Go.Proofs.YthhbjhdnaopcnaaDoor
