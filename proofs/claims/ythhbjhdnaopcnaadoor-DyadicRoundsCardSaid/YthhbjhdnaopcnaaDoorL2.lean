/- Level 2: local variables of struct type as values; the world's steps as Ahead and Ext. No condition. -/
import Derived.Test.YthhbjhdnaopcnaaDoorNm
import Derived.Test.YthhbjhdnaopcnaaDoorIds
namespace Go.Proofs.YthhbjhdnaopcnaaDoor
open Go Go.RowKit Eng Sp Dg
set_option linter.unusedVariables false
set_option linter.unusedSimpArgs false
namespace L2

/-- Types of rows: no local variable's block has such a type. -/
def rowTy (t : TypeId) : Bool := t == tU64 || t == tInt || t == tU64s || t == tInts
def noU (cs : Array Value) : Bool := cs.toList.all fun v => match v with
  | .int .u64 _ => false
  | _ => true
/-- The block's cells. -/
def Blt (w : World) (b : Nat) (t : TypeId) (cs : Array Value) : Prop := w.heap[b]? = some (Obj.cells cs t (0, 0))
/-- Rows of numbers stay, and every limb. -/
structure Ext (w w' : World) : Prop where
  size : w.heap.size ≤ w'.heap.size
  row : ∀ (k : Nat) (cs : Array Value) (t : TypeId) (m : Nat × Nat), w.heap[k]? = some (Obj.cells cs t m) → rowTy t = true → w'.heap[k]? = some (Obj.cells cs t m)
  cell : ∀ (ad : Addr) (x : Int), w.cell? ad = some (.int .u64 x) → w'.cell? ad = some (.int .u64 x)
theorem Ext.refl (w : World) : Ext w w := ⟨Nat.le_refl _, fun _ _ _ _ h _ => h, fun _ _ h => h⟩
theorem Ext.trans {a b c : World} (h : Ext a b) (k : Ext b c) : Ext a c :=
  ⟨Nat.le_trans h.size k.size, fun i cs t m hi ht => k.row i cs t m (h.row i cs t m hi ht) ht, fun ad x hx => k.cell ad x (h.cell ad x hx)⟩
theorem Ext.of_ahead {a b : World} (h : Ahead a b) : Ext a b :=
  ⟨h.size, fun k cs t m hk _ => by rw [Below.block h k (Array.getElem?_eq_some_iff.1 hk).1]; exact hk, fun ad x hx => h.cell hx⟩
theorem _root_.Go.Proofs.YthhbjhdnaopcnaaDoor.Eng.Ahead.ext {a b : World} (h : Ahead a b) : Ext a b := Ext.of_ahead h

theorem Blt.lt {w : World} {b : Nat} {t : TypeId} {cs : Array Value} (h : Blt w b t cs) : b < w.heap.size := (Array.getElem?_eq_some_iff.1 h).1
theorem Blt.ahead {w w' : World} {b : Nat} {t : TypeId} {cs : Array Value} (h : Blt w b t cs) (ha : Ahead w w') : Blt w' b t cs := by
  unfold Blt; rw [Below.block ha b h.lt]; exact h
theorem Blt.bar {V : Nat → Prop} {w w' : World} {b : Nat} {t : TypeId} {cs : Array Value} (h : Blt w b t cs) (hb : Bar V w w') (hv : ¬ V b) : Blt w' b t cs := by
  unfold Blt; rw [hb.block b h.lt hv]; exact h
theorem Blt.cell {w : World} {b i : Nat} {t : TypeId} {cs : Array Value} {v : Value} (h : Blt w b t cs) (hc : cs[i]? = some v) : w.cell? ⟨b, i, none⟩ = some v := by
  unfold Blt at h
  simp [World.cell?, h, hc]

theorem newC_t {w : World} {cs : Array Value} {t : TypeId} {K : Addr → World → Prop} (h : ∀ b w', b = w.heap.size → Ahead w w' → w'.heap.size = b + 1 → Blt w' b t cs → K ⟨b, 0, none⟩ w') : newC w cs t K :=
  h _ _ rfl (Ahead.alloc _ _) (size_alloc _ _) (get_alloc _ _)
theorem newC_map {w : World} {cs : Array Value} {t : TypeId} {K K' : Addr → World → Prop} (h : newC w cs t K) (hk : ∀ ad w', Ahead w w' → K ad w' → K' ad w') : newC w cs t K' :=
  hk _ _ (Ahead.alloc _ _) h

/-- Nothing but the block has changed; it holds no limb, before and behind. -/
structure Upt (b : Nat) (w w' : World) : Prop where
  os : w'.os = w.os
  tape : w'.tape = w.tape
  output : w'.output = w.output
  size : w'.heap.size = w.heap.size
  block : ∀ k, k ≠ b → w'.heap[k]? = w.heap[k]?
  ext : Ext w w'
theorem Upt.trans {b : Nat} {x y z : World} (h : Upt b x y) (k : Upt b y z) : Upt b x z :=
  ⟨k.os.trans h.os, k.tape.trans h.tape, k.output.trans h.output, k.size.trans h.size, fun i hi => (k.block i hi).trans (h.block i hi), h.ext.trans k.ext⟩
theorem Upt.ahead {b : Nat} {w0 w w' : World} (h : Upt b w w') (ha : Ahead w0 w) (hb : w0.heap.size ≤ b) : Ahead w0 w' :=
  Below.trans ha ⟨h.os, h.tape, h.output, Nat.le_of_eq h.size.symm, fun k hk => h.block k (by omega)⟩
theorem Upt.blt {b k : Nat} {w w' : World} {t : TypeId} {cs : Array Value} (h : Upt k w w') (hr : Blt w b t cs) (hne : b ≠ k) : Blt w' b t cs := by
  unfold Blt; rw [h.block b hne]; exact hr
theorem Upt.bar {b : Nat} {V : Nat → Prop} {w w' : World} (h : Upt b w w') (hv : V b) : Bar V w w' :=
  ⟨h.os, h.tape, h.output, Nat.le_of_eq h.size.symm, fun k _ hk => h.block k fun e => hk (e ▸ hv)⟩

theorem no_limb {w : World} {b : Nat} {t : TypeId} {cs : Array Value} (h : Blt w b t cs) (hn : noU cs = true) (ad : Addr) (x : Int) (hc : w.cell? ad = some (.int .u64 x)) : ad.block ≠ b := by
  intro hb
  unfold Blt at h
  rw [World.cell?, hb, h] at hc
  simp only at hc
  split at hc
  · cases hc
  · have hm := Array.mem_of_getElem? hc
    unfold noU at hn
    have := List.all_eq_true.1 hn _ (Array.mem_toList_iff.2 hm)
    simp at this

theorem stC_t (i : Nat) {w : World} {b : Nat} {t : TypeId} {cs : Array Value} {ad : Addr} {v : Value} {K : World → Prop} (h : Blt w b t cs) (hi : Nat.blt i cs.size = true) (hn : noU cs = true) (ht : rowTy t = false)
    (hk : ∀ w', Upt b w w' → Blt w' b t (cs.setIfInBounds i v) → K w') (hA : ad = ⟨b, i, none⟩ := by first | rfl | exact add_off) : stC ad v w K := by
  subst hA
  have hi' : i < cs.size := by simpa [Nat.blt_eq] using hi
  have hh : w.heap[b]? = some (Obj.cells cs t (0, 0)) := h
  have hlt := (Array.getElem?_eq_some_iff.1 hh).1
  have hget := (Array.getElem?_eq_some_iff.1 hh).2
  have hblk : ∀ k, k ≠ b → (w.setCell ⟨b, i, none⟩ v).heap[k]? = w.heap[k]? := fun k hk => Below.heap_setCell _ _ _ _ hk
  refine ⟨⟨cs[i], by simp [World.cell?, hh, hi']⟩, by simp [World.frozen?, hh], hk _ ⟨rfl, rfl, rfl, by simp [World.setCell], hblk, ⟨by simp [World.setCell], fun k cs' t' m hk' ht' => ?_, fun ad x hx => ?_⟩⟩ ?_⟩
  · by_cases e : k = b
    · subst e
      rw [hh] at hk'
      have := Option.some.inj hk'
      injection this with h1 h2 h3
      subst h2
      rw [ht] at ht'
      cases ht'
    · rw [hblk k e]; exact hk'
  · have hne := no_limb h hn ad x hx
    rw [World.cell?_of_block (hblk _ hne)]; exact hx
  · unfold Blt
    simp [World.setCell, Array.getElem?_modify, hh]

theorem ldB_t (i : Nat) {w : World} {b : Nat} {t : TypeId} {cs : Array Value} {ad : Addr} {x : Bool} {K : Bool → Prop} (h : Blt w b t cs) (hc : cs[i]? = some (.bool x)) (hk : K x) (hA : ad = ⟨b, i, none⟩ := by first | rfl | exact add_off) : ldB ad w K := by
  subst hA; exact ⟨x, h.cell hc, hk⟩
theorem ldS_t (i : Nat) {w : World} {b : Nat} {t : TypeId} {cs : Array Value} {ad : Addr} {x : Slc} {K : Slc → Prop} (h : Blt w b t cs) (hc : cs[i]? = some x.v) (hk : K x) (hA : ad = ⟨b, i, none⟩ := by first | rfl | exact add_off) : ldS ad w K := by
  subst hA; exact ⟨x, h.cell hc, hk⟩
theorem ldI_t (i : Nat) {w : World} {b : Nat} {t : TypeId} {cs : Array Value} {ad : Addr} {k : IntKind} {x : Int} {K : Int → Prop} (h : Blt w b t cs) (hc : cs[i]? = some (.int k x)) (hk : K x) (hA : ad = ⟨b, i, none⟩ := by first | rfl | exact add_off) : ldI k ad w K := by
  subst hA; exact ⟨x, h.cell hc, hk⟩
theorem ldN_t (i : Nat) {w : World} {b : Nat} {t : TypeId} {cs : Array Value} {ad : Addr} {x : ByteArray} {K : ByteArray → Prop} (h : Blt w b t cs) (hc : cs[i]? = some (.string x)) (hk : K x) (hA : ad = ⟨b, i, none⟩ := by first | rfl | exact add_off) : ldN ad w K := by
  subst hA; exact ⟨x, h.cell hc, hk⟩
theorem ldP_t (i : Nat) {w : World} {b : Nat} {t : TypeId} {cs : Array Value} {ad : Addr} {x : Option Addr} {K : Option Addr → Prop} (h : Blt w b t cs) (hc : cs[i]? = some (.pointer x)) (hk : K x) (hA : ad = ⟨b, i, none⟩ := by first | rfl | exact add_off) : ldP ad w K := by
  subst hA; exact ⟨x, h.cell hc, hk⟩

theorem out_t {V : Nat → Prop} {ad : Addr} {b i : Nat} {p : Prop} (hA : ad = ⟨b, i, none⟩) (hv : ¬ V b) (h : p) : Out V ad p := by subst hA; exact ⟨hv, h⟩
theorem br_map {b : Bool} {X Y X' Y' : Prop} (h : br b X Y) (hx : X → X') (hy : Y → Y') : br b X' Y' := by cases b; exact hy h; exact hx h
theorem onSome_map {p : Option Addr} {K K' : Addr → Prop} (h : onSome p K) (hk : ∀ ad, K ad → K' ad) : onSome p K' := by
  cases p; exact h.elim; exact hk _ h
theorem semwp_map {P : Program} {α : Type} {e : Sem α} {w : World} {Q Q' : α → World → Prop} {E : Halt → World → Prop} (h : Sem.wp P e Q E w) (hq : ∀ a w', Q a w' → Q' a w') : Sem.wp P e Q' E w := by
  rw [Sem.wp_iff_run] at h ⊢
  generalize e.run P w = r at h
  cases r with
  | halt x w' => exact h
  | ok n w' => exact hq _ _ h
section
variable {P : Program} {e : Sem Value} {w : World}
theorem semS_map {K K' : Slc → World → Prop} (h : semS P e w K) (hk : ∀ x w', K x w' → K' x w') : semS P e w K' := semwp_map h fun _ _ ⟨x, h1, h2⟩ => ⟨x, h1, hk _ _ h2⟩
theorem semI_map {k : IntKind} {K K' : Int → World → Prop} (h : semI P k e w K) (hk : ∀ x w', K x w' → K' x w') : semI P k e w K' := semwp_map h fun _ _ ⟨x, h1, h2⟩ => ⟨x, h1, hk _ _ h2⟩
theorem semA_map {K K' : Addr → World → Prop} (h : semA P e w K) (hk : ∀ x w', K x w' → K' x w') : semA P e w K' := semwp_map h fun _ _ ⟨x, h1, h2⟩ => ⟨x, h1, hk _ _ h2⟩
theorem semN_map {K K' : ByteArray → World → Prop} (h : semN P e w K) (hk : ∀ x w', K x w' → K' x w') : semN P e w K' := semwp_map h fun _ _ ⟨x, h1, h2⟩ => ⟨x, h1, hk _ _ h2⟩
theorem semB_map {K K' : Bool → World → Prop} (h : semB P e w K) (hk : ∀ x w', K x w' → K' x w') : semB P e w K' := semwp_map h fun _ _ ⟨x, h1, h2⟩ => ⟨x, h1, hk _ _ h2⟩
end

/-- The block is no local variable's. -/
def NoLoc (w : World) (k : Nat) : Prop := ∀ (t : TypeId) (cs : Array Value), w.heap[k]? = some (Obj.cells cs t (0, 0)) → rowTy t = false → False
theorem bar_ahead2 {V : Nat → Prop} {w0 w w' : World} (h : Ahead w0 w) (hb : Bar V w w') (hv : ∀ k, V k → w0.heap.size ≤ k) : Ahead w0 w' :=
  ⟨hb.os.trans h.os, hb.tape.trans h.tape, hb.output.trans h.output, Nat.le_trans h.size hb.size, fun k hk => (hb.block k (Nat.lt_of_lt_of_le hk h.size) (fun h1 => by have := hv k h1; omega)).trans (Below.block h k hk)⟩

/-- A step that writes over rows of the call's own (the document's Own). -/
def OwnStep (w0 w w' : World) : Prop := ∃ V : Nat → Prop, Bar V w w' ∧ ∀ k, V k → w0.heap.size ≤ k ∧ NoLoc w k

/-! ### What stays -/
theorem _root_.Go.Proofs.YthhbjhdnaopcnaaDoor.Sp.Rd.ext {w w' : World} {s : Slc} {l : List Int} (h : Rd .u64 w s l) (x : Ext w w') : Rd .u64 w' s l :=
  ⟨h.n, h.c, fun i hi => by obtain ⟨ad, e, hc⟩ := h.get i hi; exact ⟨ad, e, x.cell _ _ hc⟩⟩
theorem _root_.Go.Proofs.YthhbjhdnaopcnaaDoor.Sp.Own.ext {k : IntKind} {t : TypeId} {w w' : World} {s : Slc} {l : List Int} {b : Nat} (h : Own k t w s l b) (x : Ext w w') (ht : rowTy t = true := by rfl) : Own k t w' s l b := by
  obtain ⟨sp, h1, h2⟩ := h.mem
  exact ⟨h.hd, sp, h1, x.row _ _ _ _ h2 ht⟩

end L2
end Go.Proofs.YthhbjhdnaopcnaaDoor
