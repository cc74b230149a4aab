/- Variables of struct type in memory of the call's own: cells made, read, written. No condition. -/
import Derived.Test.YthhbjhdnaopcnaaDoorMul2
namespace Go.Proofs.YthhbjhdnaopcnaaDoor
open Go Go.RowKit Eng Sp Dg
set_option linter.unusedVariables false
set_option linter.unusedSimpArgs false
set_option maxRecDepth 100000
namespace Sb
open _root_.Go.Proofs.YthhbjhdnaopcnaaDoor.Nat (OwnNil)
open _root_.Go.Proofs.YthhbjhdnaopcnaaDoor.Mul (Only Off)

/-- The block's cells. -/
def Blk (w : World) (b : Nat) (cs : Array Value) : Prop := ∃ t, w.heap[b]? = some (.cells cs t (0, 0))
theorem Blk.lt {w : World} {b : Nat} {cs : Array Value} (h : Blk w b cs) : b < w.heap.size := by
  obtain ⟨t, h⟩ := h; exact (Array.getElem?_eq_some_iff.1 h).1
theorem Blk.ahead {w w' : World} {b : Nat} {cs : Array Value} (h : Blk w b cs) (ha : Ahead w w') : Blk w' b cs := by
  have hl := h.lt
  obtain ⟨t, h⟩ := h; exact ⟨t, by rw [Below.block ha b hl]; exact h⟩
theorem Blk.only {w w' : World} {b k : Nat} {cs : Array Value} (h : Blk w b cs) (ho : Only k w w') (hne : b ≠ k) : Blk w' b cs := by
  obtain ⟨t, h⟩ := h; exact ⟨t, by rw [ho.2.2.2.2 b hne]; exact h⟩
theorem Blk.cell {w : World} {b i : Nat} {cs : Array Value} {v : Value} (h : Blk w b cs) (hc : cs[i]? = some v) : w.cell? ⟨b, i, none⟩ = some v := by
  obtain ⟨t, h⟩ := h
  simp [World.cell?, h, hc]

theorem newC_b {w : World} {cs : Array Value} {t : TypeId} {K : Addr → World → Prop} (h : ∀ b w', b = w.heap.size → Ahead w w' → w'.heap.size = b + 1 → Blk w' b cs → K ⟨b, 0, none⟩ w') : newC w cs t K :=
  h _ _ rfl (Ahead.alloc _ _) (size_alloc _ _) ⟨t, get_alloc _ _⟩

/-- Nothing but the block, which holds no limb, has changed. -/
structure Upd (b : Nat) (w w' : World) : Prop where
  only : Only b w w'
  rd : ∀ s l, Rd .u64 w s l → Rd .u64 w' s l
theorem Upd.trans {b : Nat} {w w' w'' : World} (h : Upd b w w') (h' : Upd b w' w'') : Upd b w w'' := ⟨h.only.trans h'.only, fun s l hr => h'.rd s l (h.rd s l hr)⟩
theorem Upd.ahead {b : Nat} {w0 w w' : World} (h : Upd b w w') (ha : Ahead w0 w) (hb : w0.heap.size ≤ b) : Ahead w0 w' := h.only.ahead ha hb
theorem Upd.size {b : Nat} {w w' : World} (h : Upd b w w') : w'.heap.size = w.heap.size := h.only.2.2.2.1
theorem Upd.own {b base : Nat} {w w' : World} (h : Upd b w w') {s : Slc} {l : List Nat} (hr : OwnNil base w s l) (ho : b < base) : OwnNil base w' s l := h.only.ownNil hr ho
/-- What lay in memory that was there before the block. -/
theorem Upd.own2 {k base : Nat} {w0 w w' : World} (u : Upd k w w') {s : Slc} {l : List Nat} (h : OwnNil base w0 s l) (ha : Ahead w0 w) (hk : w0.heap.size ≤ k) : OwnNil base w' s l := by
  rcases h with h1 | ⟨b, h1, h2, h3⟩
  · exact .inl h1
  · have := h3.lt
    exact .inr ⟨b, h1, h2, u.only.own (h3.ahead ha) (by omega)⟩
theorem Upd.blk {b k : Nat} {w w' : World} {cs : Array Value} (h : Upd k w w') (hr : Blk w b cs) (hne : b ≠ k) : Blk w' b cs := hr.only h.only hne
theorem Upd.cell {b : Nat} {w w' : World} (h : Upd b w w') {ad : Addr} {v : Value} (hne : ad.block ≠ b) (hc : w.cell? ad = some v) : w'.cell? ad = some v := by
  rw [World.cell?_of_block (h.only.2.2.2.2 _ hne)]; exact hc

def noU (cs : Array Value) : Bool := cs.toList.all fun v => match v with
  | .int .u64 _ => false
  | _ => true
theorem off_blk {w : World} {b : Nat} {cs : Array Value} {s : Slc} {l : List Int} (h : Blk w b cs) (hn : noU cs = true) (hr : Rd .u64 w s l) : Off b s := by
  intro ad e hp hb
  obtain ⟨ad', e', hc⟩ := hr.get 0 (by have := hr.n; omega)
  rw [e] at e'
  obtain rfl := Option.some.inj e'
  obtain ⟨t, h⟩ := h
  have hadd : ad.add 0 = ad := by simp [Addr.add]
  rw [hadd, World.cell?, hb, h] at hc
  simp only at hc
  split at hc
  · cases hc
  · have hm := Array.mem_of_getElem? hc
    unfold noU at hn
    have := List.all_eq_true.1 hn _ (Array.mem_toList_iff.2 hm)
    simp at this

theorem stC_b (i : Nat) {w : World} {b : Nat} {cs : Array Value} {ad : Addr} {v : Value} {K : World → Prop} (h : Blk w b cs) (hi : i < cs.size) (hn : noU cs = true)
    (hk : ∀ w', Upd b w w' → Blk w' b (cs.setIfInBounds i v) → K w') (hA : ad = ⟨b, i, none⟩ := by first | rfl | exact add_off) : stC ad v w K := by
  subst hA
  obtain ⟨t, hh⟩ := h
  have ho : Only b w (w.setCell ⟨b, i, none⟩ v) := Only.setCell b i w v
  refine ⟨⟨cs[i], by simp [World.cell?, hh, hi]⟩, by simp [World.frozen?, hh], hk _ ⟨ho, fun s l hr => ho.rd hr (off_blk ⟨t, hh⟩ hn hr)⟩ ⟨t, ?_⟩⟩
  have hlt := (Array.getElem?_eq_some_iff.1 hh).1
  have hget := (Array.getElem?_eq_some_iff.1 hh).2
  simp [World.setCell, Array.getElem?_modify, hh]
theorem ldB_b (i : Nat) {w : World} {b : Nat} {cs : Array Value} {ad : Addr} {x : Bool} {K : Bool → Prop} (h : Blk w b cs) (hc : cs[i]? = some (.bool x)) (hk : K x) (hA : ad = ⟨b, i, none⟩ := by first | rfl | exact add_off) : ldB ad w K := by
  subst hA; exact ⟨x, h.cell hc, hk⟩
theorem ldS_b (i : Nat) {w : World} {b : Nat} {cs : Array Value} {ad : Addr} {x : Slc} {K : Slc → Prop} (h : Blk w b cs) (hc : cs[i]? = some x.v) (hk : K x) (hA : ad = ⟨b, i, none⟩ := by first | rfl | exact add_off) : ldS ad w K := by
  subst hA; exact ⟨x, h.cell hc, hk⟩
theorem ldI_b (i : Nat) {w : World} {b : Nat} {cs : Array Value} {ad : Addr} {k : IntKind} {x : Int} {K : Int → Prop} (h : Blk w b cs) (hc : cs[i]? = some (.int k x)) (hk : K x) (hA : ad = ⟨b, i, none⟩ := by first | rfl | exact add_off) : ldI k ad w K := by
  subst hA; exact ⟨x, h.cell hc, hk⟩

/-! ### A sign, a slice, an exponent -/
abbrev c3 (x : Bool) (s : Slc) (e : Int) : Array Value := #[.bool x, s.v, .int .i64 e]
abbrev c2 (x : Bool) (s : Slc) : Array Value := #[.bool x, s.v]
theorem noU3 (x : Bool) (s : Slc) (e : Int) : noU (c3 x s e) = true := rfl
theorem noU2 (x : Bool) (s : Slc) : noU (c2 x s) = true := rfl
theorem get3 {w : World} {b : Nat} {x : Bool} {s : Slc} {e : Int} {K : Bool → Slc → Int → Prop} (h : Blk w b (c3 x s e)) (hk : K x s e) :
    ldB ⟨b, 0, none⟩ w fun x' => ldS ((⟨b, 0, none⟩ : Addr).add 1) w fun s' => ldI .i64 ((⟨b, 0, none⟩ : Addr).add 2) w fun e' => K x' s' e' :=
  ldB_b 0 h rfl (ldS_b 1 h rfl (ldI_b 2 h rfl hk))
theorem get2 {w : World} {b : Nat} {x : Bool} {s : Slc} {cs : Array Value} {K : Bool → Slc → Prop} (h : Blk w b cs) (h0 : cs[0]? = some (.bool x)) (h1 : cs[1]? = some s.v) (hk : K x s) :
    ldB ⟨b, 0, none⟩ w fun x' => ldS ((⟨b, 0, none⟩ : Addr).add 1) w fun s' => K x' s' :=
  ldB_b 0 h h0 (ldS_b 1 h h1 hk)
theorem set3 {w : World} {b : Nat} {x0 x : Bool} {s0 s : Slc} {e0 e : Int} {K : World → Prop} (h : Blk w b (c3 x0 s0 e0)) (hk : ∀ w', Upd b w w' → Blk w' b (c3 x s e) → K w') :
    stC ⟨b, 0, none⟩ (.bool x) w fun w1 => stC ((⟨b, 0, none⟩ : Addr).add 1) s.v w1 fun w2 => stC ((⟨b, 0, none⟩ : Addr).add 2) (.int .i64 e) w2 fun w3 => K w3 :=
  stC_b 0 h (by simp) rfl fun w1 u1 h1 => stC_b 1 (cs := c3 x s0 e0) h1 (by simp) rfl fun w2 u2 h2 => stC_b 2 (cs := c3 x s e0) h2 (by simp) rfl fun w3 u3 h3 => hk w3 ((u1.trans u2).trans u3) h3
theorem set2 {w : World} {b : Nat} {x0 x : Bool} {s0 s : Slc} {K : World → Prop} (h : Blk w b (c2 x0 s0)) (hk : ∀ w', Upd b w w' → Blk w' b (c2 x s) → K w') :
    stC ⟨b, 0, none⟩ (.bool x) w fun w1 => stC ((⟨b, 0, none⟩ : Addr).add 1) s.v w1 fun w2 => K w2 :=
  stC_b 0 h (by simp) rfl fun w1 u1 h1 => stC_b 1 (cs := c2 x s0) h1 (by simp) rfl fun w2 u2 h2 => hk w2 (u1.trans u2) h2
theorem ret3 {w : World} {b : Nat} {x0 x : Bool} {s0 s : Slc} {e0 e : Int} {K : Bool → Slc → Int → World → Prop} (h : Blk w b (c3 x0 s0 e0)) (hk : ∀ w', Upd b w w' → Blk w' b (c3 x s e) → K x s e w') :
    stC ⟨b, 0, none⟩ (.bool x) w fun w1 => stC ((⟨b, 0, none⟩ : Addr).add 1) s.v w1 fun w2 => stC ((⟨b, 0, none⟩ : Addr).add 2) (.int .i64 e) w2 fun w3 =>
      ldB ⟨b, 0, none⟩ w3 fun x' => ldS ((⟨b, 0, none⟩ : Addr).add 1) w3 fun s' => ldI .i64 ((⟨b, 0, none⟩ : Addr).add 2) w3 fun e' => K x' s' e' w3 :=
  set3 h fun w' u h' => get3 h' (hk w' u h')
theorem ret2 {w : World} {b : Nat} {x0 x : Bool} {s0 s : Slc} {K : Bool → Slc → World → Prop} (h : Blk w b (c2 x0 s0)) (hk : ∀ w', Upd b w w' → Blk w' b (c2 x s) → K x s w') :
    stC ⟨b, 0, none⟩ (.bool x) w fun w1 => stC ((⟨b, 0, none⟩ : Addr).add 1) s.v w1 fun w2 =>
      ldB ⟨b, 0, none⟩ w2 fun x' => ldS ((⟨b, 0, none⟩ : Addr).add 1) w2 fun s' => K x' s' w2 :=
  set2 h fun w' u h' => get2 h' rfl rfl (hk w' u h')

end Sb
end Go.Proofs.YthhbjhdnaopcnaaDoor
