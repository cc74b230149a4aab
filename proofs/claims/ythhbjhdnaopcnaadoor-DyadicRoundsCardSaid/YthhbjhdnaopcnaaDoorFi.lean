/- A row of the call's own that is being filled, beside what it is filled from; shifts; bits. No condition. -/
import Derived.Test.YthhbjhdnaopcnaaDoorNat1
import Derived.Test.YthhbjhdnaopcnaaDoorPu
namespace Go.Proofs.YthhbjhdnaopcnaaDoor
open Go Go.RowKit Eng Sp Dg
set_option linter.unusedVariables false
set_option linter.unusedSimpArgs false
set_option maxRecDepth 100000
namespace Nat

/-- The row c holds l, in memory that is newer than w0; what S says of the world stood before the row was laid, and no store changes it. -/
def Fill (w0 w : World) (c : Slc) (l : List Nat) (S : World → Prop) : Prop :=
  ∃ (b : Nat) (w1 : World), Own .u64 tU64 w c (nn l) b ∧ c.c ≤ maxLen ∧ w0.heap.size ≤ b ∧ Ahead w0 w ∧ Ahead w1 w ∧ w1.heap.size ≤ b ∧ S w1

theorem Fill.rd {w0 w : World} {c : Slc} {l : List Nat} {S : World → Prop} (h : Fill w0 w c l S) : Rd .u64 w c (nn l) := by
  obtain ⟨b, w1, ho, _⟩ := h; exact ho.rd
theorem Fill.base {w0 w : World} {c : Slc} {l : List Nat} {S : World → Prop} (h : Fill w0 w c l S) : Ahead w0 w := by
  obtain ⟨b, w1, _, _, _, ha, _⟩ := h; exact ha
theorem Fill.src {w0 w : World} {c : Slc} {l : List Nat} {S : World → Prop} (h : Fill w0 w c l S) (hS : ∀ w1, Ahead w1 w → S w1 → S w) : S w := by
  obtain ⟨b, w1, _, _, _, _, ha, _, hs⟩ := h; exact hS w1 ha hs
theorem Fill.ahead {w0 w w' : World} {c : Slc} {l : List Nat} {S : World → Prop} (h : Fill w0 w c l S) (ha : Ahead w w') : Fill w0 w' c l S := by
  obtain ⟨b, w1, h1, h2, h3, h4, h5, h6, h7⟩ := h
  exact ⟨b, w1, h1.ahead ha, h2, h3, h4.trans ha, h5.trans ha, h6, h7⟩
theorem Fill.own {w0 w : World} {c : Slc} {l : List Nat} {S : World → Prop} (h : Fill w0 w c l S) : OwnNil w0.heap.size w c l := by
  obtain ⟨b, w1, h1, h2, h3, _⟩ := h
  exact .inr ⟨b, h3, h2, h1⟩
theorem Fill.n {w0 w : World} {c : Slc} {l : List Nat} {S : World → Prop} (h : Fill w0 w c l S) : c.n = l.length := by rw [h.rd.n, nn_length]

theorem mkF {t : TypeId} {w0 w : World} {n : Int} (h0 : 0 ≤ n) (hn : n * 8 ≤ 2 ^ 48) {S : World → Prop} (ha0 : Ahead w0 w) (hS : S w) {K : Slc → World → Prop}
    (hk : ∀ s w', s.n = n.toNat → Fill w0 w' s (List.replicate n.toNat 0) S → Ahead w w' → K s w')
    (hT : isSl pr t .u64 = some tU64 := by kernel_rfl) : semS pr (Instr.makeSlice t (.int .i64 n) (.int .i64 n)) w fun s w' => K s w' := by
  refine mkN h0 hn (fun s w' hc ho ha hs => hk s w' (by rw [ho.n]; simp) ⟨_, w, ho, by rw [hc]; unfold maxLen; omega, ha0.size, ha0.trans ha, ha, Nat.le_refl _, hS⟩ ha) hT

theorem stF {t : TypeId} {w0 w : World} {s : Slc} {l : List Nat} {S : World → Prop} (h : Fill w0 w s l S) {i : Int} (h0 : 0 ≤ i) (h1 : i < l.length) {x : Nat} {K : World → Prop}
    (hk : ∀ w', Fill w0 w' s (l.set i.toNat x) S → K w')
    (hT : isSl pr t .u64 = some tU64 := by kernel_rfl) : semA pr (Instr.indexAt t s.v (.int .i64 i)) w fun ad w1 => stC ad (.int .u64 (x : Int)) w1 fun w2 => K w2 := by
  obtain ⟨b, w1, ho, h2, h3, h4, h5, h6, h7⟩ := h
  exact stN ho h0 h1 (fun w' ho' ha' _ => hk w' ⟨b, w1, ho', h2, h3, ha' w0 h4 h3, ha' w1 h5 h6, h6, h7⟩) hT

/-- a value that a test of the code has fixed: an index's address, in a world that may move on before the store. -/
theorem stFf {t : TypeId} {w0 w w2 : World} {s : Slc} {l : List Nat} {S : World → Prop} (h : Fill w0 w s l S) (ha : Ahead w w2) {i : Int} (h0 : 0 ≤ i) (h1 : i < l.length) {x : Nat} {K : World → Prop}
    (hk : ∀ w', Fill w0 w' s (l.set i.toNat x) S → K w')
    (hT : isSl pr t .u64 = some tU64 := by kernel_rfl) : fixA pr (Instr.indexAt t s.v (.int .i64 i)) w fun ad => stC ad (.int .u64 (x : Int)) w2 fun w2 => K w2 := by
  obtain ⟨b, w1, ho, h2, h3, h4, h5, h6, h7⟩ := h
  have hA : s.A = some ⟨b, 0, none⟩ := ho.A
  refine ⟨⟨b, i.toNat, none⟩, fun w' ha' => ?_, ?_⟩
  · rw [run_indexAt hT w' s i ⟨b, 0, none⟩ hA h0 (by rw [ho.n]; simpa using h1), add_off]
  · have hl : i.toNat < l.length := by omega
    have ho2 := ho.ahead ha
    refine ⟨⟨_, ho2.cell (by simpa using hl)⟩, ho2.frozen _, ?_⟩
    refine hk _ ⟨b, w1, ?_, h2, h3, Ahead.setCell (h4.trans ha) h3, Ahead.setCell (h5.trans ha) h6, h6, h7⟩
    have := ho2.set (i := i.toNat) (by simpa using hl) (x : Int)
    rw [nn_set] at this
    exact this

theorem Fill.told {w0 w : World} {c : Slc} {l : List Nat} {S : World → Prop} (h : Fill w0 w c l S) (hl : l.length ≤ 2 ^ 46) (hok : ok B64 l) :
    Calls pr nat_told_id #[c.v] w (Ans w0 (val B64 l)) := by
  obtain ⟨b, w1, h1, h2, h3, h4, _⟩ := h
  exact told_own h1 h3 h2 h4 hl hok

/-! ### shifts and bits -/
theorem semShl {x y : Nat} {t : TypeId} {yk : IntKind} {w : World} {K : Int → World → Prop} (hy : y ≤ 64) (h : K ((x * 2 ^ y % B64 : Nat) : Int) w) :
    semI pr .u64 (binOp .shl t (.int .u64 (x : Int)) (.int yk (y : Int))) w K := by
  have e : binOp .shl t (.int .u64 (x : Int)) (.int yk (y : Int)) = pure (.int .u64 ((x * 2 ^ y % B64 : Nat) : Int)) := by
    rw [binOp_shl, shift_shl_any .u64 yk _ _ (by omega)]
    have : min ((y : Int)).toNat IntKind.u64.bits = y := by
      have : IntKind.u64.bits = 64 := rfl
      rw [this]; omega
    rw [this, wrap_u64, B64v]
    congr 2
  unfold semI
  rw [e, Sem.wp_iff_run]
  exact ⟨_, rfl, h⟩
theorem semShr {x y : Nat} {t : TypeId} {yk : IntKind} {w : World} {K : Int → World → Prop} (hy : y ≤ 64) (h : K ((x / 2 ^ y : Nat) : Int) w) :
    semI pr .u64 (binOp .shr t (.int .u64 (x : Int)) (.int yk (y : Int))) w K := by
  have e : binOp .shr t (.int .u64 (x : Int)) (.int yk (y : Int)) = pure (.int .u64 ((x / 2 ^ y : Nat) : Int)) := by
    rw [binOp_shr, shift_shr_any .u64 yk _ _ (by omega)]
    have : min ((y : Int)).toNat IntKind.u64.bits = y := by
      have : IntKind.u64.bits = 64 := rfl
      rw [this]; omega
    rw [this]
    congr 2
  unfold semI
  rw [e, Sem.wp_iff_run]
  exact ⟨_, rfl, h⟩
theorem fixShl {x y : Nat} {t : TypeId} {yk : IntKind} {w : World} {K : Int → Prop} (hy : y ≤ 64) (h : K ((x * 2 ^ y % B64 : Nat) : Int)) :
    fixI pr .u64 (binOp .shl t (.int .u64 (x : Int)) (.int yk (y : Int))) w K := by
  have e : binOp .shl t (.int .u64 (x : Int)) (.int yk (y : Int)) = pure (.int .u64 ((x * 2 ^ y % B64 : Nat) : Int)) := by
    rw [binOp_shl, shift_shl_any .u64 yk _ _ (by omega)]
    have : min ((y : Int)).toNat IntKind.u64.bits = y := by
      have : IntKind.u64.bits = 64 := rfl
      rw [this]; omega
    rw [this, wrap_u64, B64v]
    congr 2
  rw [fixI, e]
  exact ⟨_, fun _ _ => rfl, h⟩
theorem orI_nat {x y : Nat} (hx : x < B64) (hy : y < B64) : orI .u64 (x : Int) (y : Int) = ((x ||| y : Nat) : Int) := by
  have hB := B64v
  unfold orI
  have e : (BitVec.ofInt IntKind.u64.bits (x : Int) ||| BitVec.ofInt IntKind.u64.bits (y : Int)).toNat = x ||| y := by
    rw [BitVec.toNat_or, BitVec.ofInt_natCast, BitVec.ofInt_natCast, BitVec.toNat_ofNat, BitVec.toNat_ofNat]
    show x % 2 ^ 64 ||| y % 2 ^ 64 = _
    rw [Nat.mod_eq_of_lt (by omega), Nat.mod_eq_of_lt (by omega)]
  rw [e]
  refine wrap_u64' (by omega) ?_
  have : x ||| y < 2 ^ 64 := Nat.or_lt_two_pow (by omega) (by omega)
  omega
theorem andI_nat {x y : Nat} (hx : x < B64) (hy : y < B64) : andI .u64 (x : Int) (y : Int) = ((x &&& y : Nat) : Int) := by
  have hB := B64v
  unfold andI
  have e : (BitVec.ofInt IntKind.u64.bits (x : Int) &&& BitVec.ofInt IntKind.u64.bits (y : Int)).toNat = x &&& y := by
    rw [BitVec.toNat_and, BitVec.ofInt_natCast, BitVec.ofInt_natCast, BitVec.toNat_ofNat, BitVec.toNat_ofNat]
    show x % 2 ^ 64 &&& y % 2 ^ 64 = _
    rw [Nat.mod_eq_of_lt (by omega), Nat.mod_eq_of_lt (by omega)]
  rw [e]
  refine wrap_u64' (by omega) ?_
  have : x &&& y < 2 ^ 64 := Nat.and_lt_two_pow _ (by omega)
  omega

end Nat
end Go.Proofs.YthhbjhdnaopcnaaDoor
