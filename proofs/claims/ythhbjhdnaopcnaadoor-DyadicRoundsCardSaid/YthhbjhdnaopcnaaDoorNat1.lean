/- The contracts of nat's functions: trim, told, Norm, From, Length. No condition. -/
import Derived.Test.YthhbjhdnaopcnaaDoorNm
import Derived.Test.YthhbjhdnaopcnaaDoorIds
import Derived.Test.YthhbjhdnaopcnaaDoorShelf
import Derived.Test.YthhbjhdnaopcnaaDoorVcNat
namespace Go.Proofs.YthhbjhdnaopcnaaDoor
open Go Go.RowKit Eng Sp Dg
set_option linter.unusedVariables false
set_option linter.unusedSimpArgs false
set_option maxRecDepth 100000
namespace Nat

theorem ldN {t : TypeId} {w : World} {s : Slc} {l : List Nat} (h : Rd .u64 w s (nn l)) {i : Int} (h0 : 0 ≤ i) (h1 : i < l.length) {K : Int → World → Prop}
    (hk : K ((l.getD i.toNat 0 : Nat) : Int) w) (hT : isSl pr t .u64 = some tU64 := by kernel_rfl) : semA pr (Instr.indexAt t s.v (.int .i64 i)) w fun ad w1 => ldI .u64 ad w1 fun x => K x w1 :=
  ix_ld hT h h0 (by simpa using h1) (by rw [nn_getD]; exact hk)
theorem ldNf {t : TypeId} {w : World} {s : Slc} {l : List Nat} (h : Rd .u64 w s (nn l)) {i : Int} (h0 : 0 ≤ i) (h1 : i < l.length) {K : Int → Prop}
    (hk : K ((l.getD i.toNat 0 : Nat) : Int)) (hT : isSl pr t .u64 = some tU64 := by kernel_rfl) : fixA pr (Instr.indexAt t s.v (.int .i64 i)) w fun ad => ldI .u64 ad w fun x => K x :=
  ix_fix hT h h0 (by simpa using h1) (by rw [nn_getD]; exact hk)
theorem stN {t : TypeId} {w : World} {s : Slc} {l : List Nat} {b : Nat} (h : Own .u64 tU64 w s (nn l) b) {i : Int} (h0 : 0 ≤ i) (h1 : i < l.length) {x : Nat} {K : World → Prop}
    (hk : ∀ w', Own .u64 tU64 w' s (nn (l.set i.toNat x)) b → (∀ w0, Ahead w0 w → w0.heap.size ≤ b → Ahead w0 w') → w'.heap.size = w.heap.size → K w')
    (hT : isSl pr t .u64 = some tU64 := by kernel_rfl) : semA pr (Instr.indexAt t s.v (.int .i64 i)) w fun ad w1 => stC ad (.int .u64 (x : Int)) w1 fun w2 => K w2 :=
  ix_st hT h h0 (by simpa using h1) (fun w' ho ha hs => hk w' (by rw [← nn_set]; exact ho) ha hs)
theorem mkN {t : TypeId} {w : World} {n : Int} (h0 : 0 ≤ n) (hn : n * 8 ≤ 2 ^ 48) {K : Slc → World → Prop}
    (hk : ∀ s w', s.c = n.toNat → Own .u64 tU64 w' s (nn (List.replicate n.toNat 0)) w.heap.size → Ahead w w' → w'.heap.size = w.heap.size + 1 → K s w')
    (hT : isSl pr t .u64 = some tU64 := by kernel_rfl) : semS pr (Instr.makeSlice t (.int .i64 n) (.int .i64 n)) w fun s w' => K s w' :=
  mk hT h0 (Int.le_refl _) hn (fun s w' hc ho ha hs => hk s w' hc (by rw [← nn_replicate]; exact ho) ha hs)
theorem cutHi {t : TypeId} {w : World} {s : Slc} {h : Int} (h0 : 0 ≤ h) (h1 : h ≤ s.c) {K : Slc → World → Prop} (hk : K ⟨s.A, h.toNat, s.c⟩ w)
    (hT : isSl pr t .u64 = some tU64 := by kernel_rfl) : semS pr (Instr.sliceAt t s.v none (some (.int .i64 h)) none) w fun s' w' => K s' w' := by
  unfold semS; rw [Sem.wp_iff_run, run_slice_hi hT w s h0 h1]; exact ⟨_, rfl, hk⟩
theorem cutLo {t : TypeId} {w : World} {s : Slc} {h : Int} (h0 : 0 ≤ h) (h1 : h ≤ s.n) {K : Slc → World → Prop} (hk : K ⟨if s.c = h.toNat then s.A else s.A.map (·.add h.toNat), s.n - h.toNat, s.c - h.toNat⟩ w)
    (hT : isSl pr t .u64 = some tU64 := by kernel_rfl) : semS pr (Instr.sliceAt t s.v (some (.int .i64 h)) none none) w fun s' w' => K s' w' := by
  unfold semS; rw [Sem.wp_iff_run, run_slice_lo hT w s h0 h1]; exact ⟨_, rfl, hk⟩
theorem cutCap {t : TypeId} {w : World} {s : Slc} {h : Int} (h0 : 0 ≤ h) (h1 : h ≤ s.c) {K : Slc → World → Prop} (hk : K ⟨s.A, h.toNat, h.toNat⟩ w)
    (hT : isSl pr t .u64 = some tU64 := by kernel_rfl) : semS pr (Instr.sliceAt t s.v none (some (.int .i64 h)) (some (.int .i64 h))) w fun s' w' => K s' w' := by
  unfold semS; rw [Sem.wp_iff_run, run_slice_cap hT w s h0 h1]; exact ⟨_, rfl, hk⟩

theorem trim_spec {w : World} {s : Slc} {l : List Nat} (h : Rd .u64 w s (nn l)) (hl : l.length ≤ 2 ^ 46) (hok : ok B64 l) :
    Calls pr nat_trim_id #[s.v] w fun e w' => w' = w ∧ ∃ m, m ≤ l.length ∧ digs B64 (val B64 l) = l.take m ∧ e = .returned (Slc.v ⟨s.A, m, s.c⟩) := by
  have hn : s.n = l.length := by rw [h.n, nn_length]
  have hc := h.c
  refine nat_trim_vc s w _ (fun t w' => w' = w ∧ t.n ≤ l.length ∧ t = ⟨s.A, t.n, s.c⟩ ∧ ∀ i, t.n ≤ i → i < l.length → l.getD i 0 = 0) (fun t _ => t.n)
    ⟨rfl, by omega, by cases s; rfl, fun i h1 h2 => by omega⟩ ?_
  rintro t w' ⟨rfl, hm, ht, hz⟩
  have hrt : Rd .u64 w' t (nn (l.take t.n)) := by rw [ht]; simp only; rw [← nn_take]; exact h.take (by simp; omega) (by omega)
  refine br_intro (fun hp => ?_) (fun hp => ?_)
  · have hp' : 0 < t.n := by simp at hp; omega
    have e1 : IntKind.i64.wrap ((t.n : Int) - 1) = (t.n : Int) - 1 := wrap_i64 (by omega) (by omega)
    rw [e1]
    refine ldN hrt (by omega) (by simp; omega) ?_
    have e2 : ((t.n : Int) - 1).toNat = t.n - 1 := by omega
    rw [e2]
    have e3 : (l.take t.n).getD (t.n - 1) 0 = l.getD (t.n - 1) 0 := by simp [List.getD_eq_getElem?_getD, List.getElem?_take, show t.n - 1 < t.n by omega]
    rw [e3]
    refine br_intro (fun hx => ?_) (fun hx => ?_)
    · refine cutHi (by omega) (by rw [ht]; simp only; omega) ?_
      refine ⟨⟨rfl, by simp only [e2]; omega, by rw [ht], fun i h1 h2 => ?_⟩, by simp only [e2]; omega⟩
      simp only [e2] at h1
      by_cases hi : i = t.n - 1
      · subst hi; simpa using hx
      · exact hz i (by omega) h2
    · refine ⟨rfl, t.n, hm, digs_take two64 hok hm hz (.inr ?_), by rw [ht]⟩
      simpa using hx
  · have hp' : t.n = 0 := by simp at hp; omega
    exact ⟨rfl, t.n, hm, digs_take two64 hok hm hz (.inl hp'), by rw [ht]⟩

/-- Memory of the call's own that holds a number's limbs, and nothing above them; or nil. -/
def OwnNil (base : Nat) (w : World) (s : Slc) (l : List Nat) : Prop := (s = ⟨none, 0, 0⟩ ∧ l = []) ∨ ∃ b, base ≤ b ∧ s.c ≤ maxLen ∧ Own .u64 tU64 w s (nn l) b
theorem OwnNil.rd {base : Nat} {w : World} {s : Slc} {l : List Nat} (h : OwnNil base w s l) : Rd .u64 w s (nn l) := by
  rcases h with ⟨rfl, rfl⟩ | ⟨b, _, _, h⟩
  · exact Rd.nil
  · exact h.rd
theorem OwnNil.ahead {base : Nat} {w w' : World} {s : Slc} {l : List Nat} (h : OwnNil base w s l) (ha : Ahead w w') : OwnNil base w' s l := by
  rcases h with h | ⟨b, h1, h2, h3⟩
  · exact .inl h
  · exact .inr ⟨b, h1, h2, h3.ahead ha⟩
theorem OwnNil.mono {base base' : Nat} {w : World} {s : Slc} {l : List Nat} (h : OwnNil base w s l) (hb : base' ≤ base) : OwnNil base' w s l := by
  rcases h with h | ⟨b, h1, h2, h3⟩
  · exact .inl h
  · exact .inr ⟨b, by omega, h2, h3⟩
theorem OwnNil.nil {base : Nat} {w : World} : OwnNil base w ⟨none, 0, 0⟩ [] := .inl ⟨rfl, rfl⟩

/-- The limbs' length of a number that l holds. -/
theorem len_le {l : List Nat} (hok : ok B64 l) : (digs B64 (val B64 l)).length ≤ l.length := digs_length_le two64 (val_lt hok)

theorem Length_spec {w : World} {s : Slc} {l : List Nat} (h : Rd .u64 w s (nn l)) (hl : l.length ≤ 2 ^ 46) (hok : ok B64 l) :
    Calls pr nat_Length_id #[s.v] w fun e w' => w' = w ∧ e = .returned (.int .i64 (bl (val B64 l))) := by
  refine nat_Length_vc s w _ ?_
  refine Calls.mono (trim_spec h hl hok) ?_
  rintro e w' ⟨rfl, m, hm, hd, rfl⟩
  refine ⟨_, rfl, ?_⟩
  have hc := h.c
  have hn : s.n = l.length := by rw [h.n, nn_length]
  have hlen : (digs B64 (val B64 l)).length = m := by rw [hd, List.length_take]; omega
  refine br_intro (fun hz => ?_) (fun hz => ?_)
  · have : m = 0 := by simp at hz; omega
    subst this
    refine ⟨rfl, ?_⟩
    have : val B64 l = 0 := by
      rw [← val_digs two64 (val B64 l), hd]; simp [val]
    rw [this, bl_zero]; rfl
  · have hp : 0 < m := by simp at hz; omega
    have e1 : IntKind.i64.wrap ((m : Int) - 1) = (m : Int) - 1 := wrap_i64 (by omega) (by omega)
    simp only [e1]
    have hr : Rd .u64 w' ⟨s.A, m, s.c⟩ (nn (l.take m)) := by rw [← nn_take]; exact h.take (by simp; omega) (by omega)
    refine ldN hr (by omega) (by simp; omega) ?_
    have e2 : ((m : Int) - 1).toNat = m - 1 := by omega
    rw [e2, ← hd]
    have hB := B64v
    have ho := ok_getD (ok_digs two64 (val B64 l)) (by omega : 0 < B64) (m - 1)
    refine Calls.mono (Tryd.bits_Len64 _ _ (by omega) (by omega)) ?_
    rintro e w'' ⟨rfl, rfl⟩
    refine ⟨_, rfl, rfl, ?_⟩
    rw [Int.toNat_natCast, bitLen_eq ho]
    have hb := bl_top (n := val B64 l) (m := m - 1) (by omega)
    have hb64 : bl ((digs B64 (val B64 l)).getD (m - 1) 0) ≤ 64 := bl_le ho
    rw [hb]
    have e3 : IntKind.i64.wrap (64 * ((m : Int) - 1)) = 64 * ((m : Int) - 1) := wrap_i64 (by omega) (by omega)
    rw [e3, wrap_i64 (by omega) (by omega)]
    congr 2; omega

theorem told_spec {w : World} {s : Slc} {l : List Nat} (h : Rd .u64 w s (nn l)) (hl : l.length ≤ 2 ^ 46) (hok : ok B64 l) :
    Calls pr nat_told_id #[s.v] w fun e w' => w' = w ∧ ∃ m, m ≤ l.length ∧ digs B64 (val B64 l) = l.take m ∧
      ((bl (val B64 l) ≤ 67108864 ∧ e = .returned (.tuple #[Slc.v ⟨s.A, m, s.c⟩, .int .i64 0])) ∨ (67108864 < bl (val B64 l) ∧ e = .returned (.tuple #[Slc.v ⟨none, 0, 0⟩, .int .i64 3]))) := by
  refine nat_told_vc s w _ ?_
  refine Calls.mono (trim_spec h hl hok) ?_
  rintro e w' ⟨rfl, m, hm, hd, rfl⟩
  refine ⟨_, rfl, ?_⟩
  have hc := h.c
  have hn : s.n = l.length := by rw [h.n, nn_length]
  have hr : Rd .u64 w' ⟨s.A, m, s.c⟩ (nn (l.take m)) := by rw [← nn_take]; exact h.take (by simp; omega) (by omega)
  refine Calls.mono (Length_spec hr (by simp; omega) (ok_take hok m)) ?_
  rintro e w'' ⟨rfl, rfl⟩
  refine ⟨_, rfl, ?_⟩
  rw [← hd, val_digs two64]
  refine br_intro (fun hb => ?_) (fun hb => ?_)
  · exact ⟨rfl, m, hm, hd, .inr ⟨by simp at hb; omega, rfl⟩⟩
  · exact ⟨rfl, m, hm, hd, .inl ⟨by simp at hb; omega, rfl⟩⟩

/-- The answer of a function that makes a number: it, or ErrBig. -/
def Ans (w : World) (n : Nat) (e : Ending) (w' : World) : Prop :=
  Ahead w w' ∧ ∃ s c, e = .returned (.tuple #[Slc.v s, .int .i64 c]) ∧ ((bl n ≤ 67108864 ∧ c = 0 ∧ OwnNil w.heap.size w' s (digs B64 n)) ∨ (67108864 < bl n ∧ c = 3 ∧ s = ⟨none, 0, 0⟩))

/-- told of a row of one's own. -/
theorem told_own {w0 w : World} {s : Slc} {l : List Nat} {b : Nat} (h : Own .u64 tU64 w s (nn l) b) (hb : w0.heap.size ≤ b) (hc : s.c ≤ maxLen) (ha : Ahead w0 w) (hl : l.length ≤ 2 ^ 46) (hok : ok B64 l) :
    Calls pr nat_told_id #[s.v] w (Ans w0 (val B64 l)) := by
  refine Calls.mono (told_spec h.rd hl hok) ?_
  rintro e w' ⟨rfl, m, hm, hd, hh⟩
  refine ⟨ha, ?_⟩
  rcases hh with ⟨h1, rfl⟩ | ⟨h1, rfl⟩
  · refine ⟨_, _, rfl, .inl ⟨h1, rfl, .inr ⟨b, hb, hc, ?_⟩⟩⟩
    have := h.take (m := m) (by simpa using hm)
    rw [hd, ← nn_take]
    exact this
  · exact ⟨_, _, rfl, .inr ⟨h1, rfl, rfl⟩⟩

theorem Norm_spec {w : World} {s : Slc} {l : List Nat} (h : Rd .u64 w s (nn l)) (hl : l.length ≤ 2 ^ 44) (hok : ok B64 l) :
    Calls pr nat_Norm_id #[s.v] w fun e w' => Ahead w w' ∧ ∃ s', e = .returned (Slc.v s') ∧ OwnNil w.heap.size w' s' (digs B64 (val B64 l)) := by
  refine nat_Norm_vc s w _ ?_
  refine Calls.mono (trim_spec h (by omega) hok) ?_
  rintro e w' ⟨rfl, m, hm, hd, rfl⟩
  refine ⟨_, rfl, ?_⟩
  have hc := h.c
  have hn : s.n = l.length := by rw [h.n, nn_length]
  have hr : Rd .u64 w' ⟨s.A, m, s.c⟩ (nn (l.take m)) := by rw [← nn_take]; exact h.take (by simp; omega) (by omega)
  by_cases hp : 0 < m
  · refine app (t := _) (e := tU64) (k := .u64) (l := []) (base := w'.heap.size) (by kernel_rfl) hr (by simp; omega) (.inl ⟨rfl, rfl⟩) (Nat.le_refl _) (by simp; omega) ?_
    intro s' w1 b' hb' hc' ho hbl hah
    refine ⟨hbl, _, rfl, .inr ⟨b', hb', hc', ?_⟩⟩
    rw [hd]; exact ho
  · obtain rfl : m = 0 := by omega
    refine app0 (e := tU64) (k := .u64) (by kernel_rfl) rfl ?_
    refine ⟨Ahead.refl _, _, rfl, ?_⟩
    rw [hd]; exact OwnNil.nil

theorem From_spec {w : World} {v : Nat} (hv : v < B64) :
    Calls pr nat_From_id #[.int .u64 v] w fun e w' => Ahead w w' ∧ ∃ s', e = .returned (Slc.v s') ∧ OwnNil w.heap.size w' s' (digs B64 v) := by
  refine nat_From_vc _ w _ ?_
  refine br_intro (fun h => ?_) (fun h => ?_)
  · have : v = 0 := by simpa using h
    subst this
    exact ⟨Ahead.refl _, _, rfl, by rw [digs_zero]; exact OwnNil.nil⟩
  · have hne : v ≠ 0 := by simpa using h
    have hd : digs B64 v = [v] := by
      rw [digs_pos two64 hne, Nat.mod_eq_of_lt hv, Nat.div_eq_of_lt hv, digs_zero]
    refine ⟨Ahead.alloc _ _, _, rfl, .inr ⟨w.heap.size, Nat.le_refl _, by show 1 ≤ maxLen; unfold maxLen; omega, by rw [hd]; rfl, [], by rw [hd]; rfl, ?_⟩⟩
    rw [get_alloc, hd]; rfl

end Nat
end Go.Proofs.YthhbjhdnaopcnaaDoor
