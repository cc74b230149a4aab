/- The contract of the reference's Own: lists that lie apart can be written over and grow without touching each other. No condition. -/
import Derived.Test.YthhbjhdnaopcnaaDoorRef3
import Derived.Maps.AppendAt
namespace Go.Proofs.YthhbjhdnaopcnaaDoor
open Go Go.RowKit Eng Sp Dg
set_option linter.unusedVariables false
set_option linter.unusedSimpArgs false
set_option maxRecDepth 100000
namespace Ref
open _root_.Go.Proofs.YthhbjhdnaopcnaaDoor.Nat (ldN OwnNil)

def isRw (P : Program) (t : TypeId) : Bool := match P.underlying t with
  | some (.slice e) => match P.info? e with
    | some i => i.size == 1
    | none => false
  | _ => false
theorem run_indexAtG {P : Program} {t : TypeId} (hT : isRw P t = true) (w : World) (s : Slc) (i : Int) (ad : Addr) (hA : s.A = some ad) (h0 : 0 ≤ i) (h1 : i < s.n) :
    (Instr.indexAt t s.v (.int .i64 i)).run P w = .ok (.pointer (some (ad.add i.toNat))) w := by
  unfold isRw at hT
  split at hT
  · rename_i e hu
    split at hT
    · rename_i inf hi
      have hs : inf.size = 1 := by simpa using hT
      obtain ⟨A, n, c⟩ := s
      simp only at hA h1
      subst hA
      simp only [Instr.indexAt, asIntOf, Slc.v, underlying, program, Sem.run_bind, Sem.run, Result.andThen, hu, Sem.run_pure]
      simp [h0, h1, sizeOf, typeInfo, program, Sem.run, hi, hs, hu]
    · cases hT
  · cases hT

/-- The slice's row lies in this block. -/
def Bk (s : Slc) (k : Nat) : Prop := s.A = some ⟨k, 0, none⟩
def upd {α : Type} (f : Nat → α) (i : Nat) (x : α) : Nat → α := fun j => if j = i then x else f j

/-- The state of a call of Own: the lists lie apart, in memory from base on; their heads stand in the block ab. -/
structure St (V : Nat → Prop) (base : Nat) (w0 : World) (ab n : Nat) (w : World) (S : Nat → Slc) (L : Nat → List Nat) : Prop where
  low : Below base w0 w
  hab : base ≤ ab
  hsz : base ≤ w.heap.size
  row : w.heap[ab]? = some (.cells ((List.range n).map fun j => (S j).v).toArray tU64s (0, 0))
  own : ∀ j, j < n → OwnNil base w (S j) (L j)
  nab : ∀ j, j < n → ¬ Bk (S j) ab
  apart : ∀ i j k, i < n → j < n → i ≠ j → Bk (S i) k → ¬ Bk (S j) k
  keepV : ∀ k, k < w0.heap.size → ¬ V k → w.heap[k]? = w0.heap[k]?
  vab : V ab
  vbig : ∀ k, w0.heap.size ≤ k → V k
  vS : ∀ j k, j < n → Bk (S j) k → V k

theorem St.ablt {V : Nat → Prop} {base : Nat} {w0 : World} {ab n : Nat} {w : World} {S : Nat → Slc} {L : Nat → List Nat} (h : St V base w0 ab n w S L) : ab < w.heap.size := (Array.getElem?_eq_some_iff.1 h.row).1

theorem OwnNil.block {base : Nat} {w w' : World} {s : Slc} {l : List Nat} (h : OwnNil base w s l) (hb : ∀ k, k < w.heap.size → Bk s k → w'.heap[k]? = w.heap[k]?) : OwnNil base w' s l := by
  rcases h with h | ⟨b, h1, h2, h3⟩
  · exact .inl h
  · refine .inr ⟨b, h1, h2, h3.hd, ?_⟩
    obtain ⟨sp, hc, hm⟩ := h3.mem
    exact ⟨sp, hc, by rw [hb b h3.lt h3.A]; exact hm⟩

theorem St.alloc {V : Nat → Prop} {base : Nat} {w0 : World} {ab n : Nat} {w : World} {S : Nat → Slc} {L : Nat → List Nat} (h : St V base w0 ab n w S L) (o : Obj) : St V base w0 ab n (w.alloc o) S L where
  low := Below.alloc h.low h.hsz o
  hab := h.hab
  hsz := by rw [size_alloc]; have := h.hsz; omega
  row := by rw [Below.heap_alloc _ _ _ h.ablt]; exact h.row
  own := fun j hj => OwnNil.block (h.own j hj) fun k hk _ => Below.heap_alloc _ _ _ hk
  nab := h.nab
  apart := h.apart
  keepV := fun k hk hv => by rw [Below.heap_alloc _ _ _ (Nat.lt_of_lt_of_le hk h.low.size)]; exact h.keepV k hk hv
  vab := h.vab
  vbig := h.vbig
  vS := h.vS

theorem St.ld {V : Nat → Prop} {base : Nat} {w0 : World} {ab n : Nat} {w : World} {S : Nat → Slc} {L : Nat → List Nat} (h : St V base w0 ab n w S L) {t : TypeId} (hT : isRw pr t = true) {i : Nat} (hi : i < n) {K : Slc → World → Prop} (hk : K (S i) w) :
    semA pr (Instr.indexAt t (Slc.v ⟨some ⟨ab, 0, none⟩, n, n⟩) (.int .i64 (i : Int))) w fun ad w1 => ldS ad w1 fun s => K s w1 := by
  unfold semA
  rw [Sem.wp_iff_run, run_indexAtG hT w ⟨some ⟨ab, 0, none⟩, n, n⟩ i ⟨ab, 0, none⟩ rfl (by omega) (by simp; omega), add_off]
  refine ⟨_, rfl, S i, ?_, hk⟩
  simp [World.cell?, h.row, hi]

/-- A number is written into one of the lists. -/
theorem St.st {V : Nat → Prop} {base : Nat} {w0 : World} {ab n : Nat} {w : World} {S : Nat → Slc} {L : Nat → List Nat} (h : St V base w0 ab n w S L) {t : TypeId} (hT : isSl pr t .u64 = some tU64) {i k : Nat} (hi : i < n) (hk : k < (L i).length) {x : Nat} {K : World → Prop}
    (hK : ∀ w', St V base w0 ab n w' S (upd L i ((L i).set k x)) → K w') :
    semA pr (Instr.indexAt t (S i).v (.int .i64 (k : Int))) w fun ad w1 => stC ad (.int .u64 (x : Int)) w1 fun w2 => K w2 := by
  rcases h.own i hi with ⟨_, hnil⟩ | ⟨b, hb, hc, ho⟩
  · rw [hnil] at hk; simp at hk
  · unfold semA
    rw [Sem.wp_iff_run, run_indexAt hT w (S i) k _ ho.A (by omega) (by rw [ho.n]; simpa using hk), add_off]
    refine ⟨_, rfl, ⟨_, ho.cell (by simpa using hk)⟩, ho.frozen _, hK _ ?_⟩
    have hbab : b ≠ ab := fun e => h.nab i hi (by rw [← e]; exact ho.A)
    refine ⟨Below.setCell h.low hb _, h.hab, by simpa [World.setCell] using h.hsz, ?_, ?_, h.nab, h.apart, ?_, h.vab, h.vbig, h.vS⟩
    · rw [Below.heap_setCell _ _ _ _ (by simpa using fun e => hbab e.symm)]; exact h.row
    · intro j hj
      unfold upd
      split
      · rename_i hji
        subst hji
        refine .inr ⟨b, hb, hc, ?_⟩
        have := ho.set (i := k) (by simpa using hk) (x : Int)
        rw [nn_set] at this
        exact this
      · rename_i hji
        refine OwnNil.block (h.own j hj) fun m hm hbm => Below.heap_setCell _ _ _ _ ?_
        intro e
        subst e
        exact h.apart i j _ hi hj (fun e => hji e.symm) ho.A hbm
    · intro m hm hv
      rw [Below.heap_setCell _ _ _ _ (by intro e; subst e; exact hv (h.vS i _ hi ho.A))]
      exact h.keepV m hm hv

/-- One of the lists grows, and its new head is stored. -/
theorem St.app {V : Nat → Prop} {base : Nat} {w0 : World} {ab n : Nat} {w : World} {S : Nat → Slc} {L : Nat → List Nat} (h : St V base w0 ab n w S L) {t ty t2 : TypeId} (hT : isSl pr t .u64 = some tU64) (hT2 : isRw pr t2 = true) {i : Nat} (hi : i < n) {x : Slc} {ys : List Nat}
    (hx : Rd .u64 w x (nn ys)) (hy : 0 < ys.length) (hsz : ((L i).length + ys.length) * 8 ≤ 2 ^ 47) {K : World → Prop}
    (hK : ∀ w' s', St V base w0 ab n w' (upd S i s') (upd L i (L i ++ ys)) → K w') :
    semS pr (Builtin.append_ #[t, t] ty #[(S i).v, x.v]) w fun s3 w6 => semA pr (Instr.indexAt t2 (Slc.v ⟨some ⟨ab, 0, none⟩, n, n⟩) (.int .i64 (i : Int))) w6 fun ad w7 => stC ad s3.v w7 fun w8 => K w8 := by
  obtain ⟨hu, he, inf, hinf, hs1, hb8, hz⟩ := isSl_out hT
  obtain ⟨ad, hA, _⟩ := hx.get 0 (by simpa using hy)
  have hrow : w.ownsRow base tU64 1 (S i).v (L i).length (ints .u64 (nn (L i))) := by
    rcases h.own i hi with ⟨h1, h2⟩ | ⟨b, h1, h2, h3⟩
    · rw [h1, h2]; exact ⟨rfl, .inl ⟨rfl, rfl⟩⟩
    · have := h3.ownsRow h1 h2
      rw [nn_length] at this
      exact this
  obtain ⟨v', w', hr, ho, hg, hn, hblk⟩ := run_append_own_at (P := pr) (ty := ty) w base t tU64 inf (.int .u64 0) 1 8 hu hinf hz hs1 hb8 rfl (by omega) (S i).v (L i).length (ints .u64 (nn (L i))) hrow ad ys.length x.c (ints .u64 (nn ys)) (by simp [ints])
    (fun j u hj => by
      have hj' : j < (nn ys).length := by
        have := (List.getElem?_eq_some_iff.1 hj).1
        simpa [ints] using this
      obtain ⟨ad', e', hc⟩ := hx.get j hj'
      rw [hA] at e'
      obtain rfl := Option.some.inj e'
      rw [ints_get hj'] at hj
      obtain rfl := Option.some.inj hj
      exact hc) (by simp [ints, Value.oneCell']) (by unfold maxLen; omega) (by omega) h.hsz
  have hne : v' ≠ .slice none 0 0 := fun e => by have := hn.1 e; omega
  have ho' : w'.ownsRow base tU64 1 v' (nn (L i ++ ys)).length (ints .u64 (nn (L i ++ ys))) := by
    simp only [ints, nn_append, List.map_append, List.length_append, nn_length]; exact ho
  obtain ⟨s', b', rfl, hb', hc', hown⟩ := own_of_row ho' hne
  unfold semS
  have hxv : x.v = .slice (some ad) ys.length x.c := by rw [Slc.v, hA, hx.n, nn_length]
  rw [Sem.wp_iff_run, hxv, hr]
  refine ⟨s', rfl, ?_⟩
  -- which blocks changed
  have hob : ∀ k, (S i).v.ownBlock = some k → Bk (S i) k ∧ base ≤ k := by
    intro k hk
    rcases h.own i hi with ⟨h1, _⟩ | ⟨b, h1, _, h3⟩
    · rw [h1] at hk; simp [Slc.v, Value.ownBlock] at hk
    · rw [Slc.v, h3.A] at hk
      simp [Value.ownBlock] at hk
      subst hk
      exact ⟨h3.A, h1⟩
  have keep : ∀ k, k < w.heap.size → ¬ Bk (S i) k → w'.heap[k]? = w.heap[k]? := fun k hk hb => hg.block k hk fun e => hb (hob k e.symm).1
  have hlow : Below base w w' := Below.grown (Below.refl _ _) hg h.hsz fun k hk => (hob k hk).2
  have hab' : w'.heap[ab]? = some (.cells ((List.range n).map fun j => (S j).v).toArray tU64s (0, 0)) := by rw [keep ab h.ablt (h.nab i hi)]; exact h.row
  have hbnew : Bk s' b' := hown.A
  have hb2 : Bk (S i) b' ∨ b' = w.heap.size := by
    have e : s'.v.ownBlock = some b' := by rw [Slc.v, hown.A]; rfl
    rcases hblk with h1 | h1
    · exact .inl (hob b' (by rw [← h1]; exact e)).1
    · right
      rw [e] at h1
      exact Option.some.inj h1
  have hablt := h.ablt
  have hbab : b' ≠ ab := by
    rintro rfl
    rcases hb2 with h1 | h1
    · exact h.nab i hi h1
    · omega
  show semA pr (Instr.indexAt t2 (Slc.v ⟨some ⟨ab, 0, none⟩, n, n⟩) (.int .i64 (i : Int))) w' fun ad w7 => stC ad s'.v w7 fun w8 => K w8
  unfold semA
  rw [Sem.wp_iff_run, run_indexAtG hT2 w' ⟨some ⟨ab, 0, none⟩, n, n⟩ i ⟨ab, 0, none⟩ rfl (by omega) (by simp; omega), add_off]
  refine ⟨_, rfl, ⟨(S i).v, by simp [World.cell?, hab', hi]⟩, by simp [World.frozen?, hab'], hK _ s' ?_⟩
  have hset : ∀ k, k ≠ ab → (w'.setCell ⟨ab, i, none⟩ s'.v).heap[k]? = w'.heap[k]? := fun k hk => Below.heap_setCell _ _ _ _ (by simpa using hk)
  refine ⟨Below.setCell (Below.trans h.low hlow) h.hab _, h.hab, ?_, ?_, ?_, ?_, ?_, ?_, h.vab, h.vbig, ?_⟩
  · have := h.hsz; have := hg.size; simp [World.setCell]; omega
  · have hlt : ab < w'.heap.size := (Array.getElem?_eq_some_iff.1 hab').1
    simp only [World.setCell]
    rw [Array.getElem?_modify, if_pos rfl, hab']
    simp only [Option.map_some, Option.some.injEq]
    congr 1
    apply Array.ext
    · simp
    · intro k hk1 hk2
      have hk : k < n := by simpa using hk2
      by_cases hki : k = i
      · subst hki; simp [upd]
      · simp [upd, hki, Ne.symm hki, Array.getElem_set, Array.getElem_setIfInBounds]
  · intro j hj
    unfold upd
    split
    · rename_i hji
      subst hji
      refine .inr ⟨b', hb', hc', hown.hd, ?_⟩
      obtain ⟨sp, h1, h2⟩ := hown.mem
      exact ⟨sp, h1, (hset _ hbab).trans h2⟩
    · rename_i hji
      refine OwnNil.block (OwnNil.block (h.own j hj) fun k hk hbk => keep k hk fun e => h.apart i j k hi hj (fun e => hji e.symm) e hbk) fun k hk hbk => hset k ?_
      rintro rfl
      exact h.nab j hj hbk
  · intro j hj
    unfold upd
    split
    · intro e
      exact hbab (congrArg Addr.block (Option.some.inj (hbnew.symm.trans e)))
    · exact h.nab j hj
  · intro a c k ha hc hac
    unfold upd
    have only : ∀ j, j < n → j ≠ i → ∀ k, Bk (S j) k → Bk s' k → False := by
      intro j hj hji k h1 h2
      have : b' = k := congrArg Addr.block (Option.some.inj (hbnew.symm.trans h2))
      subst this
      rcases hb2 with h4 | h4
      · exact h.apart i j _ hi hj (fun e => hji e.symm) h4 h1
      · rcases h.own j hj with ⟨h5, _⟩ | ⟨b, _, _, h5⟩
        · rw [h5] at h1; simp [Bk] at h1
        · have h6 : b = b' := congrArg Addr.block (Option.some.inj (h5.A.symm.trans h1))
          have := h5.lt
          omega
    split
    · rename_i hai
      subst hai
      split
      · rename_i hci; exact absurd hci.symm hac
      · rename_i hci
        intro h1 h2
        exact only c hc hci k h2 h1
    · rename_i hai
      split
      · intro h1 h2
        exact only a ha hai k h1 h2
      · exact h.apart a c k ha hc hac
  · intro k hk hv
    have hkw := Nat.lt_of_lt_of_le hk h.low.size
    exact (Below.heap_setCell _ _ _ _ (by simpa using fun e => hv (by rw [e]; exact h.vab))).trans ((keep k hkw (fun e => hv (h.vS i k hi e))).trans (h.keepV k hk hv))
  · intro j k hj
    unfold upd
    split
    · intro e
      have : b' = k := congrArg Addr.block (Option.some.inj (hbnew.symm.trans e))
      subst this
      rcases hb2 with h1 | h1
      · exact h.vS i _ hi h1
      · exact h.vbig _ (by have := h.low.size; omega)
    · exact h.vS j k hj

/-- What Own writes into a list, and what it appends. -/
def fil (L : Nat → List Nat) (j : Nat) : List Nat := List.replicate (L j).length (j % 251 + 1)
def tl (j : Nat) : List Nat := [300 + 5 * j, 300 + 5 * j + 1, 300 + 5 * j + 2, 300 + 5 * j + 3, 300 + 5 * j + 4]
theorem upd_same {α : Type} (f : Nat → α) (i : Nat) (x : α) : upd f i x i = x := if_pos rfl
theorem upd_upd {α : Type} (f : Nat → α) (i : Nat) (x y : α) : upd (upd f i x) i y = upd f i y := by
  funext j; unfold upd; split <;> rfl
theorem upd_self {α : Type} (f : Nat → α) (i : Nat) : upd f i (f i) = f := by
  funext j; unfold upd; split
  · rename_i h; rw [h]
  · rfl
theorem tl_getD (i k : Nat) (h : k < 5) : (tl i).getD k 0 = 300 + 5 * i + k := by
  have : k = 0 ∨ k = 1 ∨ k = 2 ∨ k = 3 ∨ k = 4 := by omega
  rcases this with rfl | rfl | rfl | rfl | rfl <;> rfl

theorem St.congr {V : Nat → Prop} {base : Nat} {w0 : World} {ab n : Nat} {w : World} {S : Nat → Slc} {L L' : Nat → List Nat} (h : St V base w0 ab n w S L) (e : ∀ j, j < n → L j = L' j) : St V base w0 ab n w S L' :=
  ⟨h.low, h.hab, h.hsz, h.row, fun j hj => by rw [← e j hj]; exact h.own j hj, h.nab, h.apart, h.keepV, h.vab, h.vbig, h.vS⟩
theorem fil_getD (L : Nat → List Nat) (i k : Nat) : (fil L i ++ tl i).getD k 0 = if k < (L i).length then i % 251 + 1 else if k < (L i).length + 5 then 300 + 5 * i + (k - (L i).length) else 0 := by
  by_cases h : k < (L i).length
  · rw [if_pos h]
    simp [fil, List.getD_eq_getElem?_getD, List.getElem?_append, h]
  · rw [if_neg h]
    have e : (fil L i ++ tl i).getD k 0 = (tl i).getD (k - (L i).length) 0 := by
      simp [fil, List.getD_eq_getElem?_getD, List.getElem?_append, h]
    rw [e]
    by_cases h2 : k < (L i).length + 5
    · rw [if_pos h2]; exact tl_getD i _ (by omega)
    · rw [if_neg h2, getD_ge]; simp [tl]; omega

theorem Own_spec {V : Nat → Prop} {base : Nat} {w0 w : World} {ab n : Nat} {S : Nat → Slc} {L : Nat → List Nat} (h : St V base w0 ab n w S L) (hn : n ≤ 1000) (hL : ∀ j, j < n → ((L j).length + 5) * 8 ≤ 2 ^ 47) :
    Calls pr surdref01_Own_id #[Slc.v ⟨some ⟨ab, 0, none⟩, n, n⟩] w fun e w' => (Below base w0 w' ∧ ∀ k, k < w0.heap.size → ¬ V k → w'.heap[k]? = w0.heap[k]?) ∧ e = .returned (.bool true) := by
  have hB := B64v
  refine surdref01_Own_vc ⟨some ⟨ab, 0, none⟩, n, n⟩ w _
    (fun t0 t13 t14 t15 w' => t0 = ⟨some ⟨ab, 0, none⟩, n, n⟩ ∧ t13 = ⟨some ⟨ab, 0, none⟩, n, n⟩ ∧ t14 = (n : Int) ∧ ∃ i : Nat, t15 = (i : Int) ∧ i ≤ n ∧ St V base w0 ab n w' S (fun j => if j < i then fil L j else L j))
    (fun _ _ n i _ => (n - i).toNat)
    (fun o0 o13 o14 o15 ow t0 t3 t4 t13 t14 t15 t21 t22 w' => t0 = ⟨some ⟨ab, 0, none⟩, n, n⟩ ∧ t13 = ⟨some ⟨ab, 0, none⟩, n, n⟩ ∧ t14 = (n : Int) ∧ ∃ (i k : Nat) (R : List Nat), o15 = (i : Int) ∧ t3 = (i : Int) ∧ t15 = (i : Int) ∧ i < n ∧ t4 = S i ∧ t21 = ((L i).length : Int) ∧ t22 = (k : Int) ∧ k ≤ (L i).length ∧
      R.length = (L i).length ∧ (∀ m, m < k → R.getD m 0 = i % 251 + 1) ∧ St V base w0 ab n w' S (upd (fun j => if j < i then fil L j else L j) i R))
    (fun _ _ _ _ _ _ _ _ _ _ _ n k _ => (n - k).toNat)
    (fun t0 t34 t35 t36 w' => t0 = ⟨some ⟨ab, 0, none⟩, n, n⟩ ∧ t34 = ⟨some ⟨ab, 0, none⟩, n, n⟩ ∧ t35 = (n : Int) ∧ ∃ (i : Nat) (S' : Nat → Slc), t36 = (i : Int) ∧ i ≤ n ∧ St V base w0 ab n w' S' (fun j => if j < i then fil L j ++ tl j else fil L j))
    (fun _ _ n i _ => (n - i).toNat)
    (fun t62 t63 t64 w' => t62 = ⟨some ⟨ab, 0, none⟩, n, n⟩ ∧ t63 = (n : Int) ∧ ∃ (i : Nat) (S' : Nat → Slc), t64 = (i : Int) ∧ i ≤ n ∧ St V base w0 ab n w' S' (fun j => fil L j ++ tl j))
    (fun _ n i _ => (n - i).toNat)
    (fun o62 o63 o64 ow t9 t10 t62 t63 t64 t69 t70 t71 w' => t62 = ⟨some ⟨ab, 0, none⟩, n, n⟩ ∧ t63 = (n : Int) ∧ ∃ (i k : Nat) (S' : Nat → Slc), o64 = (i : Int) ∧ t9 = (i : Int) ∧ t64 = (i : Int) ∧ i < n ∧ t10 = S' i ∧ t69 = S' i ∧ t70 = ((L i).length + 5 : Nat) ∧ t71 = (k : Int) ∧ k ≤ (L i).length + 5 ∧ St V base w0 ab n w' S' (fun j => fil L j ++ tl j))
    (fun _ _ _ _ _ _ _ _ _ _ n k _ => (n - k).toNat) ?_ ?_ ?_ ?_ ?_ ?_
  · exact ⟨rfl, rfl, rfl, 0, rfl, Nat.zero_le _, by simpa using h⟩
  · rintro t0 t13 t14 t15 w1 ⟨rfl, rfl, rfl, i, rfl, hi, hst⟩
    refine br_intro (fun hlt => ?_) (fun hge => ?_)
    · have hi' : i < n := by simp at hlt; omega
      refine hst.ld (by kernel_rfl) hi' ?_
      have ho := (hst.own i hi').rd
      rw [if_neg (by omega)] at ho
      refine ⟨rfl, rfl, rfl, i, 0, L i, rfl, rfl, rfl, hi', rfl, by rw [ho.n, nn_length], rfl, Nat.zero_le _, rfl, fun m hm => by omega, ?_⟩
      have e : upd (fun j => if j < i then fil L j else L j) i (L i) = fun j => if j < i then fil L j else L j := by
        have := upd_self (fun j => if j < i then fil L j else L j) i
        rw [if_neg (by omega)] at this
        exact this
      rw [e]
      exact hst
    · have hi' : i = n := by simp at hge; omega
      subst hi'
      exact ⟨rfl, rfl, rfl, 0, S, rfl, Nat.zero_le _, hst.congr fun j hj => by rw [if_pos hj, if_neg (by omega)]⟩
  · rintro t0 t13 t14 t15 w1 _ t0' t3' t4' t13' t14' t15' t21' t22' w2 ⟨rfl, rfl, rfl, i, k, R, rfl, rfl, rfl, hi, rfl, rfl, rfl, hk, hR, hd, hst⟩
    have hLi := hL i hi
    refine br_intro (fun hlt => ?_) (fun hge => ?_)
    · have hk' : k < (L i).length := by simp at hlt; omega
      have e8 : IntKind.i64.wrap ((k : Int) + 1) = ((k + 1 : Nat) : Int) := by rw [wrap_i64 (by omega) (by omega)]; omega
      have e1 : IntKind.u64.wrap (IntKind.i64.wrap (Int.tmod (i : Int) 251 + 1)) = ((i % 251 + 1 : Nat) : Int) := by
        have : Int.tmod (i : Int) 251 = ((i % 251 : Nat) : Int) := by rw [Int.tmod_eq_emod_of_nonneg (by omega)]; omega
        rw [this, wrap_i64 (by omega) (by omega), wrap_u64' (by omega) (by omega)]; omega
      rw [e1]
      refine hst.st (by kernel_rfl) hi (by rw [upd_same]; omega) ?_
      intro w3 hst3
      rw [upd_same, upd_upd] at hst3
      refine ⟨⟨rfl, rfl, rfl, i, k + 1, R.set k (i % 251 + 1), rfl, rfl, rfl, hi, rfl, rfl, e8, hk', by simpa using hR, fun m hm => ?_, hst3⟩, by rw [e8]; omega⟩
      rw [getD_set _ _ _ _ (by omega)]
      split
      · rfl
      · exact hd m (by omega)
    · have hk' : k = (L i).length := by simp at hge; omega
      subst hk'
      have e8 : IntKind.i64.wrap ((i : Int) + 1) = ((i + 1 : Nat) : Int) := by rw [wrap_i64 (by omega) (by omega)]; omega
      have hRf : R = fil L i := ext_getD (by rw [hR, fil, List.length_replicate]) fun m hm => by
        rw [hd m (by omega), fil]
        simp [List.getD_eq_getElem?_getD, List.getElem?_replicate, show m < (L i).length by omega]
      refine ⟨⟨rfl, rfl, rfl, i + 1, e8, hi, hst.congr fun j hj => ?_⟩, by rw [e8]; omega⟩
      unfold upd
      by_cases hji : j = i
      · subst hji; rw [if_pos rfl, if_pos (by omega), hRf]
      · rw [if_neg hji]
        show (if j < i then _ else _) = _
        by_cases hlt : j < i
        · rw [if_pos hlt, if_pos (by omega)]
        · rw [if_neg hlt, if_neg (by omega)]
  · rintro t0 t34 t35 t36 w1 ⟨rfl, rfl, rfl, i, S', rfl, hi, hst⟩
    refine br_intro (fun hlt => ?_) (fun hge => ?_)
    · have hi' : i < n := by simp at hlt; omega
      have hLi := hL i hi'
      have e8 : IntKind.i64.wrap ((i : Int) + 1) = ((i + 1 : Nat) : Int) := by rw [wrap_i64 (by omega) (by omega)]; omega
      have e0 : IntKind.u64.wrap (IntKind.i64.wrap (300 + IntKind.i64.wrap (5 * (i : Int)))) = ((300 + 5 * i : Nat) : Int) := by
        rw [wrap_i64 (x := 5 * (i : Int)) (by omega) (by omega), wrap_i64 (by omega) (by omega), wrap_u64' (by omega) (by omega)]; omega
      have e1 : IntKind.u64.wrap (((300 + 5 * i : Nat) : Int) + 1) = ((300 + 5 * i + 1 : Nat) : Int) := by rw [wrap_u64' (by omega) (by omega)]; omega
      have e2 : IntKind.u64.wrap (((300 + 5 * i : Nat) : Int) + 2) = ((300 + 5 * i + 2 : Nat) : Int) := by rw [wrap_u64' (by omega) (by omega)]; omega
      have e3 : IntKind.u64.wrap (((300 + 5 * i : Nat) : Int) + 3) = ((300 + 5 * i + 3 : Nat) : Int) := by rw [wrap_u64' (by omega) (by omega)]; omega
      have e4 : IntKind.u64.wrap (((300 + 5 * i : Nat) : Int) + 4) = ((300 + 5 * i + 4 : Nat) : Int) := by rw [wrap_u64' (by omega) (by omega)]; omega
      rw [e0, e1, e2, e3, e4]
      refine hst.ld (by kernel_rfl) hi' ?_
      have hst2 := hst.alloc (.cells (ints .u64 (nn (tl i))).toArray tU64 (0, 0))
      have hlit : Rd .u64 (w1.alloc (.cells (ints .u64 (nn (tl i))).toArray tU64 (0, 0))) ⟨some ⟨w1.heap.size, 0, none⟩, 5, 5⟩ (nn (tl i)) :=
        Own.rd (t := tU64) (b := w1.heap.size) ⟨rfl, [], rfl, by rw [get_alloc]; simp⟩
      have hG : (if i < i then fil L i ++ tl i else fil L i) = fil L i := if_neg (by omega)
      refine hst2.app (by kernel_rfl) (by kernel_rfl) hi' hlit (by simp [tl]) (by rw [hG]; simp [fil, tl]; omega) ?_
      intro w8 s' hst8
      refine ⟨⟨rfl, rfl, rfl, i + 1, upd S' i s', e8, hi', hst8.congr fun j hj => ?_⟩, by rw [e8]; omega⟩
      rw [hG]
      unfold upd
      by_cases hji : j = i
      · subst hji; rw [if_pos rfl, if_pos (by omega)]
      · rw [if_neg hji]
        show (if j < i then _ else _) = _
        by_cases hlt : j < i
        · rw [if_pos hlt, if_pos (by omega)]
        · rw [if_neg hlt, if_neg (by omega)]
    · have hi' : i = n := by simp at hge; omega
      subst hi'
      exact ⟨rfl, rfl, 0, S', rfl, Nat.zero_le _, hst.congr fun j hj => by rw [if_pos hj]⟩
  · rintro t62 t63 t64 w1 ⟨rfl, rfl, i, S', rfl, hi, hst⟩
    refine br_intro (fun hlt => ?_) (fun hge => ?_)
    · have hi' : i < n := by simp at hlt; omega
      refine hst.ld (by kernel_rfl) hi' ?_
      have ho := (hst.own i hi').rd
      exact ⟨rfl, rfl, i, 0, S', rfl, rfl, rfl, hi', rfl, rfl, by rw [ho.n, nn_length]; simp [fil, tl], rfl, Nat.zero_le _, hst⟩
    · exact ⟨⟨hst.low, hst.keepV⟩, rfl⟩
  · rintro t62 t63 t64 w1 _ t9' t10' t62' t63' t64' t69' t70' t71' w2 ⟨rfl, rfl, i, k, S', rfl, rfl, rfl, hi, rfl, rfl, rfl, rfl, hk, hst⟩
    have hLi := hL i hi
    have ho := (hst.own i hi).rd
    have hon : (S' i).n = (L i).length + 5 := by rw [ho.n, nn_length]; simp [fil, tl]
    have hlen : (fil L i ++ tl i).length = (L i).length + 5 := by simp [fil, tl]
    refine br_intro (fun hlt => ?_) (fun hge => ?_)
    · have hk' : k < (L i).length + 5 := by simp at hlt; omega
      have e8 : IntKind.i64.wrap ((k : Int) + 1) = ((k + 1 : Nat) : Int) := by rw [wrap_i64 (by omega) (by omega)]; omega
      have e1 : IntKind.u64.wrap (IntKind.i64.wrap (Int.tmod (i : Int) 251 + 1)) = ((i % 251 + 1 : Nat) : Int) := by
        have : Int.tmod (i : Int) 251 = ((i % 251 : Nat) : Int) := by rw [Int.tmod_eq_emod_of_nonneg (by omega)]; omega
        rw [this, wrap_i64 (by omega) (by omega), wrap_u64' (by omega) (by omega)]; omega
      have e5 : IntKind.i64.wrap (((S' i).n : Int) - 5) = ((L i).length : Int) := by rw [hon, wrap_i64 (by omega) (by omega)]; omega
      have go : ((⟨some ⟨ab, 0, none⟩, n, n⟩ : Slc) = ⟨some ⟨ab, 0, none⟩, n, n⟩ ∧ (n : Int) = (n : Int) ∧ ∃ (i' k' : Nat) (S'' : Nat → Slc), (i : Int) = (i' : Int) ∧ (i : Int) = (i' : Int) ∧ (i : Int) = (i' : Int) ∧ i' < n ∧ S' i = S'' i' ∧ S' i = S'' i' ∧ (((L i).length + 5 : Nat) : Int) = ((L i').length + 5 : Nat) ∧ IntKind.i64.wrap ((k : Int) + 1) = (k' : Int) ∧ k' ≤ (L i').length + 5 ∧ St V base w0 ab n w2 S'' (fun j => fil L j ++ tl j)) ∧
          ((((L i).length + 5 : Nat) : Int) - IntKind.i64.wrap ((k : Int) + 1)).toNat < ((((L i).length + 5 : Nat) : Int) - (k : Int)).toNat :=
        ⟨⟨rfl, rfl, i, k + 1, S', rfl, rfl, rfl, hi, rfl, rfl, rfl, e8, hk', hst⟩, by rw [e8]; omega⟩
      refine ldN ho (by omega) (by omega) ?_
      rw [Int.toNat_natCast, fil_getD, e5, e1]
      refine br_intro (fun h2 => ?_) (fun h2 => ?_)
      · have h2' : k < (L i).length := by simp at h2; omega
        rw [if_pos h2']
        refine br_false (by simp) (br_false (by simp; omega) go)
      · have h2' : (L i).length ≤ k := by simp at h2; omega
        rw [if_neg (by omega), if_pos hk']
        have e6 : IntKind.u64.wrap (IntKind.i64.wrap (IntKind.i64.wrap (IntKind.i64.wrap (IntKind.i64.wrap (300 + IntKind.i64.wrap (5 * (i : Int))) + (k : Int)) - ((S' i).n : Int)) + 5)) = ((300 + 5 * i + (k - (L i).length) : Nat) : Int) := by
          rw [hon, wrap_i64 (x := 5 * (i : Int)) (by omega) (by omega), wrap_i64 (x := 300 + 5 * (i : Int)) (by omega) (by omega), wrap_i64 (x := 300 + 5 * (i : Int) + (k : Int)) (by omega) (by omega),
            wrap_i64 (x := 300 + 5 * (i : Int) + (k : Int) - _) (by omega) (by omega), wrap_i64 (by omega) (by omega), wrap_u64' (by omega) (by omega)]
          omega
        rw [e6]
        exact br_true (by simp; omega) (br_false (by simp) go)
    · have hk' : k = (L i).length + 5 := by simp at hge; omega
      subst hk'
      have e8 : IntKind.i64.wrap ((i : Int) + 1) = ((i + 1 : Nat) : Int) := by rw [wrap_i64 (by omega) (by omega)]; omega
      exact ⟨⟨rfl, rfl, i + 1, S', e8, hi, hst⟩, by rw [e8]; omega⟩

end Ref
end Go.Proofs.YthhbjhdnaopcnaaDoor
