/- Natural numbers as digits of a base, the least first: plain lists, no program. No condition. -/
import Derived.Test.YthhbjhdnaopcnaaDoorSp
import Derived.Lib.BitFns
namespace Go.Proofs.YthhbjhdnaopcnaaDoor
set_option linter.unusedVariables false
set_option linter.unusedSimpArgs false
namespace Dg
def B64 : Nat := 18446744073709551616
def B32 : Nat := 4294967296
theorem B64v : B64 = 18446744073709551616 := rfl
theorem B32v : B32 = 4294967296 := rfl
theorem two64 : 2 ≤ B64 := by decide
theorem two32 : 2 ≤ B32 := by decide
theorem getD_lt {α : Type} (l : List α) (d : α) {i : Nat} (h : i < l.length) : l.getD i d = l[i] := by simp [List.getD_eq_getElem?_getD, h]
theorem getD_ge {α : Type} (l : List α) (d : α) {i : Nat} (h : l.length ≤ i) : l.getD i d = d := by simp [List.getD_eq_getElem?_getD, h]

def val (B : Nat) : List Nat → Nat
  | [] => 0
  | x :: l => x + B * val B l
def ok (B : Nat) (l : List Nat) : Prop := ∀ x ∈ l, x < B
def digs (B n : Nat) : List Nat := if h : 2 ≤ B ∧ n ≠ 0 then n % B :: digs B (n / B) else []
termination_by n
decreasing_by exact Nat.div_lt_self (by omega) (by omega)

section
variable {B : Nat}
theorem digs_zero : digs B 0 = [] := by unfold digs; simp
theorem digs_pos (hB : 2 ≤ B) {n : Nat} (hn : n ≠ 0) : digs B n = n % B :: digs B (n / B) := by
  rw [digs]; simp [hB, hn]
theorem val_digs (hB : 2 ≤ B) (n : Nat) : val B (digs B n) = n := by
  induction n using Nat.strongRecOn with
  | _ n ih =>
    by_cases hn : n = 0
    · subst hn; rw [digs_zero]; rfl
    · rw [digs_pos hB hn, val, ih _ (Nat.div_lt_self (by omega) (by omega))]
      have := Nat.mod_add_div n B
      omega
theorem ok_digs (hB : 2 ≤ B) (n : Nat) : ok B (digs B n) := by
  induction n using Nat.strongRecOn with
  | _ n ih =>
    by_cases hn : n = 0
    · subst hn; rw [digs_zero]; intro x hx; cases hx
    · rw [digs_pos hB hn]
      intro x hx
      rcases List.mem_cons.1 hx with rfl | hx
      · exact Nat.mod_lt _ (by omega)
      · exact ih _ (Nat.div_lt_self (by omega) (by omega)) x hx
theorem ok_nil : ok B [] := fun x h => by cases h
theorem ok_cons {x : Nat} {l : List Nat} : ok B (x :: l) ↔ x < B ∧ ok B l := by simp [ok]
theorem ok_append {l m : List Nat} : ok B (l ++ m) ↔ ok B l ∧ ok B m := by
  simp only [ok, List.mem_append]; exact ⟨fun h => ⟨fun x hx => h x (.inl hx), fun x hx => h x (.inr hx)⟩, fun h x hx => hx.elim (h.1 x) (h.2 x)⟩
theorem ok_take {l : List Nat} (h : ok B l) (m : Nat) : ok B (l.take m) := fun x hx => h x (List.mem_of_mem_take hx)
theorem ok_drop {l : List Nat} (h : ok B l) (m : Nat) : ok B (l.drop m) := fun x hx => h x (List.mem_of_mem_drop hx)
theorem ok_getD {l : List Nat} (h : ok B l) (hB : 0 < B) (i : Nat) : l.getD i 0 < B := by
  by_cases hi : i < l.length
  · rw [getD_lt _ _ hi]; exact h _ (List.getElem_mem hi)
  · rw [getD_ge _ _ (by omega)]; exact hB
theorem ok_replicate (hB : 0 < B) (n : Nat) : ok B (List.replicate n 0) := fun x hx => by rw [List.eq_of_mem_replicate hx]; exact hB
theorem ok_set {l : List Nat} (h : ok B l) {i x : Nat} (hx : x < B) : ok B (l.set i x) := fun y hy => by
  rcases List.mem_or_eq_of_mem_set hy with h1 | h1
  · exact h y h1
  · subst h1; exact hx

theorem val_append (l m : List Nat) : val B (l ++ m) = val B l + B ^ l.length * val B m := by
  induction l with
  | nil => simp [val]
  | cons x l ih =>
    simp only [List.cons_append, val, ih, List.length_cons, Nat.pow_succ]
    rw [Nat.mul_add, Nat.add_assoc, ← Nat.mul_assoc, Nat.mul_comm B (B ^ l.length)]
theorem val_replicate (n : Nat) : val B (List.replicate n 0) = 0 := by
  induction n with
  | zero => rfl
  | succ n ih => simp [List.replicate_succ, val, ih]
theorem val_lt {l : List Nat} (h : ok B l) : val B l < B ^ l.length := by
  induction l with
  | nil => simp [val]
  | cons x l ih =>
    obtain ⟨h1, h2⟩ := ok_cons.1 h
    have := ih h2
    simp only [val, List.length_cons, Nat.pow_succ]
    have h3 : B * (val B l + 1) ≤ B * B ^ l.length := Nat.mul_le_mul_left B this
    rw [Nat.mul_comm (B ^ l.length) B]
    rw [Nat.mul_add] at h3
    omega
theorem val_take_drop (l : List Nat) (m : Nat) (hm : m ≤ l.length) : val B l = val B (l.take m) + B ^ m * val B (l.drop m) := by
  conv => lhs; rw [← List.take_append_drop m l]
  rw [val_append, List.length_take, Nat.min_eq_left hm]
theorem val_take_succ (l : List Nat) (m : Nat) (hm : m < l.length) : val B (l.take (m + 1)) = val B (l.take m) + B ^ m * l.getD m 0 := by
  rw [List.take_succ_eq_append_getElem hm, val_append, List.length_take, Nat.min_eq_left (by omega), getD_lt _ _ hm]
  simp [val]

/-- The digits of a list's number are its front. -/
theorem digs_val {l : List Nat} (hB : 2 ≤ B) (h : ok B l) (hl : l = [] ∨ l.getD (l.length - 1) 0 ≠ 0) : digs B (val B l) = l := by
  induction l with
  | nil => rw [val, digs_zero]
  | cons x l ih =>
    obtain ⟨h1, h2⟩ := ok_cons.1 h
    have hpos : val B (x :: l) ≠ 0 := by
      rcases hl with hl | hl
      · cases hl
      · intro h0
        apply hl
        have key : ∀ (m : List Nat) (i : Nat), val B m = 0 → m.getD i 0 = 0 := by
          intro m
          induction m with
          | nil => intro i _; simp
          | cons y m ihm =>
            intro i hv
            simp only [val] at hv
            have hy : y = 0 := by omega
            have hm : B * val B m = 0 := by omega
            have hm' : val B m = 0 := by
              rcases Nat.mul_eq_zero.1 hm with h | h
              · omega
              · exact h
            cases i with
            | zero => simp [hy]
            | succ i => simpa using ihm i hm'
        exact key _ _ h0
    rw [digs_pos hB hpos]
    simp only [val]
    have e1 : (x + B * val B l) % B = x := by rw [Nat.add_mul_mod_self_left]; exact Nat.mod_eq_of_lt h1
    have e2 : (x + B * val B l) / B = val B l := by rw [Nat.add_mul_div_left _ _ (by omega), Nat.div_eq_of_lt h1]; omega
    rw [e1, e2]
    congr 1
    apply ih h2
    rcases hl with hl | hl
    · cases hl
    · cases l with
      | nil => exact .inl rfl
      | cons y l => right; simpa using hl
theorem val_zeros {l : List Nat} (h : ∀ i, i < l.length → l.getD i 0 = 0) : val B l = 0 := by
  induction l with
  | nil => rfl
  | cons x l ih =>
    have h0 := h 0 (by simp)
    simp at h0
    rw [val, h0, ih]
    · omega
    · intro i hi; have := h (i + 1) (by simp; omega); simpa using this
/-- A list whose tail from m on is nought. -/
theorem val_take_of_zeros {l : List Nat} {m : Nat} (hm : m ≤ l.length) (h : ∀ i, m ≤ i → i < l.length → l.getD i 0 = 0) : val B (l.take m) = val B l := by
  rw [val_take_drop l m hm, val_zeros (l := l.drop m)]
  · omega
  · intro i hi
    simp at hi
    have := h (m + i) (by omega) (by omega)
    simpa [List.getD_eq_getElem?_getD] using this
theorem digs_take {l : List Nat} (hB : 2 ≤ B) (h : ok B l) {m : Nat} (hm : m ≤ l.length) (hz : ∀ i, m ≤ i → i < l.length → l.getD i 0 = 0) (hl : m = 0 ∨ l.getD (m - 1) 0 ≠ 0) :
    digs B (val B l) = l.take m := by
  rw [← val_take_of_zeros hm hz]
  apply digs_val hB (ok_take h m)
  rcases hl with hl | hl
  · left; simp [hl]
  · by_cases h0 : m = 0
    · left; simp [h0]
    · right
      rw [List.length_take, Nat.min_eq_left hm]
      simp only [List.getD_eq_getElem?_getD] at hl ⊢
      rw [List.getElem?_take, if_pos (by omega)]
      exact hl
theorem digs_length_le (hB : 2 ≤ B) {n m : Nat} (h : n < B ^ m) : (digs B n).length ≤ m := by
  induction m generalizing n with
  | zero => simp at h; subst h; rw [digs_zero]; simp
  | succ m ih =>
    by_cases hn : n = 0
    · subst hn; rw [digs_zero]; simp
    · rw [digs_pos hB hn]
      simp only [List.length_cons]
      have : n / B < B ^ m := by rw [Nat.div_lt_iff_lt_mul (by omega)]; rw [Nat.pow_succ] at h; exact h
      have := ih this
      omega
theorem digs_last (hB : 2 ≤ B) {n : Nat} (hn : n ≠ 0) : (digs B n).getD ((digs B n).length - 1) 0 ≠ 0 := by
  induction n using Nat.strongRecOn with
  | _ n ih =>
    rw [digs_pos hB hn]
    by_cases h0 : n / B = 0
    · rw [h0, digs_zero]
      simp
      have := Nat.mod_add_div n B
      rw [h0] at this
      omega
    · have := ih (n / B) (Nat.div_lt_self (by omega) (by omega)) h0
      have hl : digs B (n / B) ≠ [] := by rw [digs_pos hB h0]; simp
      obtain ⟨y, l, e⟩ := List.exists_cons_of_ne_nil hl
      rw [e] at this ⊢
      simpa using this
theorem digs_ne_nil (hB : 2 ≤ B) {n : Nat} (hn : n ≠ 0) : digs B n ≠ [] := by rw [digs_pos hB hn]; simp
theorem digs_inj (hB : 2 ≤ B) {m n : Nat} (h : digs B m = digs B n) : m = n := by rw [← val_digs hB m, h, val_digs hB]
/-- How long a number's digits are. -/
theorem digs_length_bounds (hB : 2 ≤ B) {n : Nat} (hn : n ≠ 0) : B ^ ((digs B n).length - 1) ≤ n ∧ n < B ^ (digs B n).length := by
  constructor
  · have hl := digs_last hB hn
    have hne := digs_ne_nil hB hn
    have hpos : 0 < (digs B n).length := List.length_pos_iff.2 hne
    have h1 := val_take_drop (B := B) (digs B n) ((digs B n).length - 1) (by omega)
    rw [val_digs hB] at h1
    have h2 : (digs B n).drop ((digs B n).length - 1) = [(digs B n).getD ((digs B n).length - 1) 0] := by
      rw [List.drop_eq_getElem_cons (by omega), getD_lt _ _ (by omega), List.drop_eq_nil_of_le (by omega)]
    rw [h2] at h1
    simp only [val, Nat.mul_zero, Nat.add_zero] at h1
    have h3 : B ^ ((digs B n).length - 1) * 1 ≤ B ^ ((digs B n).length - 1) * (digs B n).getD ((digs B n).length - 1) 0 := Nat.mul_le_mul_left _ (by omega)
    omega
  · have := val_lt (ok_digs hB n)
    rwa [val_digs hB] at this
end

theorem getD_take (l : List Nat) {i m : Nat} (h : i < m) : (l.take m).getD i 0 = l.getD i 0 := by simp [List.getD_eq_getElem?_getD, List.getElem?_take, h]
theorem getD_drop (l : List Nat) (i m : Nat) : (l.drop m).getD i 0 = l.getD (m + i) 0 := by simp [List.getD_eq_getElem?_getD]
theorem getD_set (l : List Nat) (i j x : Nat) (h : i < l.length) : (l.set i x).getD j 0 = if i = j then x else l.getD j 0 := by
  simp only [List.getD_eq_getElem?_getD, List.getElem?_set]
  split
  · rename_i e; subst e; simp [h]
  · rfl
theorem take_set_self (l : List Nat) (i x : Nat) : (l.set i x).take i = l.take i := by rw [List.take_set_of_le (Nat.le_refl _)]
theorem val_take_set {B : Nat} (l : List Nat) (i x : Nat) (h : i < l.length) : val B ((l.set i x).take (i + 1)) = val B (l.take i) + B ^ i * x := by
  rw [val_take_succ _ _ (by simpa using h), take_set_self, getD_set _ _ _ _ h, if_pos rfl]
theorem val_take_succ' {B : Nat} (l : List Nat) (m : Nat) : val B (l.take (m + 1)) = val B (l.take m) + B ^ m * l.getD m 0 := by
  by_cases h : m < l.length
  · exact val_take_succ l m h
  · rw [List.take_of_length_le (by omega), List.take_of_length_le (by omega), getD_ge _ _ (by omega)]; omega
theorem val_take_all {B : Nat} (l : List Nat) {m : Nat} (h : l.length ≤ m) : val B (l.take m) = val B l := by rw [List.take_of_length_le h]

/-- How many binary digits. -/
def bl (n : Nat) : Nat := (digs 2 n).length
theorem bl_zero : bl 0 = 0 := by unfold bl; rw [digs_zero]; rfl
theorem bl_bounds {n : Nat} (hn : n ≠ 0) : 2 ^ (bl n - 1) ≤ n ∧ n < 2 ^ bl n := digs_length_bounds (by omega) hn
theorem bl_pos {n : Nat} (hn : n ≠ 0) : 0 < bl n := List.length_pos_iff.2 (digs_ne_nil (by omega) hn)
theorem lt_bl (n : Nat) : n < 2 ^ bl n := by
  by_cases hn : n = 0
  · subst hn; simp [bl_zero]
  · exact (bl_bounds hn).2
theorem bl_le {n k : Nat} (h : n < 2 ^ k) : bl n ≤ k := digs_length_le (by omega) h
theorem bl_eq {n k : Nat} (h1 : 2 ^ k ≤ n) (h2 : n < 2 ^ (k + 1)) : bl n = k + 1 := by
  have h3 := bl_le h2
  have hp : 0 < 2 ^ k := Nat.two_pow_pos k
  have h4 := lt_bl n
  rcases Nat.lt_or_ge (bl n) (k + 1) with h5 | h5
  · have : 2 ^ bl n ≤ 2 ^ k := Nat.pow_le_pow_right (by omega) (by omega)
    omega
  · omega
theorem bl_le_iff {n k : Nat} : bl n ≤ k ↔ n < 2 ^ k := by
  constructor
  · intro h
    have := lt_bl n
    have h2 : 2 ^ bl n ≤ 2 ^ k := Nat.pow_le_pow_right (by omega) h
    omega
  · exact bl_le
theorem bl_mono {m n : Nat} (h : m ≤ n) : bl m ≤ bl n := bl_le (by have := lt_bl n; omega)
theorem bitLen_eq {x : Nat} (h : x < B64) : Lib.bitLen x = bl x := by
  have key : ∀ f x, x < 2 ^ f → Lib.bitLenAux f x = bl x := by
    intro f
    induction f with
    | zero => intro x hx; simp at hx; subst hx; rw [bl_zero]; rfl
    | succ f ih =>
      intro x hx
      rw [Lib.bitLenAux]
      by_cases h0 : x = 0
      · subst h0; simp [bl_zero]
      · rw [if_neg h0, ih _ (by rw [Nat.pow_succ] at hx; omega)]
        unfold bl
        rw [digs_pos (by omega) h0, List.length_cons]; omega
  exact key 64 x h
theorem bl_add_pow {h t k : Nat} (hh : h ≠ 0) (ht : t < 2 ^ k) : bl (t + 2 ^ k * h) = k + bl h := by
  obtain ⟨h1, h2⟩ := bl_bounds hh
  have hp := bl_pos hh
  obtain ⟨m, hm⟩ : ∃ m, bl h = m + 1 := ⟨bl h - 1, by omega⟩
  rw [hm] at h1 h2 ⊢
  rw [Nat.add_sub_cancel] at h1
  rw [← Nat.add_assoc]
  apply bl_eq
  · rw [Nat.pow_add]
    have := Nat.mul_le_mul_left (2 ^ k) h1
    omega
  · rw [Nat.add_assoc, Nat.pow_add]
    have : 2 ^ k * (h + 1) ≤ 2 ^ k * 2 ^ (m + 1) := Nat.mul_le_mul_left _ h2
    rw [Nat.mul_add] at this
    omega
theorem b64_pow (m : Nat) : B64 ^ m = 2 ^ (64 * m) := by rw [show B64 = 2 ^ 64 from rfl, ← Nat.pow_mul]
theorem b32_pow (m : Nat) : B32 ^ m = 2 ^ (32 * m) := by rw [show B32 = 2 ^ 32 from rfl, ← Nat.pow_mul]
/-- The length of a number out of its top digit. -/
theorem bl_top {n m : Nat} (hm : (digs B64 n).length = m + 1) : bl n = 64 * m + bl ((digs B64 n).getD m 0) := by
  have hn : n ≠ 0 := fun h => by rw [h, digs_zero] at hm; cases hm
  have h1 := val_take_drop (B := B64) (digs B64 n) m (by omega)
  rw [val_digs two64] at h1
  have h2 : (digs B64 n).drop m = [(digs B64 n).getD m 0] := by
    rw [List.drop_eq_getElem_cons (by omega), getD_lt _ _ (by omega), List.drop_eq_nil_of_le (by omega)]
  rw [h2] at h1
  simp only [val, Nat.mul_zero, Nat.add_zero] at h1
  have h3 : val B64 ((digs B64 n).take m) < B64 ^ m := by
    have := val_lt (ok_take (ok_digs two64 n) m)
    rwa [List.length_take, Nat.min_eq_left (by omega)] at this
  have h4 : (digs B64 n).getD m 0 ≠ 0 := by have := digs_last two64 hn; rwa [hm, Nat.add_sub_cancel] at this
  rw [b64_pow] at h1 h3
  conv => lhs; rw [h1]
  exact bl_add_pow h4 h3

/-- The order of two numbers, as Go's functions tell it. -/
def cmpI (m n : Nat) : Int := if m < n then -1 else if n < m then 1 else 0
theorem cmpI_neg {m n : Nat} : cmpI m n < 0 ↔ m < n := by
  unfold cmpI; by_cases h : m < n <;> by_cases h2 : n < m <;> simp [h, h2]
theorem cmpI_pos {m n : Nat} : 0 < cmpI m n ↔ n < m := by
  unfold cmpI; by_cases h : m < n <;> by_cases h2 : n < m <;> simp [h, h2]; omega
theorem cmpI_zero {m n : Nat} : cmpI m n = 0 ↔ m = n := by
  unfold cmpI; by_cases h : m < n <;> by_cases h2 : n < m <;> simp [h, h2] <;> omega
theorem val_split3 {B : Nat} (l : List Nat) (i : Nat) (h : i < l.length) : val B l = val B (l.take i) + B ^ i * (l.getD i 0 + B * val B (l.drop (i + 1))) := by
  rw [val_take_drop l i (by omega), List.drop_eq_getElem_cons h, getD_lt _ _ h]; rfl
theorem val_lt_top {B : Nat} {a b : List Nat} {i : Nat} (ha : ok B a) (hi : i < a.length) (hj : i < b.length) (hd : a.drop (i + 1) = b.drop (i + 1)) (h : a.getD i 0 < b.getD i 0) : val B a < val B b := by
  rw [val_split3 a i hi, val_split3 b i hj, hd]
  have h1 : val B (a.take i) < B ^ i := by
    have := val_lt (ok_take ha i); rwa [List.length_take, Nat.min_eq_left (by omega)] at this
  have h2 : B ^ i * (a.getD i 0 + B * val B (b.drop (i + 1)) + 1) ≤ B ^ i * (b.getD i 0 + B * val B (b.drop (i + 1))) := Nat.mul_le_mul_left _ (by omega)
  rw [Nat.mul_add] at h2
  omega
theorem digs_len_lt {B : Nat} (hB : 2 ≤ B) {m n : Nat} (h : (digs B m).length < (digs B n).length) : m < n := by
  have hn : n ≠ 0 := fun e => by subst e; rw [digs_zero] at h; simp at h
  have h1 := (digs_length_bounds hB hn).1
  have h2 : m < B ^ (digs B m).length := by have := val_lt (ok_digs hB m); rwa [val_digs hB] at this
  have h3 : B ^ (digs B m).length ≤ B ^ ((digs B n).length - 1) := Nat.pow_le_pow_right (by omega) (by omega)
  omega
theorem add_step {V P A C x y c s c' B : Nat} (h : s + B * c' = x + y + c) (ih : V + c * P = A + C) : V + P * s + c' * (P * B) = (A + P * x) + (C + P * y) := by
  grind
theorem sub_step {V P A C x y c s c' B : Nat} (h : s + y + c = x + B * c') (ih : V + C = A + c * P) : V + P * s + (C + P * y) = (A + P * x) + c' * (P * B) := by
  grind

/-- Digits as the numbers in memory. -/
def nn (l : List Nat) : List Int := l.map fun x : Nat => (x : Int)
@[simp] theorem nn_length (l : List Nat) : (nn l).length = l.length := by simp [nn]
theorem nn_getD (l : List Nat) (i : Nat) : (nn l).getD i 0 = ((l.getD i 0 : Nat) : Int) := by
  simp only [nn, List.getD_eq_getElem?_getD, List.getElem?_map]
  cases l[i]? <;> simp
theorem nn_take (l : List Nat) (m : Nat) : (nn l).take m = nn (l.take m) := by simp [nn, List.map_take]
theorem nn_drop (l : List Nat) (m : Nat) : (nn l).drop m = nn (l.drop m) := by simp [nn, List.map_drop]
theorem nn_set (l : List Nat) (i x : Nat) : (nn l).set i (x : Int) = nn (l.set i x) := by simp [nn, List.map_set]
theorem nn_append (l m : List Nat) : nn (l ++ m) = nn l ++ nn m := by simp [nn]
theorem nn_replicate (n : Nat) : List.replicate n (0 : Int) = nn (List.replicate n 0) := by simp [nn]
theorem nn_inj {l m : List Nat} (h : nn l = nn m) : l = m := by
  have := congrArg (List.map Int.toNat) h
  simpa [nn, Function.comp_def] using this

/-! ### wrapped numbers -/
theorem wrap_i64 {x : Int} (h0 : -9223372036854775808 ≤ x) (h1 : x ≤ 9223372036854775807) : IntKind.i64.wrap x = x := by
  unfold IntKind.wrap; simp [IntKind.bits, IntKind.signed]; omega
theorem wrap_u64 (x : Int) : IntKind.u64.wrap x = x % 18446744073709551616 := by
  unfold IntKind.wrap; simp [IntKind.bits, IntKind.signed]
theorem wrap_u64' {x : Int} (h0 : 0 ≤ x) (h1 : x < 18446744073709551616) : IntKind.u64.wrap x = x := by
  rw [wrap_u64]; omega

end Dg
end Go.Proofs.YthhbjhdnaopcnaaDoor
