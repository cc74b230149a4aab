/- The engine: a verification condition 'vc' that is reckoned by the kernel out of a function's code, and the proof that it implies the walk's own 'Code.wp'. No condition. -/
import Derived.WalkKit
import Derived.Wp
import Derived.KernelRfl
import Derived.Deep.Quiet
import Derived.StillTail
import Derived.OrdersHeld
namespace Go.Proofs.YthhbjhdnaopcnaaDoor
open Go Go.RowKit
set_option linter.unusedVariables false
set_option linter.unusedSimpArgs false
namespace Eng

/-- A slice's header. -/
structure Slc where
  A : Option Addr
  n : Nat
  c : Nat
def Slc.v (s : Slc) : Value := .slice s.A s.n s.c

inductive Ty where
  | b | i (k : IntKind) | s | sl | p | pa | any | bad
  | ag (ts : List Ty) | tup (ts : List Ty)

mutual
def exV : Ty → (Value → Prop) → Prop
  | .b, p => ∃ x : Bool, p (.bool x)
  | .i k, p => ∃ x : Int, p (.int k x)
  | .s, p => ∃ x : ByteArray, p (.string x)
  | .sl, p => ∃ x : Slc, p x.v
  | .p, p => ∃ x : Option Addr, p (.pointer x)
  | .pa, p => ∃ x : Addr, p (.pointer (some x))
  | .any, p => ∃ x : Value, p x
  | .bad, _ => False
  | .ag ts, p => exL ts fun vs => p (.agg vs.toArray)
  | .tup ts, p => exL ts fun vs => p (.tuple vs.toArray)
def exL : List Ty → (List Value → Prop) → Prop
  | [], p => p []
  | t :: ts, p => exV t fun v => exL ts fun vs => p (v :: vs)
end

mutual
theorem exV_out : ∀ (t : Ty) (p : Value → Prop), exV t p → ∃ v, p v
  | .b, p, h => by rw [exV] at h; obtain ⟨x, h⟩ := h; exact ⟨_, h⟩
  | .i k, p, h => by rw [exV] at h; obtain ⟨x, h⟩ := h; exact ⟨_, h⟩
  | .s, p, h => by rw [exV] at h; obtain ⟨x, h⟩ := h; exact ⟨_, h⟩
  | .sl, p, h => by rw [exV] at h; obtain ⟨x, h⟩ := h; exact ⟨_, h⟩
  | .p, p, h => by rw [exV] at h; obtain ⟨x, h⟩ := h; exact ⟨_, h⟩
  | .pa, p, h => by rw [exV] at h; obtain ⟨x, h⟩ := h; exact ⟨_, h⟩
  | .any, p, h => by rw [exV] at h; obtain ⟨x, h⟩ := h; exact ⟨_, h⟩
  | .bad, p, h => by rw [exV] at h; exact h.elim
  | .ag ts, p, h => by rw [exV] at h; obtain ⟨vs, _, h⟩ := exL_out ts _ h; exact ⟨_, h⟩
  | .tup ts, p, h => by rw [exV] at h; obtain ⟨vs, _, h⟩ := exL_out ts _ h; exact ⟨_, h⟩
theorem exL_out : ∀ (ts : List Ty) (p : List Value → Prop), exL ts p → ∃ vs, vs.length = ts.length ∧ p vs
  | [], p, h => by rw [exL] at h; exact ⟨[], rfl, h⟩
  | t :: ts, p, h => by
    rw [exL] at h
    obtain ⟨v, h⟩ := exV_out t _ h
    obtain ⟨vs, hl, h⟩ := exL_out ts _ h
    exact ⟨v :: vs, by simp [hl], h⟩
end

/-- What a type's values look like. -/
def tyF (P : Program) : Nat → TypeId → Ty
  | 0, _ => .bad
  | d + 1, t => match P.underlying t with
    | some .bool => .b
    | some (.int k) => .i k
    | some .string => .s
    | some (.slice _) => .sl
    | some (.pointer _) => .p
    | some (.func ..) => .any
    | some (.tuple ts) => .tup (ts.toList.map (tyF P d))
    | some (.struct fs) => .ag (fs.toList.map fun f => match tyF P d f.type with | .ag ts => ts | ty => [ty]).flatten
    | some (.array n e) => .ag (List.replicate n (match tyF P d e with | .ag ts => ts | ty => [ty])).flatten
    | _ => .bad

def br (b : Bool) (X Y : Prop) : Prop := match b with | true => X | false => Y
theorem br_intro {b : Bool} {X Y : Prop} (h1 : b = true → X) (h2 : b = false → Y) : br b X Y := by cases b <;> simp_all [br]
theorem br_true {b : Bool} {X Y : Prop} (hb : b = true) (h : X) : br b X Y := by subst hb; exact h
theorem br_false {b : Bool} {X Y : Prop} (hb : b = false) (h : Y) : br b X Y := by subst hb; exact h
def onSome (p : Option Addr) (K : Addr → Prop) : Prop := match p with | some ad => K ad | none => False
theorem onSome_intro {p : Option Addr} {K : Addr → Prop} {ad : Addr} (h : p = some ad) (hk : K ad) : onSome p K := by subst h; exact hk

/-! ### Loads -/
def ldL (ad : Addr) (w : World) : Nat → List Ty → (List Value → Prop) → Prop
  | _, [], k => k []
  | i, t :: ts, k => exV t fun v => w.cell? (ad.add i) = some v ∧ ldL ad w (i + 1) ts fun vs => k (v :: vs)
def ldT (P : Program) (t : TypeId) (ad : Addr) (w : World) (k : Value → Prop) : Prop :=
  match P.underlying t with
  | some (.struct fs) => match tyF P 8 t with
    | .ag ts => match (P.info? t).map (·.size) == some ts.length with
      | true => ldL ad w 0 ts fun vs => k (.agg vs.toArray)
      | false => False
    | _ => False
  | some (.array n e) => match tyF P 8 t with
    | .ag ts => match (P.info? t).map (·.size) == some ts.length with
      | true => ldL ad w 0 ts fun vs => k (.agg vs.toArray)
      | false => False
    | _ => False
  | some d => exV (tyF P 8 t) fun v => w.cell? ad = some v ∧ k v
  | none => False

theorem ldL_run {P : Program} {ad : Addr} {w : World} : ∀ (ts : List Ty) (i : Nat) (k : List Value → Prop) (acc : Array Value), ldL ad w i ts k →
    ∃ vs, k vs ∧ (loadCellsFrom ad i ts.length acc).run P w = .ok (acc ++ vs.toArray) w
  | [], i, k, acc, h => ⟨[], h, by simp [loadCellsFrom]⟩
  | t :: ts, i, k, acc, h => by
    rw [ldL] at h
    obtain ⟨v, hc, h⟩ := exV_out _ _ h
    obtain ⟨vs, hk, hr⟩ := ldL_run (P := P) ts (i + 1) _ (acc.push v) h
    refine ⟨v :: vs, hk, ?_⟩
    simp only [List.length_cons, loadCellsFrom, Sem.run_bind, load, Sem.run, hc, Result.andThen, hr]
    simp

theorem ldT_run {P : Program} {t : TypeId} {ad : Addr} {w : World} {k : Value → Prop} (h : ldT P t ad w k) :
    ∃ v, k v ∧ (loadVar t ad).run P w = .ok v w := by
  unfold ldT at h
  have agg : ∀ ts : List Ty, (P.info? t).map (·.size) = some ts.length → ldL ad w 0 ts (fun vs => k (.agg vs.toArray)) → (isAgg t).run P w = .ok true w →
      ∃ v, k v ∧ (loadVar t ad).run P w = .ok v w := by
    intro ts hs hl ha
    obtain ⟨vs, hk, hr⟩ := ldL_run (P := P) ts 0 _ #[] hl
    refine ⟨_, hk, ?_⟩
    obtain ⟨inf, hi, hsz⟩ := Option.map_eq_some_iff.1 hs
    have hsize : (sizeOf t).run P w = .ok ts.length w := by
      simp [sizeOf, typeInfo, program, Sem.run, hi, hsz]
    simp only [loadVar, Sem.run_bind, ha, Result.andThen, if_true, hsize, loadCells, hr, Sem.run_pure]
    simp
  split at h
  · rename_i fs hu
    split at h
    · split at h
      · rename_i hb; exact agg _ (by simpa using hb) h (by simp [isAgg, underlying, program, Sem.run, hu])
      · exact h.elim
    · exact h.elim
  · rename_i n e hu
    split at h
    · split at h
      · rename_i hb; exact agg _ (by simpa using hb) h (by simp [isAgg, underlying, program, Sem.run, hu])
      · exact h.elim
    · exact h.elim
  · rename_i d hns hna hu
    obtain ⟨v, hc, hk⟩ := exV_out _ _ h
    refine ⟨v, hk, ?_⟩
    have ha : (isAgg t).run P w = .ok false w := by
      simp only [isAgg, underlying, program, Sem.run_bind, Sem.run, Result.andThen, hu]
      cases d <;> simp_all
    simp only [loadVar, Sem.run_bind, ha, Result.andThen, load, Sem.run, hc]
    simp [Sem.run, hc]
  · exact h.elim

/-! ### One operation -/
def vcS (P : Program) {α : Type} : Sem α → (α → World → Prop) → World → Prop
  | .pure a, K, w => K a w
  | .load _ a k, K, w => ∃ v, w.cell? a = some v ∧ vcS P (k v) K w
  | .store _ a v k, K, w => match v.oneCell with
    | true => (∃ u, w.cell? a = some u) ∧ w.frozen? a = false ∧ vcS P k K (w.setCell a v)
    | false => False
  | .new o k, K, w => vcS P (k w.heap.size) K (w.alloc o)
  | .program k, K, w => vcS P (k P) K w
  | .mark _ k, K, w => vcS P k K w
  | _, _, _ => False

theorem vcS_sound {P : Program} {α : Type} {K : α → World → Prop} {E : Halt → World → Prop} : ∀ (e : Sem α) (w : World), vcS P e K w → e.wp P K E w := by
  intro e
  induction e with
  | pure a => intro w h; exact h
  | load m a k ih =>
    intro w h
    rw [vcS] at h
    obtain ⟨v, hc, h⟩ := h
    simp only [Sem.wp, hc]
    exact ih v w h
  | store m a v k ih =>
    intro w h
    rw [vcS] at h
    split at h
    · rename_i hv
      obtain ⟨⟨u, hu⟩, hf, h⟩ := h
      simp only [Sem.wp, hv, hu, hf, if_true]
      exact ih _ h
    · exact h.elim
  | new o k ih => intro w h; rw [vcS] at h; exact ih _ _ h
  | program k ih => intro w h; rw [vcS] at h; exact ih _ _ h
  | mark m k ih => intro w h; rw [vcS] at h; exact ih _ h
  | _ => intro w h; simp only [vcS] at h

/-- A run that may part, its value told by a type. -/
def semV (P : Program) (e : Sem Value) (ty : Ty) (w : World) (K : Value → World → Prop) : Prop :=
  e.wp P (fun v w' => exV ty fun u => v = u ∧ K u w') (fun _ _ => False) w

def entB (P : Program) (g : FuncId) : Bool := match P.funcs[g]? with
  | some fn => fn.body.isSome && !(fn.name == "runtime.NumGoroutine")
  | none => false

def isConstOp : Operand → Bool
  | .const _ => true
  | _ => false

def vcOp (P : Program) (o : Oper) (a : Act) (K : Act → World → Prop) (w : World) : Prop :=
  match o.op with
  | .move x => K (a.put o.dst (a.eval x)) w
  | .assign x => K (a.put o.dst (a.eval x)) w
  | .pick c x y => match a.eval c with
    | .bool b => br b (K (a.put o.dst (a.eval x)) w) (K (a.put o.dst (a.eval y)) w)
    | _ => False
  | .load t x => match a.eval x with
    | .pointer p => onSome p fun ad => ldT P t ad w fun v => K (a.put o.dst v) w
    | _ => False
  | .nilCheck x => match a.eval x with
    | .pointer p => onSome p fun ad => K (a.put o.dst (.pointer (some ad))) w
    | _ => False
  | .indexAddr t x ix => semV P (Instr.indexAt t (a.eval x) (a.eval ix)) .pa w fun v w' => K (a.put o.dst v) w'
  | .index t x ix => semV P (Instr.index t (a.eval x) (a.eval ix)) (tyF P 8 o.type) w fun v w' => K (a.put o.dst v) w'
  | .slice t x lo hi mx => semV P (Instr.sliceAt t (a.eval x) (lo.map a.eval) (hi.map a.eval) (mx.map a.eval)) (tyF P 8 o.type) w fun v w' => K (a.put o.dst v) w'
  | .makeSlice t l c => semV P (Instr.makeSlice t (a.eval l) (a.eval c)) .sl w fun v w' => K (a.put o.dst v) w'
  | .binOp .quo t x y u => match isConstOp y with
    | true => vcS P (execOp a.eval o) (fun n w' => match n with | .value v => K (a.put o.dst v) w' | _ => False) w
    | false => semV P (binOp .quo t (a.eval x) (a.eval y)) (tyF P 8 t) w fun v w' => K (a.put o.dst v) w'
  | .binOp .rem t x y u => match isConstOp y with
    | true => vcS P (execOp a.eval o) (fun n w' => match n with | .value v => K (a.put o.dst v) w' | _ => False) w
    | false => semV P (binOp .rem t (a.eval x) (a.eval y)) (tyF P 8 t) w fun v w' => K (a.put o.dst v) w'
  | .binOp .shl t x y u => match isConstOp y with
    | true => vcS P (execOp a.eval o) (fun n w' => match n with | .value v => K (a.put o.dst v) w' | _ => False) w
    | false => semV P (binOp .shl t (a.eval x) (a.eval y)) (tyF P 8 t) w fun v w' => K (a.put o.dst v) w'
  | .binOp .shr t x y u => match isConstOp y with
    | true => vcS P (execOp a.eval o) (fun n w' => match n with | .value v => K (a.put o.dst v) w' | _ => False) w
    | false => semV P (binOp .shr t (a.eval x) (a.eval y)) (tyF P 8 t) w fun v w' => K (a.put o.dst v) w'
  | .binOp .eql t x (.const (.pointer none)) _ => match a.eval x with
    | .pointer p => match P.underlying t with
      | some (.pointer _) => K (a.put o.dst (.bool p.isNone)) w
      | _ => False
    | _ => False
  | .binOp .neq t x (.const (.pointer none)) _ => match a.eval x with
    | .pointer p => match P.underlying t with
      | some (.pointer _) => K (a.put o.dst (.bool p.isSome)) w
      | _ => False
    | _ => False
  | .call { callee := .builtin .append, args, argTypes } => semV P (Builtin.append_ argTypes o.type (args.map a.eval)) .sl w fun v w' => K (a.put o.dst v) w'
  | .call { callee := .builtin .copy, args, argTypes } => semV P (Builtin.copy_ argTypes o.type (args.map a.eval)) (.i .i64) w fun v w' => K (a.put o.dst v) w'
  | .call { callee := .value f, args, .. } => match a.eval f with
    | .func (.func g) first captured => match entB P g with
      | true => Calls P g (first ++ args.map a.eval ++ captured) w fun e w' => exV (tyF P 8 o.type) fun v => e = .returned v ∧ K (a.put o.dst v) w'
      | false => (callFunc g (first ++ args.map a.eval ++ captured)).wp P (fun n w' => exV (tyF P 8 o.type) fun v => n = .value v ∧ K (a.put o.dst v) w') (fun _ _ => False) w
    | _ => False
  | _ => vcS P (execOp a.eval o) (fun n w' => match n with
    | .value v => K (a.put o.dst v) w'
    | .skip => K (a.put o.dst undef) w'
    | _ => False) w

theorem upon_of_wp {P : Program} {o : Oper} {a : Act} {K : Act → World → Prop} {Q : Exit → Act → World → Prop} {w : World}
    (h : (execOp a.eval o).wp P (fun n w' => match n with
      | .value v => K (a.put o.dst v) w'
      | .skip => K (a.put o.dst undef) w'
      | .enter f args => Calls P f args w' fun e w'' => ∃ v, e = .returned v ∧ K (a.put o.dst v) w''
      | _ => False) (fun _ _ => False) w) : o.wp P a w K Q := by
  rw [Sem.wp_iff_run] at h
  unfold Oper.wp
  generalize (execOp a.eval o).run P w = r at h
  cases r with
  | halt x w' => exact h.elim
  | ok n w' =>
    simp only [Result.sat] at h
    cases n <;> simp only [Oper.upon]
    case enter f args => exact Calls.mono h fun e w'' ⟨v, he, hk⟩ => by subst he; exact hk
    all_goals first | exact h | exact False.elim h

theorem wp_val {P : Program} {o : Oper} {a : Act} {K : Act → World → Prop} {Q : Exit → Act → World → Prop} {w : World} (e : Sem Value)
    (he : execOp a.eval o = (do pure (.value (← e)))) (h : e.wp P (fun v w' => K (a.put o.dst v) w') (fun _ _ => False) w) : o.wp P a w K Q := by
  refine upon_of_wp ?_
  rw [he]
  rw [Sem.wp_iff_run] at h ⊢
  simp only [Sem.run_bind]
  generalize e.run P w = r at h
  cases r with
  | halt x w' => exact h.elim
  | ok n w' => exact h

theorem wp_semV {P : Program} {o : Oper} {a : Act} {K : Act → World → Prop} {Q : Exit → Act → World → Prop} {w : World} (e : Sem Value) {ty : Ty}
    (he : execOp a.eval o = (do pure (.value (← e)))) (h : semV P e ty w fun v w' => K (a.put o.dst v) w') : o.wp P a w K Q := by
  refine wp_val e he ?_
  unfold semV at h
  rw [Sem.wp_iff_run] at h ⊢
  generalize e.run P w = r at h
  cases r with
  | halt x w' => exact h.elim
  | ok n w' =>
    obtain ⟨u, hu, hk⟩ := exV_out _ _ h
    subst hu
    exact hk

theorem wp_semV' {P : Program} {o : Oper} {a : Act} {K : Act → World → Prop} {Q : Exit → Act → World → Prop} {w : World} (e : Sem Value) (v : Value)
    (he : execOp a.eval o = (do pure (.value (← e)))) (hr : e.run P w = .ok v w) (h : K (a.put o.dst v) w) : o.wp P a w K Q := by
  refine wp_val e he ?_
  rw [Sem.wp_iff_run, hr]
  exact h

theorem wp_vcS {P : Program} {o : Oper} {a : Act} {K : Act → World → Prop} {Q : Exit → Act → World → Prop} {w : World}
    (h : vcS P (execOp a.eval o) (fun n w' => match n with
      | .value v => K (a.put o.dst v) w'
      | .skip => K (a.put o.dst undef) w'
      | _ => False) w) : o.wp P a w K Q := by
  refine upon_of_wp ?_
  have := vcS_sound (E := fun _ _ => False) _ _ h
  rw [Sem.wp_iff_run] at this ⊢
  generalize (execOp a.eval o).run P w = r at this
  cases r with
  | halt x w' => exact this.elim
  | ok n w' => cases n <;> first | exact this | exact False.elim this

theorem wp_vcSv {P : Program} {o : Oper} {a : Act} {K : Act → World → Prop} {Q : Exit → Act → World → Prop} {w : World}
    (h : vcS P (execOp a.eval o) (fun n w' => match n with
      | .value v => K (a.put o.dst v) w'
      | _ => False) w) : o.wp P a w K Q := by
  refine upon_of_wp ?_
  have := vcS_sound (E := fun _ _ => False) _ _ h
  rw [Sem.wp_iff_run] at this ⊢
  generalize (execOp a.eval o).run P w = r at this
  cases r with
  | halt x w' => exact this.elim
  | ok n w' => cases n <;> first | exact this | exact False.elim this

theorem run_callFunc_ent {P : Program} {g : FuncId} (h : entB P g = true) (args : Array Value) (w : World) : (callFunc g args).run P w = .ok (.enter g args) w := by
  unfold entB at h
  split at h
  · rename_i fn hf
    simp only [Bool.and_eq_true, Bool.not_eq_true'] at h
    have h1 : fn.name ≠ "runtime.NumGoroutine" := by simpa using h.2
    have h2 : fn.body.isNone = false := by simpa [Option.isNone_eq_false_iff] using h.1
    simp [callFunc, program, Sem.run, hf, h1]
    intro hb
    simp [hb] at h2
  · cases h

theorem vcOp_sound {P : Program} {o : Oper} {a : Act} {K : Act → World → Prop} {Q : Exit → Act → World → Prop} {w : World}
    (h : vcOp P o a K w) : o.wp P a w K Q := by
  unfold vcOp at h
  split at h
  · rename_i x ho; exact wp_val (pure (a.eval x)) (by simp [execOp, ho]) h
  · rename_i x ho; exact wp_val (pure (a.eval x)) (by simp [execOp, ho]) h
  · rename_i c x y ho
    split at h
    · rename_i b hb
      refine wp_val (pure (if b = true then a.eval x else a.eval y)) (by simp [execOp, ho, hb, asBool]) ?_
      cases b <;> exact h
    · exact h.elim
  · rename_i t x ho
    split at h
    · rename_i p hp
      cases p with
      | none => exact h.elim
      | some ad =>
        obtain ⟨v, hk, hr⟩ := ldT_run (show ldT P t ad w (fun v => K (a.put o.dst v) w) from h)
        refine wp_val (loadVar t ad) (by simp [execOp, ho, hp, Instr.loadAt, Instr.sureAddr]) ?_
        rw [Sem.wp_iff_run, hr]
        exact hk
    · exact h.elim
  · rename_i x ho
    split at h
    · rename_i p hp
      cases p with
      | none => exact h.elim
      | some ad => exact wp_val (pure (.pointer (some ad))) (by simp [execOp, ho, hp]) h
    · exact h.elim
  · rename_i t x ix ho; exact wp_semV _ (by simp [execOp, ho]) h
  · rename_i t x ix ho; exact wp_semV _ (by simp [execOp, ho]) h
  · rename_i t x lo hi mx ho; exact wp_semV _ (by simp [execOp, ho]) h
  · rename_i t l c ho; exact wp_semV _ (by simp [execOp, ho]) h
  · rename_i t x y u ho
    split at h
    · exact wp_vcSv h
    · exact wp_semV _ (by simp [execOp, ho, eqGuard]) h
  · rename_i t x y u ho
    split at h
    · exact wp_vcSv h
    · exact wp_semV _ (by simp [execOp, ho, eqGuard]) h
  · rename_i t x y u ho
    split at h
    · exact wp_vcSv h
    · exact wp_semV _ (by simp [execOp, ho, eqGuard]) h
  · rename_i t x y u ho
    split at h
    · exact wp_vcSv h
    · exact wp_semV _ (by simp [execOp, ho, eqGuard]) h
  · rename_i t x u ho
    split at h
    · rename_i p hp
      split at h
      · rename_i e hu
        have hv : a.eval (.const (.pointer none)) = .pointer none := rfl
        have hu' : P.underlying t = some (.pointer (P.pointee t)) := by rw [hu]; simp [Program.pointee, hu]
        exact wp_semV' (binOp .eql t (.pointer p) (.pointer none)) _ (by simp [execOp, ho, hp, hv, eqGuard]) (run_eql_pointer_nil w t p hu') h
      · exact h.elim
    · exact h.elim
  · rename_i t x u ho
    split at h
    · rename_i p hp
      split at h
      · rename_i e hu
        have hv : a.eval (.const (.pointer none)) = .pointer none := rfl
        have hu' : P.underlying t = some (.pointer (P.pointee t)) := by rw [hu]; simp [Program.pointee, hu]
        exact wp_semV' (binOp .neq t (.pointer p) (.pointer none)) _ (by simp [execOp, ho, hp, hv, eqGuard]) (by rw [run_neq_pointer_nil w t p hu']; cases p <;> rfl) h
      · exact h.elim
    · exact h.elim
  · rename_i args ts ho; exact wp_semV _ (by simp [execOp, ho, resolve, invoke, builtin]) h
  · rename_i args ts ho; exact wp_semV _ (by simp [execOp, ho, resolve, invoke, builtin]) h
  · rename_i f args ts ho
    split at h
    · rename_i g first captured hf
      have hx : execOp a.eval o = callFunc g (first ++ args.map a.eval ++ captured) := by
        simp [execOp, ho, resolve, invoke, Deferred.ofValue, hf]
      split at h
      · rename_i he
        refine upon_of_wp ?_
        rw [hx, Sem.wp_iff_run, run_callFunc_ent he]
        exact Calls.mono h fun e w' hv => exV_out _ _ hv
      · refine upon_of_wp ?_
        rw [hx]
        rw [Sem.wp_iff_run] at h ⊢
        generalize (callFunc g (first ++ args.map a.eval ++ captured)).run P w = r at h
        cases r with
        | halt x w' => exact h.elim
        | ok n w' =>
          obtain ⟨v, hn, hk⟩ := exV_out _ _ h
          subst hn
          exact hk
    · exact h.elim
  · exact wp_vcS h

/-! ### A list of operations in the order of the text -/
def isWant (want b : Bool) (X Y : Prop) : Prop := match want, b with
  | true, true => X
  | false, false => X
  | _, _ => Y

def vcOps (P : Program) (ops : Array Oper) (Q : Exit → Act → World → Prop) : List Oper → Act → World → Prop
  | [], a, w => Q .normal a w
  | o :: rest, a, w => match o.guard with
    | none => vcOp P o a (vcOps P ops Q rest) w
    | some (j, want) => match (ops[j]?).bind (·.dst) with
      | some d => match a.tmps[d]? with
        | some (.bool b) => br b
            (isWant want true (vcOp P o (a.put (some d) (.bool true)) (vcOps P ops Q rest) w) (vcOps P ops Q rest ((a.put (some d) (.bool true)).put o.dst undef) w))
            (isWant want false (vcOp P o (a.put (some d) (.bool false)) (vcOps P ops Q rest) w) (vcOps P ops Q rest ((a.put (some d) (.bool false)).put o.dst undef) w))
        | _ => vcOps P ops Q rest (a.put o.dst undef) w
      | none => vcOps P ops Q rest (a.put o.dst undef) w

theorem put_same {a : Act} {d : Nat} {v : Value} (h : a.tmps[d]? = some v) : a.put (some d) v = a := by
  have : a.tmps.setIfInBounds d v = a.tmps := by
    apply Array.ext_getElem?
    intro i
    rw [Array.getElem?_setIfInBounds]
    split
    · rename_i e
      subst e
      split
      · exact h.symm
      · rename_i hn; rw [Array.getElem?_eq_none (by omega)] at h; cases h
    · rfl
  simp [Act.put, this]

theorem vcOps_sound {P : Program} {ops : Array Oper} {Q : Exit → Act → World → Prop} : ∀ (l : List Oper) (a : Act) (w : World), vcOps P ops Q l a w → wpList P ops Q l a w
  | [], _, _, h => h
  | o :: rest, a, w, h => by
    have ih := vcOps_sound (P := P) (ops := ops) (Q := Q) rest
    have hK : ∀ a w, vcOp P o a (vcOps P ops Q rest) w → o.wp P a w (wpList P ops Q rest) Q := fun a w h => by
      have := vcOp_sound (Q := Q) h
      unfold Oper.wp at this ⊢
      generalize (execOp a.eval o).run P w = r at this
      cases r with
      | halt x w' => cases x <;> exact this
      | ok n w' =>
        cases n <;> simp only [Oper.upon] at this ⊢
        case enter f args =>
          refine Calls.mono this fun e w'' hv => ?_
          cases e <;> first | exact ih _ _ hv | exact hv
        case row row args => exact Rows.mono this fun v w'' hv => ih _ _ hv
        all_goals first | exact ih _ _ this | exact this
    unfold wpList
    rw [vcOps] at h
    have hskip : ∀ a : Act, Region.wanted o (yielded ops a.tmps) = false → vcOps P ops Q rest (a.put o.dst undef) w → (if Region.wanted o (yielded ops a.tmps) then o.wp P a w (wpList P ops Q rest) Q ∨ (o.asks P a w ∧ LetsOut Q) else wpList P ops Q rest (a.put o.dst undef) w) := by
      intro a hw h
      rw [if_neg (by simp [hw])]
      exact ih _ _ h
    split at h
    · rename_i hg
      rw [if_pos (by simp [Region.wanted, hg])]
      exact .inl (hK _ _ h)
    · rename_i j want hg
      split at h
      · rename_i d hd
        split at h
        · rename_i b hb
          have hy : yielded ops a.tmps j = some b := by simp [yielded, hd, hb]
          have hwant : Region.wanted o (yielded ops a.tmps) = (b == want) := by simp [Region.wanted, hg, hy]
          cases b
          · rw [br, put_same hb] at h
            cases want
            · rw [if_pos (by simp [hwant])]
              exact .inl (hK _ _ h)
            · exact hskip a (by simp [hwant]) h
          · rw [br, put_same hb] at h
            cases want
            · exact hskip a (by simp [hwant]) h
            · rw [if_pos (by simp [hwant])]
              exact .inl (hK _ _ h)
        · rename_i hb
          refine hskip a ?_ h
          have hy : yielded ops a.tmps j = none := by
            simp only [yielded, hd, Option.bind_some]
            all_goals
              generalize a.tmps[d]? = v at hb
              cases v with
              | none => rfl
              | some v => cases v <;> first | rfl | exact absurd rfl (hb _)
          simp [Region.wanted, hg, hy]
      · rename_i hd
        refine hskip a ?_ h
        have hy : yielded ops a.tmps j = none := by simp [yielded, hd]
        simp [Region.wanted, hg, hy]

/-! ### A region that draws its order: what only reads, and quiet calls -/
def Ahead (w w' : World) : Prop := Below w.heap.size w w'
theorem Ahead.refl (w : World) : Ahead w w := Below.refl _ _
theorem Ahead.trans {a b c : World} (h : Ahead a b) (k : Ahead b c) : Ahead a c := Below.trans h (k.mono h.size)
theorem Ahead.cell {w w' : World} (h : Ahead w w') {ad : Addr} {v : Value} (hc : w.cell? ad = some v) : w'.cell? ad = some v := by
  have hb : ad.block < w.heap.size := by
    unfold World.cell? at hc
    split at hc
    · rename_i hh; exact (Array.getElem?_eq_some_iff.1 hh).1
    · cases hc
  rw [Below.cell h hb]; exact hc

def pureRun (P : Program) {α : Type} : Sem α → Option α
  | .pure a => some a
  | .program k => pureRun P (k P)
  | .mark _ k => pureRun P k
  | _ => none
theorem pureRun_run {P : Program} {α : Type} (w : World) : ∀ (e : Sem α) (v : α), pureRun P e = some v → e.run P w = .ok v w := by
  intro e
  induction e with
  | pure a => intro v h; simp only [pureRun, Option.some.injEq] at h; subst h; rfl
  | program k ih => intro v h; rw [pureRun] at h; exact ih _ v h
  | mark m k ih => intro v h; rw [pureRun] at h; exact ih v h
  | _ => intro v h; simp [pureRun] at h

/-- A run that comes to one value, in every world ahead of this one, and leaves it alone. -/
def fixV (P : Program) (e : Sem Value) (ty : Ty) (w : World) (K : Value → Prop) : Prop :=
  exV ty fun v => (∀ w', Ahead w w' → e.run P w' = .ok v w') ∧ K v

def vcQOp (P : Program) (o : Oper) (a : Act) (w : World) (K : Act → Prop) : Prop :=
  match o.op with
  | .pick c x y => match a.eval c with
    | .bool b => br b (K (a.put o.dst (a.eval x))) (K (a.put o.dst (a.eval y)))
    | _ => False
  | .load t x => match a.eval x with
    | .pointer p => onSome p fun ad => ldT P t ad w fun v => K (a.put o.dst v)
    | _ => False
  | .nilCheck x => match a.eval x with
    | .pointer p => onSome p fun ad => K (a.put o.dst (.pointer (some ad)))
    | _ => False
  | .indexAddr t x ix => fixV P (Instr.indexAt t (a.eval x) (a.eval ix)) .pa w fun v => K (a.put o.dst v)
  | .index t x ix => fixV P (Instr.index t (a.eval x) (a.eval ix)) (tyF P 8 o.type) w fun v => K (a.put o.dst v)
  | .slice t x lo hi mx => fixV P (Instr.sliceAt t (a.eval x) (lo.map a.eval) (hi.map a.eval) (mx.map a.eval)) (tyF P 8 o.type) w fun v => K (a.put o.dst v)
  | .binOp .quo t x y _ => match isConstOp y with
    | true => match pureRun P (execOp a.eval o) with
      | some (.value v) => K (a.put o.dst v)
      | _ => False
    | false => fixV P (binOp .quo t (a.eval x) (a.eval y)) (tyF P 8 t) w fun v => K (a.put o.dst v)
  | .binOp .rem t x y _ => match isConstOp y with
    | true => match pureRun P (execOp a.eval o) with
      | some (.value v) => K (a.put o.dst v)
      | _ => False
    | false => fixV P (binOp .rem t (a.eval x) (a.eval y)) (tyF P 8 t) w fun v => K (a.put o.dst v)
  | .binOp .shl t x y _ => match isConstOp y with
    | true => match pureRun P (execOp a.eval o) with
      | some (.value v) => K (a.put o.dst v)
      | _ => False
    | false => fixV P (binOp .shl t (a.eval x) (a.eval y)) (tyF P 8 t) w fun v => K (a.put o.dst v)
  | .binOp .shr t x y _ => match isConstOp y with
    | true => match pureRun P (execOp a.eval o) with
      | some (.value v) => K (a.put o.dst v)
      | _ => False
    | false => fixV P (binOp .shr t (a.eval x) (a.eval y)) (tyF P 8 t) w fun v => K (a.put o.dst v)
  | .call { callee := .value f, args, .. } => match a.eval f with
    | .func (.func g) first captured => match entB P g with
      | true => exV (tyF P 8 o.type) fun v => (∀ w', Ahead w w' → Calls P g (first ++ args.map a.eval ++ captured) w' fun e w'' => e = .returned v ∧ Ahead w' w'') ∧ K (a.put o.dst v)
      | false => False
    | _ => False
  | _ => match pureRun P (execOp a.eval o) with
    | some (.value v) => K (a.put o.dst v)
    | _ => False

def vcQ (P : Program) (ops : Array Oper) (w : World) (Q : Act → Prop) : List Oper → Act → Prop
  | [], a => Q a
  | o :: rest, a => match o.guard with
    | none => vcQOp P o a w (vcQ P ops w Q rest)
    | some (j, want) => match (ops[j]?).bind (·.dst) with
      | some d => match a.tmps[d]? with
        | some (.bool b) => br b
            (isWant want true (vcQOp P o (a.put (some d) (.bool true)) w (vcQ P ops w Q rest)) (vcQ P ops w Q rest ((a.put (some d) (.bool true)).put o.dst undef)))
            (isWant want false (vcQOp P o (a.put (some d) (.bool false)) w (vcQ P ops w Q rest)) (vcQ P ops w Q rest ((a.put (some d) (.bool false)).put o.dst undef)))
        | _ => vcQ P ops w Q rest (a.put o.dst undef)
      | none => vcQ P ops w Q rest (a.put o.dst undef)

theorem quiet_val {P : Program} {o : Oper} {a : Act} {w : World} {K : Act → Prop} (e : Sem Value) (v : Value)
    (he : execOp a.eval o = (do pure (.value (← e)))) (hr : ∀ w', Ahead w w' → e.run P w' = .ok v w') (hk : K (a.put o.dst v)) : o.quiet P a (Ahead w) K := by
  refine ⟨v, fun w' hw => ?_, hk⟩
  unfold Oper.quietAt
  rw [he]
  simp [Sem.run_bind, hr w' hw, Result.andThen, Oper.quietUpon]

theorem ldL_ahead {P : Program} {ad : Addr} {w : World} : ∀ (ts : List Ty) (i : Nat) (k : List Value → Prop), ldL ad w i ts k →
    ∃ vs, k vs ∧ ∀ (acc : Array Value) (w' : World), Ahead w w' → (loadCellsFrom ad i ts.length acc).run P w' = .ok (acc ++ vs.toArray) w'
  | [], i, k, h => ⟨[], h, by simp [loadCellsFrom]⟩
  | t :: ts, i, k, h => by
    rw [ldL] at h
    obtain ⟨v, hc, h⟩ := exV_out _ _ h
    obtain ⟨vs, hk, hr⟩ := ldL_ahead (P := P) ts (i + 1) _ h
    refine ⟨v :: vs, hk, fun acc w' hw => ?_⟩
    simp only [List.length_cons, loadCellsFrom, Sem.run_bind, load, Sem.run, hw.cell hc, Result.andThen, hr _ w' hw]
    simp

theorem ldT_ahead {P : Program} {t : TypeId} {ad : Addr} {w : World} {k : Value → Prop} (h : ldT P t ad w k) :
    ∃ v, k v ∧ ∀ w', Ahead w w' → (loadVar t ad).run P w' = .ok v w' := by
  unfold ldT at h
  have agg : ∀ ts : List Ty, (P.info? t).map (·.size) = some ts.length → ldL ad w 0 ts (fun vs => k (.agg vs.toArray)) → (∀ w', (isAgg t).run P w' = .ok true w') →
      ∃ v, k v ∧ ∀ w', Ahead w w' → (loadVar t ad).run P w' = .ok v w' := by
    intro ts hs hl ha
    obtain ⟨vs, hk, hr⟩ := ldL_ahead (P := P) ts 0 _ hl
    refine ⟨_, hk, fun w' hw => ?_⟩
    obtain ⟨inf, hi, hsz⟩ := Option.map_eq_some_iff.1 hs
    have hsize : (sizeOf t).run P w' = .ok ts.length w' := by
      simp [sizeOf, typeInfo, program, Sem.run, hi, hsz]
    simp only [loadVar, Sem.run_bind, ha, Result.andThen, if_true, hsize, loadCells, hr _ w' hw, Sem.run_pure]
    simp
  split at h
  · rename_i fs hu
    split at h
    · split at h
      · rename_i hb; exact agg _ (by simpa using hb) h (fun w' => by simp [isAgg, underlying, program, Sem.run, hu])
      · exact h.elim
    · exact h.elim
  · rename_i n e hu
    split at h
    · split at h
      · rename_i hb; exact agg _ (by simpa using hb) h (fun w' => by simp [isAgg, underlying, program, Sem.run, hu])
      · exact h.elim
    · exact h.elim
  · rename_i d hns hna hu
    obtain ⟨v, hc, hk⟩ := exV_out _ _ h
    refine ⟨v, hk, fun w' hw => ?_⟩
    have ha : (isAgg t).run P w' = .ok false w' := by
      simp only [isAgg, underlying, program, Sem.run_bind, Sem.run, Result.andThen, hu]
      cases d <;> simp_all
    have hc' := hw.cell hc
    simp only [loadVar, Sem.run_bind, ha, Result.andThen, load, Sem.run]
    simp [Sem.run, hc']
  · exact h.elim

theorem quiet_fix {P : Program} {o : Oper} {a : Act} {w : World} {K : Act → Prop} (e : Sem Value) {ty : Ty}
    (he : execOp a.eval o = (do pure (.value (← e)))) (h : fixV P e ty w fun v => K (a.put o.dst v)) : o.quiet P a (Ahead w) K := by
  obtain ⟨v, hr, hk⟩ := exV_out _ _ h
  exact quiet_val e v he hr hk

theorem quiet_pure {P : Program} {o : Oper} {a : Act} {w : World} {K : Act → Prop}
    (h : match pureRun P (execOp a.eval o) with
      | some (.value v) => K (a.put o.dst v)
      | _ => False) : o.quiet P a (Ahead w) K := by
  split at h
  · rename_i v hv
    refine ⟨v, fun w' _ => ?_, h⟩
    unfold Oper.quietAt
    rw [pureRun_run w' _ _ hv]
    exact ⟨rfl, rfl⟩
  · exact h.elim

theorem vcQOp_sound {P : Program} {o : Oper} {a : Act} {w : World} {K : Act → Prop} (h : vcQOp P o a w K) : o.quiet P a (Ahead w) K := by
  unfold vcQOp at h
  split at h
  · rename_i c x y ho
    split at h
    · rename_i b hb
      refine quiet_val (pure (if b = true then a.eval x else a.eval y)) _ (by simp [execOp, ho, hb, asBool]) (fun w' _ => rfl) ?_
      cases b <;> exact h
    · exact h.elim
  · rename_i t x ho
    split at h
    · rename_i p hp
      cases p with
      | none => exact h.elim
      | some ad =>
        obtain ⟨v, hk, hr⟩ := ldT_ahead (show ldT P t ad w (fun v => K (a.put o.dst v)) from h)
        exact quiet_val (loadVar t ad) v (by simp [execOp, ho, hp, Instr.loadAt, Instr.sureAddr]) hr hk
    · exact h.elim
  · rename_i x ho
    split at h
    · rename_i p hp
      cases p with
      | none => exact h.elim
      | some ad => exact quiet_val (pure (.pointer (some ad))) _ (by simp [execOp, ho, hp]) (fun w' _ => rfl) h
    · exact h.elim
  · rename_i t x ix ho; exact quiet_fix _ (by simp [execOp, ho]) h
  · rename_i t x ix ho; exact quiet_fix _ (by simp [execOp, ho]) h
  · rename_i t x lo hi mx ho; exact quiet_fix _ (by simp [execOp, ho]) h
  · rename_i t x y u ho
    split at h
    · exact quiet_pure h
    · exact quiet_fix _ (by simp [execOp, ho, eqGuard]) h
  · rename_i t x y u ho
    split at h
    · exact quiet_pure h
    · exact quiet_fix _ (by simp [execOp, ho, eqGuard]) h
  · rename_i t x y u ho
    split at h
    · exact quiet_pure h
    · exact quiet_fix _ (by simp [execOp, ho, eqGuard]) h
  · rename_i t x y u ho
    split at h
    · exact quiet_pure h
    · exact quiet_fix _ (by simp [execOp, ho, eqGuard]) h
  · rename_i f args ts ho
    split at h
    · rename_i g first captured hf
      have hx : execOp a.eval o = callFunc g (first ++ args.map a.eval ++ captured) := by
        simp [execOp, ho, resolve, invoke, Deferred.ofValue, hf]
      split at h
      · rename_i he
        obtain ⟨v, hc, hk⟩ := exV_out _ _ h
        refine ⟨v, fun w' hw => ?_, hk⟩
        unfold Oper.quietAt
        rw [hx, run_callFunc_ent he]
        exact ⟨rfl, Calls.mono (hc w' hw) fun e w'' ⟨h1, h2⟩ => ⟨h1, hw.trans h2⟩⟩
      · exact h.elim
    · exact h.elim
  · exact quiet_pure h

theorem vcQ_sound {P : Program} {ops : Array Oper} {w : World} {Q : Act → Prop} : ∀ (l : List Oper) (a : Act), vcQ P ops w Q l a → wpQuiet P ops (Ahead w) Q l a
  | [], _, h => h
  | o :: rest, a, h => by
    have ih := vcQ_sound (P := P) (ops := ops) (w := w) (Q := Q) rest
    have hK : ∀ a, vcQOp P o a w (vcQ P ops w Q rest) → o.quiet P a (Ahead w) (wpQuiet P ops (Ahead w) Q rest) := fun a h =>
      Oper.quiet_mono ih (vcQOp_sound h)
    unfold wpQuiet
    rw [vcQ] at h
    have hskip : ∀ a : Act, Region.wanted o (yielded ops a.tmps) = false → vcQ P ops w Q rest (a.put o.dst undef) → (if Region.wanted o (yielded ops a.tmps) then o.quiet P a (Ahead w) (wpQuiet P ops (Ahead w) Q rest) else wpQuiet P ops (Ahead w) Q rest (a.put o.dst undef)) := by
      intro a hw h
      rw [if_neg (by simp [hw])]
      exact ih _ h
    split at h
    · rename_i hg
      rw [if_pos (by simp [Region.wanted, hg])]
      exact hK _ h
    · rename_i j want hg
      split at h
      · rename_i d hd
        split at h
        · rename_i b hb
          have hy : yielded ops a.tmps j = some b := by simp [yielded, hd, hb]
          have hwant : Region.wanted o (yielded ops a.tmps) = (b == want) := by simp [Region.wanted, hg, hy]
          cases b
          · rw [br, put_same hb] at h
            cases want
            · rw [if_pos (by simp [hwant])]
              exact hK _ h
            · exact hskip a (by simp [hwant]) h
          · rw [br, put_same hb] at h
            cases want
            · exact hskip a (by simp [hwant]) h
            · rw [if_pos (by simp [hwant])]
              exact hK _ h
        · rename_i hb
          refine hskip a ?_ h
          have hy : yielded ops a.tmps j = none := by
            simp only [yielded, hd, Option.bind_some]
            all_goals
              generalize a.tmps[d]? = v at hb
              cases v with
              | none => rfl
              | some v => cases v <;> first | rfl | exact absurd rfl (hb _)
          simp [Region.wanted, hg, hy]
      · rename_i hd
        refine hskip a ?_ h
        have hy : yielded ops a.tmps j = none := by simp [yielded, hd]
        simp [Region.wanted, hg, hy]

/-- Is it a call of a function? -/
def isCall : Op → Bool
  | .call { callee := .value _, .. } => true
  | _ => false

theorem vcQOp_val {P : Program} {o : Oper} {a : Act} {w : World} {K : Act → Prop} (hn : isCall o.op = false) (h : vcQOp P o a w K) :
    ∃ v, (∀ w', Ahead w w' → (execOp a.eval o).run P w' = .ok (.value v) w') ∧ K (a.put o.dst v) := by
  have val : ∀ (e : Sem Value) (v : Value), execOp a.eval o = (do pure (.value (← e))) → (∀ w', Ahead w w' → e.run P w' = .ok v w') → K (a.put o.dst v) →
      ∃ v, (∀ w', Ahead w w' → (execOp a.eval o).run P w' = .ok (.value v) w') ∧ K (a.put o.dst v) := by
    intro e v he hr hk
    refine ⟨v, fun w' hw => ?_, hk⟩
    rw [he]
    simp [Sem.run_bind, hr w' hw, Result.andThen]
  have fix : ∀ (e : Sem Value) (ty : Ty), execOp a.eval o = (do pure (.value (← e))) → fixV P e ty w (fun v => K (a.put o.dst v)) →
      ∃ v, (∀ w', Ahead w w' → (execOp a.eval o).run P w' = .ok (.value v) w') ∧ K (a.put o.dst v) := by
    intro e ty he h
    obtain ⟨v, hr, hk⟩ := exV_out _ _ h
    exact val e v he hr hk
  have pur : (match pureRun P (execOp a.eval o) with
      | some (.value v) => K (a.put o.dst v)
      | _ => False) → ∃ v, (∀ w', Ahead w w' → (execOp a.eval o).run P w' = .ok (.value v) w') ∧ K (a.put o.dst v) := by
    intro h
    split at h
    · rename_i v hv
      exact ⟨v, fun w' _ => pureRun_run w' _ _ hv, h⟩
    · exact h.elim
  unfold vcQOp at h
  split at h
  · rename_i c x y ho
    split at h
    · rename_i b hb
      refine val (pure (if b = true then a.eval x else a.eval y)) _ (by simp [execOp, ho, hb, asBool]) (fun w' _ => rfl) ?_
      cases b <;> exact h
    · exact h.elim
  · rename_i t x ho
    split at h
    · rename_i p hp
      cases p with
      | none => exact h.elim
      | some ad =>
        obtain ⟨v, hk, hr⟩ := ldT_ahead (show ldT P t ad w (fun v => K (a.put o.dst v)) from h)
        exact val (loadVar t ad) v (by simp [execOp, ho, hp, Instr.loadAt, Instr.sureAddr]) hr hk
    · exact h.elim
  · rename_i x ho
    split at h
    · rename_i p hp
      cases p with
      | none => exact h.elim
      | some ad => exact val (pure (.pointer (some ad))) _ (by simp [execOp, ho, hp]) (fun w' _ => rfl) h
    · exact h.elim
  · rename_i t x ix ho; exact fix _ _ (by simp [execOp, ho]) h
  · rename_i t x ix ho; exact fix _ _ (by simp [execOp, ho]) h
  · rename_i t x lo hi mx ho; exact fix _ _ (by simp [execOp, ho]) h
  · rename_i t x y u ho
    split at h
    · exact pur h
    · exact fix _ _ (by simp [execOp, ho, eqGuard]) h
  · rename_i t x y u ho
    split at h
    · exact pur h
    · exact fix _ _ (by simp [execOp, ho, eqGuard]) h
  · rename_i t x y u ho
    split at h
    · exact pur h
    · exact fix _ _ (by simp [execOp, ho, eqGuard]) h
  · rename_i t x y u ho
    split at h
    · exact pur h
    · exact fix _ _ (by simp [execOp, ho, eqGuard]) h
  · rename_i f args ts ho
    rw [ho] at hn
    cases hn
  · exact pur h

theorem vcQ_still {P : Program} {ops : Array Oper} {w : World} {Q : Act → Prop} : ∀ (l : List Oper) (a : Act), l.all (fun o => !isCall o.op) = true → vcQ P ops w Q l a → wpStill P ops w.drew Q l a
  | [], _, _, h => h
  | o :: rest, a, hl, h => by
    simp only [List.all_cons, Bool.and_eq_true, Bool.not_eq_true'] at hl
    have ih := fun a => vcQ_still (P := P) (ops := ops) (w := w) (Q := Q) rest a hl.2
    have hK : ∀ a, vcQOp P o a w (vcQ P ops w Q rest) → o.still P a w.drew (wpStill P ops w.drew Q rest) := fun a h => by
      obtain ⟨v, hr, hk⟩ := vcQOp_val hl.1 h
      unfold Oper.still
      rw [hr w.drew (show Below _ _ _ from (Below.refl _ w).drew)]
      exact ⟨rfl, ih _ hk⟩
    unfold wpStill
    rw [vcQ] at h
    have hskip : ∀ a : Act, Region.wanted o (yielded ops a.tmps) = false → vcQ P ops w Q rest (a.put o.dst undef) → (if Region.wanted o (yielded ops a.tmps) then o.still P a w.drew (wpStill P ops w.drew Q rest) else wpStill P ops w.drew Q rest (a.put o.dst undef)) := by
      intro a hw h
      rw [if_neg (by simp [hw])]
      exact ih _ h
    split at h
    · rename_i hg
      rw [if_pos (by simp [Region.wanted, hg])]
      exact hK _ h
    · rename_i j want hg
      split at h
      · rename_i d hd
        split at h
        · rename_i b hb
          have hy : yielded ops a.tmps j = some b := by simp [yielded, hd, hb]
          have hwant : Region.wanted o (yielded ops a.tmps) = (b == want) := by simp [Region.wanted, hg, hy]
          cases b
          · rw [br, put_same hb] at h
            cases want
            · rw [if_pos (by simp [hwant])]
              exact hK _ h
            · exact hskip a (by simp [hwant]) h
          · rw [br, put_same hb] at h
            cases want
            · exact hskip a (by simp [hwant]) h
            · rw [if_pos (by simp [hwant])]
              exact hK _ h
        · rename_i hb
          refine hskip a ?_ h
          have hy : yielded ops a.tmps j = none := by
            simp only [yielded, hd, Option.bind_some]
            all_goals
              generalize a.tmps[d]? = v at hb
              cases v with
              | none => rfl
              | some v => cases v <;> first | rfl | exact absurd rfl (hb _)
          simp [Region.wanted, hg, hy]
      · rename_i hd
        refine hskip a ?_ h
        have hy : yielded ops a.tmps j = none := by simp [yielded, hd]
        simp [Region.wanted, hg, hy]

theorem region_quiet {P : Program} {id : Nat} {ops : Array Oper} {Q : Exit → Act → World → Prop} {a : Act} {w : World} (hm : P.follows .mixedOrders = true) (hB : Region.lexB .any ops = true)
    (h : vcQ P ops w (fun a' => ∀ w', Ahead w w' → Q .normal a' w') ops.toList a) : (Code.region id ops true).wp P Q a w :=
  wp_region_quiet (C := Ahead w) hm hB (show Below _ _ _ from (Below.refl _ w).drew) (vcQ_sound _ _ h)

theorem region_tail {P : Program} {id : Nat} {ops : Array Oper} {Q : Exit → Act → World → Prop} {a : Act} {w : World} (n : Nat) (hm : P.follows .mixedOrders = true) (hB : Region.lexTailB .any ops n = true)
    (hc : (ops.toList.take n).all (fun o => !isCall o.op) = true)
    (h : vcQ P ops w (fun a' => vcOps P ops Q (ops.toList.drop n) a' w.drew) (ops.toList.take n) a) : (Code.region id ops true).wp P Q a w := by
  have hl : ops = ops.toList.toArray := by simp
  have := vcQ_still _ _ hc h
  rw [hl]
  refine wp_region_still_tail (P := P) n hm (by simpa using hB) ?_
  have hmono : ∀ (l : List Oper) (a : Act) (Q Q' : Act → Prop), (∀ a, Q a → Q' a) → wpStill P ops w.drew Q l a → wpStill P ops w.drew Q' l a := by
    intro l
    induction l with
    | nil => intro a Q Q' hq h; exact hq _ h
    | cons o l ih =>
      intro a Q Q' hq h
      unfold wpStill at h ⊢
      split at h
      · rename_i hw; rw [if_pos hw]; exact Oper.still_mono (fun a h => ih a Q Q' hq h) h
      · rename_i hw; rw [if_neg hw]; exact ih _ Q Q' hq h
  exact hmono _ _ _ _ (fun a' h' => vcOps_sound _ _ _ h') (by simpa using this)

/-! ### A region that draws and holds calls or new cells: what only reads is taken first, the rest comes in one order -/
def isLoud : Op → Bool
  | .call { callee := .value _, .. } => true
  | .call { callee := .builtin .append, .. } => true
  | .call { callee := .builtin .copy, .. } => true
  | .alloc _ => true
  | .box .. => true
  | .buildSlice .. => true
  | .makeSlice .. => true
  | .store .. => true
  | _ => false

/-- Whatever order is picked from here on; C holds of the worlds before and behind each of the first n operations. -/
def wpAnyT (P : Program) (md : Region.Mode) (ops : Array Oper) (Q : Exit → Act → World → Prop) (n : Nat) (C : Nat → World → World → Prop) : Nat → Array Bool → Act → World → Prop
  | 0, listed, a, w => Region.ready md ops listed = [] ∧ Q .normal a w
  | f + 1, listed, a, w => (Region.ready md ops listed = [] → Q .normal a w) ∧
    ∀ i ∈ Region.ready md ops listed, wpOp P ops Q i (fun a' w' => (i < n → C i w w') ∧ wpAnyT P md ops Q n C f (listed.setIfInBounds i true) a' w') a w

theorem wpAny_of_T {P : Program} {md : Region.Mode} {ops : Array Oper} {Q : Exit → Act → World → Prop} {n : Nat} {C : Nat → World → World → Prop} : ∀ (f : Nat) (listed : Array Bool) (a : Act) (w : World),
    wpAnyT P md ops Q n C f listed a w → wpAny P md ops Q f listed a w
  | 0, _, _, _, h => h
  | f + 1, _, _, _, h => ⟨h.1, fun i hi => wpOp_mono (fun a' w' h' => wpAny_of_T f _ a' w' h'.2) (h.2 i hi)⟩

/-- No later operation may come while one of the first n has not. -/
def WaitsT (md : Region.Mode) (ops : Array Oper) (n : Nat) : Prop := ∀ listed : Array Bool, HeadInv md ops n listed → ∀ i, i < n → listed.getD i true = false → ∀ t, n ≤ t → t ∉ Region.ready md ops listed

theorem wpAnyT_first {P : Program} {md : Region.Mode} {ops : Array Oper} {Q : Exit → Act → World → Prop} {n : Nat} {C : Nat → World → World → Prop} {S : World → Prop} {i : Nat} {oi : Oper} {v : Value}
    (hi : ops[i]? = some oi) (hin : i < n) (hsel : ∀ (j : Nat) (o : Oper) cs b, ops[j]? = some o → o.op ≠ .select cs b) (hQ : ∀ c a w, ¬ Q (.panic c) a w) (hT : WaitsT md ops n)
    (hC : ∀ w, C i w w) (hkeep : ∀ listed, HeadInv md ops n listed → listed.getD i true = false → ∀ j ∈ Region.ready md ops listed, ∀ w w', C j w w' → S w → S w') :
    ∀ (f : Nat) (listed : Array Bool) (a : Act) (w : World), HeadInv md ops n listed →
      (∀ j oj, ops[j]? = some oj → j ≠ i → listed.getD j true = false → (∀ e ∈ oj.after, Region.binds md e = true → e.on ≠ i) → oi.apart ops oj = true) →
      i ∈ Region.ready md ops listed → YieldsIf P ops S oi v a → S w →
      wpAnyT P md ops Q n C f (listed.setIfInBounds i true) (a.put oi.dst v) w → wpAnyT P md ops Q n C (f + 1) listed a w := by
  intro f
  induction f with
  | zero =>
    intro listed a w inv _ hr hy hS H
    refine ⟨fun h => absurd (h ▸ hr) (by simp), fun j hj => ?_⟩
    by_cases hji : j = i
    · subst hji; exact hy.wpOp hi hS ⟨fun _ => hC w, H⟩
    · exact absurd (H.1 ▸ ready_mono hj hji) (by simp)
  | succ f ih =>
    intro listed a w inv hfree hr hy hS H
    refine ⟨fun h => absurd (h ▸ hr) (by simp), fun j hj => ?_⟩
    by_cases hji : j = i
    · subst hji; exact hy.wpOp hi hS ⟨fun _ => hC w, H⟩
    have hun := (mem_ready.1 hr).1
    have hjn : j < n := by
      rcases Nat.lt_or_ge j n with h | h
      · exact h
      · exact absurd hj (hT listed inv i hin hun j h)
    obtain ⟨hjun, oj, hoj, hall⟩ := mem_ready.1 hj
    have hnot : ∀ e ∈ oj.after, Region.binds md e = true → e.on ≠ i := fun e he hb heq => by
      have h1 := hall e he hb
      rw [heq, getD_both hun] at h1
      cases h1
    have hfree' : ∀ k ok, ops[k]? = some ok → k ≠ i → (listed.setIfInBounds j true).getD k true = false →
        (∀ e ∈ ok.after, Region.binds md e = true → e.on ≠ i) → oi.apart ops ok = true := fun k ok hk hki hu hno => by
      refine hfree k ok hk hki ?_ hno
      by_cases hjk : j = k
      · subst hjk; exact hjun
      · rwa [getD_set_ne true hjk] at hu
    have h2 := wpOp_putIf hoj (hfree j oj hoj hji hjun hnot) (fun cs b => hsel i oi cs b hi) (fun cs b => hsel j oj cs b hoj) (fun c a w h => absurd h (hQ c _ w)) hy (H.2 j (ready_mono hj hji))
    refine wpOp_mono (fun a' w' h3 => ⟨h3.2.1, ih _ a' w' (inv.set hj hjn) hfree' (ready_mono hr (Ne.symm hji)) h3.1 (hkeep listed inv hun j hj w w' (h3.2.1 hjn) hS) ?_⟩) h2
    rw [Array.setIfInBounds_comm _ _ hji]
    exact h3.2.2

theorem wpAnyT_of_seq {P : Program} {md : Region.Mode} {ops : Array Oper} {Q : Exit → Act → World → Prop} {n : Nat} {S : Nat → World → World → Prop} : ∀ (l : List Oper) (k : Nat) (listed : Array Bool) (a : Act) (w : World), n ≤ k → (∀ j, l[j]? = ops[k + j]?) →
    Region.seqB md ops l.length k listed = true → wpList P ops Q l a w → wpAnyT P md ops Q n S l.length listed a w
  | [], _, _, _, _, _, _, hB, h => ⟨by simpa [Region.seqB] using hB, h⟩
  | o :: l, k, listed, a, w, hk, hl, hB, h => by
    have h0 : ops[k]? = some o := by simpa using (hl 0).symm
    simp only [List.length_cons, Region.seqB, Bool.and_eq_true, decide_eq_true_eq] at hB
    refine ⟨fun h1 => absurd (h1 ▸ hB.1) (by simp), fun i hi => ?_⟩
    obtain rfl : i = k := by rw [hB.1] at hi; simpa using hi
    have hw : wpOp P ops Q i (wpList P ops Q l) a w := by unfold wpOp; simp only [h0]; exact h
    exact wpOp_mono (fun a' w' h' => ⟨fun hn => absurd hn (by omega), wpAnyT_of_seq l (i + 1) _ a' w' (by omega) (fun j => by have := hl (j + 1); simpa [Nat.add_assoc, Nat.add_comm 1 j] using this) hB.2 h'⟩) hw

/-- A guard: run, or skip. -/
def vcG (ops : Array Oper) (o : Oper) (run skip : Act → Prop) (a : Act) : Prop := match o.guard with
  | none => run a
  | some (j, want) => match (ops[j]?).bind (·.dst) with
    | some d => match a.tmps[d]? with
      | some (.bool b) => br b
          (isWant want true (run (a.put (some d) (.bool true))) (skip ((a.put (some d) (.bool true)).put o.dst undef)))
          (isWant want false (run (a.put (some d) (.bool false))) (skip ((a.put (some d) (.bool false)).put o.dst undef)))
      | _ => skip (a.put o.dst undef)
    | none => skip (a.put o.dst undef)
theorem vcG_out {ops : Array Oper} {o : Oper} {run skip : Act → Prop} {a : Act} (h : vcG ops o run skip a) :
    (Region.wanted o (yielded ops a.tmps) = true ∧ run a) ∨ (Region.wanted o (yielded ops a.tmps) = false ∧ skip (a.put o.dst undef)) := by
  unfold vcG at h
  split at h
  · rename_i hg
    exact .inl ⟨by simp [Region.wanted, hg], h⟩
  · rename_i j want hg
    split at h
    · rename_i d hd
      split at h
      · rename_i b hb
        have hy : yielded ops a.tmps j = some b := by simp [yielded, hd, hb]
        have hwant : Region.wanted o (yielded ops a.tmps) = (b == want) := by simp [Region.wanted, hg, hy]
        cases b
        · rw [br, put_same hb] at h
          cases want
          · exact .inl ⟨by simp [hwant], h⟩
          · exact .inr ⟨by simp [hwant], h⟩
        · rw [br, put_same hb] at h
          cases want
          · exact .inr ⟨by simp [hwant], h⟩
          · exact .inl ⟨by simp [hwant], h⟩
      · rename_i hb
        refine .inr ⟨?_, h⟩
        have hy : yielded ops a.tmps j = none := by
          simp only [yielded, hd, Option.bind_some]
          all_goals
            generalize a.tmps[d]? = v at hb
            cases v with
            | none => rfl
            | some v => cases v <;> first | rfl | exact absurd rfl (hb _)
        simp [Region.wanted, hg, hy]
    · rename_i hd
      refine .inr ⟨?_, h⟩
      have hy : yielded ops a.tmps j = none := by simp [yielded, hd]
      simp [Region.wanted, hg, hy]

/-- The blocks of V may change, and what is new. -/
structure Bar (V : Nat → Prop) (w w' : World) : Prop where
  os : w'.os = w.os
  tape : w'.tape = w.tape
  output : w'.output = w.output
  size : w.heap.size ≤ w'.heap.size
  block : ∀ k, k < w.heap.size → ¬ V k → w'.heap[k]? = w.heap[k]?
theorem Bar.refl (V : Nat → Prop) (w : World) : Bar V w w := ⟨rfl, rfl, rfl, Nat.le_refl _, fun _ _ _ => rfl⟩
theorem Bar.trans {V : Nat → Prop} {a b c : World} (h : Bar V a b) (k : Bar V b c) : Bar V a c :=
  ⟨k.os.trans h.os, k.tape.trans h.tape, k.output.trans h.output, Nat.le_trans h.size k.size, fun i hi hv => (k.block i (Nat.lt_of_lt_of_le hi h.size) hv).trans (h.block i hi hv)⟩
theorem Bar.of_ahead {V : Nat → Prop} {a b : World} (h : Ahead a b) : Bar V a b := ⟨h.os, h.tape, h.output, h.size, fun k hk _ => Below.block h k hk⟩
theorem Bar.cell {V : Nat → Prop} {w w' : World} (h : Bar V w w') {ad : Addr} {v : Value} (hv : ¬ V ad.block) (hc : w.cell? ad = some v) : w'.cell? ad = some v := by
  have hb : ad.block < w.heap.size := by
    unfold World.cell? at hc
    split at hc
    · rename_i hh; exact (Array.getElem?_eq_some_iff.1 hh).1
    · cases hc
  rw [World.cell?_of_block (h.block _ hb hv)]; exact hc
/-- The address lies in no block that may change. -/
def Out (V : Nat → Prop) (ad : Addr) (p : Prop) : Prop := ¬ V ad.block ∧ p

theorem add_block (ad : Addr) (i : Nat) : (ad.add i).block = ad.block := by
  unfold Addr.add; split <;> rfl
theorem ldL_keep {P : Program} {ad : Addr} {w : World} {G : World → Prop} (hG : ∀ w', G w' → ∀ (ad' : Addr) v, ad'.block = ad.block → w.cell? ad' = some v → w'.cell? ad' = some v) : ∀ (ts : List Ty) (i : Nat) (k : List Value → Prop), ldL ad w i ts k →
    ∃ vs, k vs ∧ ∀ (acc : Array Value) (w' : World), G w' → (loadCellsFrom ad i ts.length acc).run P w' = .ok (acc ++ vs.toArray) w'
  | [], i, k, h => ⟨[], h, by simp [loadCellsFrom]⟩
  | t :: ts, i, k, h => by
    rw [ldL] at h
    obtain ⟨v, hc, h⟩ := exV_out _ _ h
    obtain ⟨vs, hk, hr⟩ := ldL_keep (P := P) hG ts (i + 1) _ h
    refine ⟨v :: vs, hk, fun acc w' hw => ?_⟩
    simp only [List.length_cons, loadCellsFrom, Sem.run_bind, load, Sem.run, hG w' hw _ _ (add_block _ _) hc, Result.andThen, hr _ w' hw]
    simp
theorem ldT_keep {P : Program} {t : TypeId} {ad : Addr} {w : World} {k : Value → Prop} {G : World → Prop} (hG : ∀ w', G w' → ∀ (ad' : Addr) v, ad'.block = ad.block → w.cell? ad' = some v → w'.cell? ad' = some v) (h : ldT P t ad w k) :
    ∃ v, k v ∧ ∀ w', G w' → (loadVar t ad).run P w' = .ok v w' := by
  unfold ldT at h
  have agg : ∀ ts : List Ty, (P.info? t).map (·.size) = some ts.length → ldL ad w 0 ts (fun vs => k (.agg vs.toArray)) → (∀ w', (isAgg t).run P w' = .ok true w') →
      ∃ v, k v ∧ ∀ w', G w' → (loadVar t ad).run P w' = .ok v w' := by
    intro ts hs hl ha
    obtain ⟨vs, hk, hr⟩ := ldL_keep (P := P) hG ts 0 _ hl
    refine ⟨_, hk, fun w' hw => ?_⟩
    obtain ⟨inf, hi, hsz⟩ := Option.map_eq_some_iff.1 hs
    have hsize : (sizeOf t).run P w' = .ok ts.length w' := by
      simp [sizeOf, typeInfo, program, Sem.run, hi, hsz]
    simp only [loadVar, Sem.run_bind, ha, Result.andThen, if_true, hsize, loadCells, hr _ w' hw, Sem.run_pure]
    simp
  split at h
  · rename_i fs hu
    split at h
    · split at h
      · rename_i hb; exact agg _ (by simpa using hb) h (fun w' => by simp [isAgg, underlying, program, Sem.run, hu])
      · exact h.elim
    · exact h.elim
  · rename_i n e hu
    split at h
    · split at h
      · rename_i hb; exact agg _ (by simpa using hb) h (fun w' => by simp [isAgg, underlying, program, Sem.run, hu])
      · exact h.elim
    · exact h.elim
  · rename_i d hns hna hu
    obtain ⟨v, hc, hk⟩ := exV_out _ _ h
    refine ⟨v, hk, fun w' hw => ?_⟩
    have ha : (isAgg t).run P w' = .ok false w' := by
      simp only [isAgg, underlying, program, Sem.run_bind, Sem.run, Result.andThen, hu]
      cases d <;> simp_all
    have hc' := hG w' hw ad v rfl hc
    simp only [loadVar, Sem.run_bind, ha, Result.andThen, load, Sem.run]
    simp [Sem.run, hc']
  · exact h.elim

/-- What only reads, where the blocks of V may change. -/
def vcVOp (P : Program) (V : Nat → Prop) (o : Oper) (a : Act) (w : World) (K : Act → Prop) : Prop :=
  match o.op with
  | .pick c x y => match a.eval c with
    | .bool b => br b (K (a.put o.dst (a.eval x))) (K (a.put o.dst (a.eval y)))
    | _ => False
  | .load t x => match a.eval x with
    | .pointer p => onSome p fun ad => Out V ad (ldT P t ad w fun v => K (a.put o.dst v))
    | _ => False
  | .nilCheck x => match a.eval x with
    | .pointer p => onSome p fun ad => K (a.put o.dst (.pointer (some ad)))
    | _ => False
  | .indexAddr .. => False
  | .index .. => False
  | .slice .. => False
  | .call .. => False
  | _ => match pureRun P (execOp a.eval o) with
    | some (.value v) => K (a.put o.dst v)
    | _ => False
theorem vcVOp_val {P : Program} {V : Nat → Prop} {o : Oper} {a : Act} {w : World} {K : Act → Prop} (h : vcVOp P V o a w K) :
    ∃ v, (∀ w', Bar V w w' → (execOp a.eval o).run P w' = .ok (.value v) w') ∧ K (a.put o.dst v) := by
  have val : ∀ (e : Sem Value) (v : Value), execOp a.eval o = (do pure (.value (← e))) → (∀ w', Bar V w w' → e.run P w' = .ok v w') → K (a.put o.dst v) →
      ∃ v, (∀ w', Bar V w w' → (execOp a.eval o).run P w' = .ok (.value v) w') ∧ K (a.put o.dst v) := by
    intro e v he hr hk
    refine ⟨v, fun w' hw => ?_, hk⟩
    rw [he]
    simp [Sem.run_bind, hr w' hw, Result.andThen]
  unfold vcVOp at h
  split at h
  · rename_i c x y ho
    split at h
    · rename_i b hb
      refine val (pure (if b = true then a.eval x else a.eval y)) _ (by simp [execOp, ho, hb, asBool]) (fun w' _ => rfl) ?_
      cases b <;> exact h
    · exact h.elim
  · rename_i t x ho
    split at h
    · rename_i p hp
      cases p with
      | none => exact h.elim
      | some ad =>
        obtain ⟨hv, hl⟩ := (show Out V ad (ldT P t ad w (fun v => K (a.put o.dst v))) from h)
        obtain ⟨v, hk, hr⟩ := ldT_keep (G := Bar V w) (fun w' hw ad' v hb hc => hw.cell (by rw [hb]; exact hv) hc) hl
        exact val (loadVar t ad) v (by simp [execOp, ho, hp, Instr.loadAt, Instr.sureAddr]) hr hk
    · exact h.elim
  · rename_i x ho
    split at h
    · rename_i p hp
      cases p with
      | none => exact h.elim
      | some ad => exact val (pure (.pointer (some ad))) _ (by simp [execOp, ho, hp]) (fun w' _ => rfl) h
    · exact h.elim
  · exact h.elim
  · exact h.elim
  · exact h.elim
  · exact h.elim
  · split at h
    · rename_i v hv
      exact ⟨v, fun w' _ => pureRun_run w' _ _ hv, h⟩
    · exact h.elim

/-! The order: what only reads as soon as it may come, else all that may come, one after the other. -/
def waitsOf (o : Oper) : List Nat := o.after.toList.filterMap fun e => match Region.binds .any e with
  | true => some e.on
  | false => none
def hasN (l : List Nat) (i : Nat) : Bool := match l with
  | [] => false
  | j :: l => match Nat.beq j i with
    | true => true
    | false => hasN l i
def readyN (rem : List Nat) (ws : List Nat) : Bool := match ws with
  | [] => true
  | j :: ws => match hasN rem j with
    | true => false
    | false => readyN rem ws
def pickN (its : List (Nat × Bool × List Nat)) (rem : List Nat) : Option Nat := match its with
  | [] => none
  | (i, l, ws) :: its => match !l && hasN rem i && readyN rem ws with
    | true => some i
    | false => pickN its rem
def loudN (its : List (Nat × Bool × List Nat)) (rem : List Nat) : List Nat := match its with
  | [] => []
  | (i, l, ws) :: its => match l && hasN rem i && readyN rem ws with
    | true => i :: loudN its rem
    | false => loudN its rem
def dropN (l : List Nat) (i : Nat) : List Nat := match l with
  | [] => []
  | j :: l => match Nat.beq j i with
    | true => l
    | false => j :: dropN l i
def itemsOf : Nat → List Oper → List (Nat × Bool × List Nat)
  | _, [] => []
  | k, o :: l => (k, isLoud o.op, waitsOf o) :: itemsOf (k + 1) l
def forkN (l : List Nat) (K : Nat → Prop) : Prop := match l with
  | [] => False
  | i :: l => match l with
    | [] => K i
    | _ :: _ => K i ∧ forkN l K
theorem forkN_mem {K : Nat → Prop} : ∀ {l : List Nat}, forkN l K → ∀ i ∈ l, K i
  | [], h, _, _ => h.elim
  | [i], h, j, hj => by
    have : j = i := by simpa using hj
    subst this; exact h
  | i :: k :: l, h, j, hj => by
    obtain ⟨h1, h2⟩ := h
    rcases List.mem_cons.1 hj with rfl | hj
    · exact h1
    · exact forkN_mem h2 j hj

/-- What is asked behind a loud operation. -/
def needK (G : Nat → World → World → Prop) (w w' : World) (p : Prop) : List Nat → Prop
  | [] => p
  | q :: l => G q w w' ∧ needK G w w' p l
theorem needK_out {G : Nat → World → World → Prop} {w w' : World} {p : Prop} : ∀ {l : List Nat}, needK G w w' p l → (∀ q ∈ l, G q w w') ∧ p
  | [], h => ⟨fun q hq => (by cases hq), h⟩
  | q :: l, h => by
    refine ⟨fun q' hq => ?_, (needK_out h.2).2⟩
    rcases List.mem_cons.1 hq with rfl | hq
    · exact h.1
    · exact (needK_out h.2).1 q' hq

def vcT (P : Program) (G : Nat → World → World → Prop) (need : Nat → List Nat) (Lq : Nat → Oper → Act → World → (Act → Prop) → Prop) (ops : Array Oper) (its : List (Nat × Bool × List Nat)) (Q : Act → World → Prop) : Nat → List Nat → Act → World → Prop
  | 0, _, a, w => Q a w
  | f + 1, rem, a, w => match pickN its rem with
    | some i => match ops[i]? with
      | none => False
      | some o => vcG ops o (fun a => Lq i o a w (fun a' => vcT P G need Lq ops its Q f (dropN rem i) a' w)) (fun a => vcT P G need Lq ops its Q f (dropN rem i) a w) a
    | none => forkN (loudN its rem) fun i => match ops[i]? with
      | none => False
      | some o => vcG ops o (fun a => vcOp P o a (fun a' w' => needK G w w' (vcT P G need Lq ops its Q f (dropN rem i) a' w') (need i)) w) (fun a => vcT P G need Lq ops its Q f (dropN rem i) a w) a

/-! Which operations always come before which. -/
def addN (l : List Nat) (i : Nat) : List Nat := match hasN l i with
  | true => l
  | false => i :: l
def unionN (l : List Nat) : List Nat → List Nat
  | [] => l
  | i :: m => unionN (addN l i) m
def nthN : List (List Nat) → Nat → List Nat
  | [], _ => []
  | x :: _, 0 => x
  | _ :: l, i + 1 => nthN l i
def closE (acc : List (List Nat)) : List Nat → List Nat
  | [] => []
  | i :: ws => unionN (addN (closE acc ws) i) (nthN acc i)
def closN : List Oper → List (List Nat) → List (List Nat)
  | [], acc => acc
  | o :: l, acc => closN l (acc ++ [closE acc (waitsOf o)])
def preOf (ops : Array Oper) (j q : Nat) : Bool := hasN (nthN (closN ops.toList []) j) q
def isLd : Op → Bool
  | .load .. => true
  | _ => false
def memAt (ops : Array Oper) (q : Nat) : Bool := match ops[q]? with
  | some o => isLd o.op
  | none => false
def keepN (ops : Array Oper) (pre : List Nat) : List Nat → List Nat
  | [] => []
  | q :: l => match memAt ops q && !hasN pre q with
    | true => q :: keepN ops pre l
    | false => keepN ops pre l
/-- The loads that may come behind the operation. -/
def needOf (ops : Array Oper) (j : Nat) : List Nat := keepN ops (nthN (closN ops.toList []) j) (List.range ops.size)
theorem hasN_mem {l : List Nat} {i : Nat} : hasN l i = true ↔ i ∈ l := by
  induction l with
  | nil => simp [hasN]
  | cons j l ih =>
    unfold hasN
    cases hb : Nat.beq j i with
    | true => have := Nat.eq_of_beq_eq_true hb; subst this; simp
    | false =>
      have hne : ¬ i = j := fun e => by subst e; rw [Nat.beq_refl] at hb; cases hb
      simp [ih, hne]
theorem addN_mem {l : List Nat} {i q : Nat} (h : q ∈ addN l i) : q = i ∨ q ∈ l := by
  unfold addN at h
  split at h
  · exact .inr h
  · exact List.mem_cons.1 h
theorem unionN_mem : ∀ {m l : List Nat} {q : Nat}, q ∈ unionN l m → q ∈ l ∨ q ∈ m
  | [], _, _, h => .inl h
  | i :: m, l, q, h => by
    rcases unionN_mem (m := m) h with h | h
    · rcases addN_mem h with rfl | h
      · exact .inr (by simp)
      · exact .inl h
    · exact .inr (by simp [h])
theorem closE_mem {acc : List (List Nat)} : ∀ {ws : List Nat} {q : Nat}, q ∈ closE acc ws → ∃ i ∈ ws, q = i ∨ q ∈ nthN acc i
  | [], _, h => by cases h
  | i :: ws, q, h => by
    rcases unionN_mem h with h | h
    · rcases addN_mem h with rfl | h
      · exact ⟨q, by simp, .inl rfl⟩
      · obtain ⟨k, hk, hq⟩ := closE_mem h
        exact ⟨k, by simp [hk], hq⟩
    · exact ⟨i, by simp, .inr h⟩
theorem nthN_append {l : List (List Nat)} {x : List Nat} {j : Nat} : nthN (l ++ [x]) j = if j < l.length then nthN l j else if j = l.length then x else [] := by
  induction l generalizing j with
  | nil => cases j <;> simp [nthN]
  | cons y l ih =>
    cases j with
    | zero => simp [nthN]
    | succ j => simp [nthN, ih]
theorem nthN_ge {l : List (List Nat)} {j : Nat} (h : l.length ≤ j) : nthN l j = [] := by
  induction l generalizing j with
  | nil => rfl
  | cons y l ih =>
    cases j with
    | zero => simp at h
    | succ j => exact ih (by simpa using h)
theorem waitsOf_mem {o : Oper} {i : Nat} (h : i ∈ waitsOf o) : ∃ e ∈ o.after, Region.binds .any e = true ∧ e.on = i := by
  unfold waitsOf at h
  rw [List.mem_filterMap] at h
  obtain ⟨e, he, hb⟩ := h
  split at hb
  · rename_i h1
    exact ⟨e, by simpa using he, h1, Option.some.inj hb⟩
  · cases hb
/-- All that these operations wait for has come. -/
def Met (ops : Array Oper) (listed : Array Bool) (j : Nat) : Prop := ∀ o, ops[j]? = some o → ∀ e ∈ o.after, Region.binds .any e = true → listed.getD e.on false = true
theorem closN_spec {ops : Array Oper} {n : Nat} {listed : Array Bool} (inv : HeadInv .any ops n listed) : ∀ (l : List Oper) (acc : List (List Nat)), (∀ k, l[k]? = ops[acc.length + k]?) →
    (∀ j q, q ∈ nthN acc j → Met ops listed j → listed.getD q false = true) → ∀ j q, q ∈ nthN (closN l acc) j → Met ops listed j → listed.getD q false = true
  | [], acc, _, h => h
  | o :: l, acc, hl, h => by
    refine closN_spec inv l _ (fun k => ?_) (fun j q hq hm => ?_)
    · have := hl (k + 1)
      simp only [List.getElem?_cons_succ] at this
      rw [this, List.length_append, List.length_singleton]
      congr 1; omega
    · rw [nthN_append] at hq
      split at hq
      · exact h j q hq hm
      · split at hq
        · rename_i h1 h2
          subst h2
          have ho : ops[acc.length]? = some o := by simpa using (hl 0).symm
          obtain ⟨i, hi, hqi⟩ := closE_mem hq
          obtain ⟨e, he, hb, rfl⟩ := waitsOf_mem hi
          have hle := hm o ho e he hb
          rcases hqi with rfl | hqi
          · exact hle
          · refine h _ q hqi fun o' ho' e' he' hb' => ?_
            exact inv.closed _ o' ho' hle e' he' hb'
        · cases hq
theorem preOf_listed {ops : Array Oper} {n : Nat} {listed : Array Bool} (inv : HeadInv .any ops n listed) {j q : Nat} (hj : j ∈ Region.ready .any ops listed) (hq : listed.getD q true = false) : preOf ops j q = false := by
  cases hp : preOf ops j q with
  | false => rfl
  | true =>
    obtain ⟨_, o, ho, hall⟩ := mem_ready.1 hj
    have := closN_spec inv ops.toList [] (fun k => by simp) (fun j q hq => by cases hq) j q (hasN_mem.1 hp) (fun o' ho' e he hb => by
      rw [ho] at ho'; obtain rfl := Option.some.inj ho'
      exact hall e he hb)
    rw [getD_both hq] at this
    cases this
theorem needOf_mem {ops : Array Oper} {j q : Nat} (hm : memAt ops q = true) (hp : preOf ops j q = false) : q ∈ needOf ops j := by
  have hlt : q < ops.size := by
    unfold memAt at hm
    split at hm
    · rename_i o ho; exact (Array.getElem?_eq_some_iff.1 ho).1
    · cases hm
  have key : ∀ l : List Nat, q ∈ l → q ∈ keepN ops (nthN (closN ops.toList []) j) l := by
    intro l
    induction l with
    | nil => intro h; cases h
    | cons k l ih =>
      intro h
      unfold keepN
      rcases List.mem_cons.1 h with rfl | h
      · have hp' : hasN (nthN (closN ops.toList []) j) q = false := hp
        rw [hm, hp']
        simp
      · split
        · exact List.mem_cons_of_mem _ (ih h)
        · exact ih h
  exact key _ (by simpa using hlt)

/-- May the operations come so? -/
def heldT (md : Region.Mode) (ops : Array Oper) (n : Nat) (its : List (Nat × Bool × List Nat)) : Nat → List Nat → Array Bool → Bool
  | 0, _, listed => Region.seqB md ops (ops.size - n) n listed
  | f + 1, rem, listed => match pickN its rem with
    | some i => Nat.blt i n && (match ops[i]? with
      | none => false
      | some o => !isLoud o.op && ((Region.ready md ops listed).contains i && Region.free md ops listed i)) && heldT md ops n its f (dropN rem i) (listed.setIfInBounds i true)
    | none => !(loudN its rem).isEmpty && decide (Region.ready md ops listed = loudN its rem) && (loudN its rem).all fun i => Nat.blt i n && (match ops[i]? with
      | none => false
      | some o => isLoud o.op) && heldT md ops n its f (dropN rem i) (listed.setIfInBounds i true)

theorem isCall_of_quiet {o : Op} (h : isLoud o = false) : isCall o = false := by
  cases hc : isCall o with
  | false => rfl
  | true =>
    unfold isCall at hc
    split at hc
    · simp [isLoud] at h
    · cases hc

def loudAt (ops : Array Oper) (j : Nat) : Bool := match ops[j]? with
  | some o => isLoud o.op
  | none => false
/-- What a step tells of the worlds before and behind it. -/
def StepT (ops : Array Oper) (G : Nat → World → World → Prop) (j : Nat) (w w' : World) : Prop :=
  (loudAt ops j = true → ∀ q, preOf ops j q = false → G q w w') ∧ (loudAt ops j = false → w' = w)

theorem vcT_sound {P : Program} {ops : Array Oper} {Q : Exit → Act → World → Prop} {n : Nat} {its : List (Nat × Bool × List Nat)} {G GV : Nat → World → World → Prop} {need : Nat → List Nat} {Lq : Nat → Oper → Act → World → (Act → Prop) → Prop}
    (gr : ∀ q w, G q w w) (gt : ∀ {q a b c}, G q a b → G q b c → G q a c)
    (hL : ∀ {i o a w K}, ops[i]? = some o → isLoud o.op = false → Lq i o a w K → ∃ v, (∀ w', G i w w' → (execOp a.eval o).run P w' = .ok (.value v) w') ∧ K (a.put o.dst v))
    (hneed : ∀ j w w', (∀ q ∈ need j, GV q w w') → ∀ q, preOf ops j q = false → G q w w')
    (hn : n ≤ ops.size) (hsel : Region.noSelect ops = true) (hQ : ∀ c a w, ¬ Q (.panic c) a w) (hT : WaitsT .any ops n) :
    ∀ (f : Nat) (rem : List Nat) (listed : Array Bool) (a : Act) (w : World), HeadInv .any ops n listed → heldT .any ops n its f rem listed = true →
      vcT P GV need Lq ops its (fun a' w' => vcOps P ops Q (ops.toList.drop n) a' w') f rem a w → wpAnyT P .any ops Q n (StepT ops G) (f + (ops.size - n)) listed a w
  | 0, rem, listed, a, w, inv, hB, h => by
    have hlen : (ops.toList.drop n).length = ops.size - n := by simp
    have := wpAnyT_of_seq (md := .any) (n := n) (S := StepT ops G) (ops.toList.drop n) n listed a w (Nat.le_refl _) (fun j => by simp [List.getElem?_drop]) (by rw [hlen]; exact hB) (vcOps_sound _ _ _ h)
    rw [hlen] at this
    simpa using this
  | f + 1, rem, listed, a, w, inv, hB, h => by
    rw [show f + 1 + (ops.size - n) = (f + (ops.size - n)) + 1 by omega]
    rw [vcT] at h
    rw [heldT] at hB
    cases hp : pickN its rem with
    | some i =>
      rw [hp] at h hB
      simp only [Bool.and_eq_true] at h hB
      obtain ⟨⟨hin, hkind⟩, hB'⟩ := hB
      have hin' : i < n := by simpa [Nat.blt_eq] using hin
      cases ho : ops[i]? with
      | none => rw [ho] at h; exact h.elim
      | some o =>
        rw [ho] at h hkind
        simp only [Bool.and_eq_true, Bool.not_eq_true'] at h hkind
        obtain ⟨hl, hmem, hfree⟩ := hkind
        have hmem : i ∈ Region.ready .any ops listed := by simpa using hmem
        have hli : loudAt ops i = false := by unfold loudAt; rw [ho]; exact hl
        have ih := fun a w h => vcT_sound (P := P) gr gt hL hneed hn hsel hQ hT f (dropN rem i) (listed.setIfInBounds i true) a w (inv.set hmem hin') hB' h
        have fin : ∀ v, YieldsIf P ops (G i w) o v a → vcT P GV need Lq ops its (fun a' w' => vcOps P ops Q (ops.toList.drop n) a' w') f (dropN rem i) (a.put o.dst v) w → _ := fun v hy h =>
          wpAnyT_first (C := StepT ops G) ho hin' (Region.noSelect_spec hsel) hQ hT (fun w => ⟨fun h => (by rw [hli] at h; cases h), fun _ => rfl⟩)
            (fun listed' inv' hun j hj w1 w2 hc hs => by
              cases hlj : loudAt ops j with
              | true => exact gt hs (hc.1 hlj i (preOf_listed inv' hj hun))
              | false => rw [hc.2 hlj]; exact hs) _ listed a w inv (Region.free_spec ho hfree) hmem hy (gr _ _) (ih _ _ h)
        rcases vcG_out h with ⟨hw, h⟩ | ⟨hw, h⟩
        · obtain ⟨v, hv, hk⟩ := hL ho hl h
          exact fin v (.inl ⟨hw, hv⟩) hk
        · exact fin undef (.inr ⟨hw, rfl⟩) h
    | none =>
      rw [hp] at h hB
      simp only [Bool.and_eq_true, decide_eq_true_eq] at h hB
      obtain ⟨⟨hne, hready⟩, hall⟩ := hB
      refine ⟨fun h0 => ?_, fun i hi => ?_⟩
      · rw [hready] at h0; rw [h0] at hne; simp at hne
      · have hi' : i ∈ loudN its rem := by rw [← hready]; exact hi
        have h1 := forkN_mem h i hi'
        have h2 := List.all_eq_true.1 hall i hi'
        simp only [Bool.and_eq_true] at h1 h2
        obtain ⟨⟨hin, hkind⟩, hB'⟩ := h2
        have hin' : i < n := by simpa [Nat.blt_eq] using hin
        cases ho : ops[i]? with
        | none => rw [ho] at h1; exact h1.elim
        | some o =>
          rw [ho] at h1 hkind
          simp only at h1 hkind
          have hli : loudAt ops i = true := by unfold loudAt; rw [ho]; exact hkind
          have ih := fun a w h => vcT_sound (P := P) gr gt hL hneed hn hsel hQ hT f (dropN rem i) (listed.setIfInBounds i true) a w (inv.set hi hin') hB' h
          unfold wpOp
          simp only [ho]
          rcases vcG_out h1 with ⟨hw, h⟩ | ⟨hw, h⟩
          · rw [if_pos hw]
            exact .inl (Oper.wp_mono (fun a' w' hh => ⟨fun _ => ⟨fun _ => hneed i w w' (needK_out hh).1, fun h => (by rw [hli] at h; cases h)⟩, ih a' w' (needK_out hh).2⟩) (vcOp_sound h))
          · rw [if_neg (by simp [hw])]
            exact ⟨fun _ => ⟨fun _ q _ => gr q w, fun _ => rfl⟩, ih _ _ h⟩

def headN (ops : Array Oper) : Nat := match ops.toList.findIdx? fun o => match o.op with
    | .store .. => true
    | _ => false with
  | some n => n
  | none => ops.size
def planOf (ops : Array Oper) : List (Nat × Bool × List Nat) := itemsOf 0 (ops.toList.take (headN ops))
def heldAllB (ops : Array Oper) (n : Nat) (its : List (Nat × Bool × List Nat)) : Bool :=
  Region.noSelect ops && (Nat.beq n ops.size || (Nat.blt n ops.size && Region.sinkB .any ops n && Region.chainB .any ops n)) && heldT .any ops n its n (List.range n) (Array.replicate ops.size false)

theorem region_held {P : Program} {id : Nat} {ops : Array Oper} {Q : Exit → Act → World → Prop} {a : Act} {w : World} (n : Nat) (its : List (Nat × Bool × List Nat)) {G GV : Nat → World → World → Prop} {need : Nat → List Nat} {Lq : Nat → Oper → Act → World → (Act → Prop) → Prop}
    (gr : ∀ q w, G q w w) (gt : ∀ {q a b c}, G q a b → G q b c → G q a c) (hL : ∀ {i o a w K}, ops[i]? = some o → isLoud o.op = false → Lq i o a w K → ∃ v, (∀ w', G i w w' → (execOp a.eval o).run P w' = .ok (.value v) w') ∧ K (a.put o.dst v))
    (hneed : ∀ j w w', (∀ q ∈ need j, GV q w w') → ∀ q, preOf ops j q = false → G q w w')
    (hm : P.follows .mixedOrders = true) (hB : heldAllB ops n its = true)
    (h : vcT P GV need Lq ops its (fun a' w' => vcOps P ops Q (ops.toList.drop n) a' w') n (List.range n) a w.drew) : (Code.region id ops true).wp P Q a w := by
  simp only [heldAllB, Bool.and_eq_true, Bool.or_eq_true, Nat.beq_eq, Nat.blt_eq] at hB
  obtain ⟨⟨hsel, hn⟩, hB⟩ := hB
  have hn' : n ≤ ops.size := by omega
  have hT : WaitsT .any ops n := fun listed inv i hi hu t ht => by
    rcases hn with hn | ⟨⟨h1, h2⟩, h3⟩
    · intro hr
      obtain ⟨_, o, ho, _⟩ := mem_ready.1 hr
      have := (Array.getElem?_eq_some_iff.1 ho).1
      omega
    · exact tail_waits h2 h3 h1 inv _ i rfl hi hu t ht
  have inv0 : HeadInv .any ops n (Array.replicate ops.size false) :=
    ⟨by simp, fun j oj _ hl => (by rw [getD_replicate_false] at hl; cases hl), fun t _ ht => getD_in (by simpa using ht) (getD_replicate_false _ _)⟩
  let Q' : Exit → Act → World → Prop := fun e a w => match e with | .normal => Q .normal a w | _ => False
  have hq : ∀ e a w, Q' e a w → Q e a w := fun e a w h => by cases e <;> first | exact h | exact h.elim
  have heq : ∀ l : List Oper, vcOps P ops Q l = vcOps P ops Q' l := by
    intro l
    induction l with
    | nil => rfl
    | cons o l ih => funext a w; simp only [vcOps, ih]
  rw [heq] at h
  have := vcT_sound (Q := Q') gr gt hL hneed hn' hsel (fun c a w h => h) hT n (List.range n) _ a w.drew inv0 hB h
  rw [show n + (ops.size - n) = ops.size by omega] at this
  exact wp_mono (wp_region_any hm (wpAny_of_T _ _ _ _ this)) hq

theorem vcVOp_any {P : Program} {V : Nat → Prop} {o : Oper} {a : Act} {w : World} {K : Act → Prop} (hn : isLd o.op = false) (h : vcVOp P V o a w K) :
    ∃ v, (∀ w', (execOp a.eval o).run P w' = .ok (.value v) w') ∧ K (a.put o.dst v) := by
  have val : ∀ (e : Sem Value) (v : Value), execOp a.eval o = (do pure (.value (← e))) → (∀ w', e.run P w' = .ok v w') → K (a.put o.dst v) →
      ∃ v, (∀ w', (execOp a.eval o).run P w' = .ok (.value v) w') ∧ K (a.put o.dst v) := by
    intro e v he hr hk
    refine ⟨v, fun w' => ?_, hk⟩
    rw [he]
    simp [Sem.run_bind, hr w', Result.andThen]
  unfold vcVOp at h
  split at h
  · rename_i c x y ho
    split at h
    · rename_i b hb
      refine val (pure (if b = true then a.eval x else a.eval y)) _ (by simp [execOp, ho, hb, asBool]) (fun w' => rfl) ?_
      cases b <;> exact h
    · exact h.elim
  · rename_i t x ho
    rw [ho] at hn; cases hn
  · rename_i x ho
    split at h
    · rename_i p hp
      cases p with
      | none => exact h.elim
      | some ad => exact val (pure (.pointer (some ad))) _ (by simp [execOp, ho, hp]) (fun w' => rfl) h
    · exact h.elim
  · exact h.elim
  · exact h.elim
  · exact h.elim
  · exact h.elim
  · split at h
    · rename_i v hv
      exact ⟨v, fun w' => pureRun_run w' _ _ hv, h⟩
    · exact h.elim
/-- Each load's own blocks stay; the others read nothing. -/
def GMem (ops : Array Oper) (V : Nat → Nat → Prop) (q : Nat) (w w' : World) : Prop := match memAt ops q with
  | true => Bar (V q) w w'
  | false => True
theorem GMem.refl {ops : Array Oper} {V : Nat → Nat → Prop} {q : Nat} (w : World) : GMem ops V q w w := by
  unfold GMem; split
  · exact Bar.refl _ _
  · trivial
theorem GMem.trans {ops : Array Oper} {V : Nat → Nat → Prop} {q : Nat} {a b c : World} (h : GMem ops V q a b) (k : GMem ops V q b c) : GMem ops V q a c := by
  unfold GMem at *; split
  · rename_i hq; rw [hq] at h k; exact Bar.trans h k
  · trivial
theorem vcVOp_mem {P : Program} {ops : Array Oper} {V : Nat → Nat → Prop} {i : Nat} {o : Oper} {a : Act} {w : World} {K : Act → Prop} (hi : ops[i]? = some o) (h : vcVOp P (V i) o a w K) :
    ∃ v, (∀ w', GMem ops V i w w' → (execOp a.eval o).run P w' = .ok (.value v) w') ∧ K (a.put o.dst v) := by
  have hm : memAt ops i = isLd o.op := by unfold memAt; rw [hi]
  cases hb : isLd o.op with
  | true =>
    obtain ⟨v, h1, h2⟩ := vcVOp_val h
    refine ⟨v, fun w' hg => h1 w' ?_, h2⟩
    unfold GMem at hg; rw [hm, hb] at hg; exact hg
  | false =>
    obtain ⟨v, h1, h2⟩ := vcVOp_any hb h
    exact ⟨v, fun w' _ => h1 w', h2⟩

/-- Regions that are walked with blocks that may change: marks for 'cut'. -/
def marks (ids : List Nat) (cut : Nat → Option ((Act → World → Prop) × (Act → World → Nat))) : Nat → Option ((Act → World → Prop) × (Act → World → Nat)) := fun i => match hasN ids i with
  | true => some (fun _ _ => True, fun _ _ => 0)
  | false => cut i

/-! ### Code -/
/-- A statement that nobody is to open by mistake. -/
structure Hold (p : Prop) : Prop where
  out : p
theorem kcast {A : Prop} (h : A) {B : Prop} (e : A = B) : Hold B := ⟨e ▸ h⟩
def tailAt (ops : Array Oper) : Option Nat := ops.toList.findIdx? fun o => match o.op with
  | .store .. => true
  | _ => false

/-- Is the region to be walked so? -/
def heldAt (ops : Array Oper) : Bool := (ops.toList.take (headN ops)).any fun o => isLoud o.op

/-- The first region's number, and one; or 0. -/
def entry : Code → Nat
  | .region id _ _ => id + 1
  | .seq x y => match entry x with
    | 0 => entry y
    | n + 1 => n + 1
  | .cond _ x y => match entry x with
    | 0 => entry y
    | n + 1 => n + 1
  | .block _ c => entry c
  | .loop c => entry c
  | _ => 0

/-- The verification condition of a piece of code, up to the loops, whose relations 'cut' tells by their blocks' numbers. -/
def vc (P : Program) (cut : Nat → Option ((Act → World → Prop) × (Act → World → Nat))) : Code → (Exit → Act → World → Prop) → Act → World → Prop
  | .skip, Q, a, w => Q .normal a w
  | .region id ops draw, Q, a, w => match draw with
    | false => vcOps P ops Q ops.toList a w
    | true => match cut (2000000 + id) with
      | some _ => ∃ V : Nat → Nat → Prop, vcT P (fun q => Bar (V q)) (needOf ops) (fun q => vcVOp P (V q)) ops (itemsOf 0 ops.toList) (fun a' w' => vcOps P ops Q (ops.toList.drop ops.size) a' w') ops.size (List.range ops.size) a w.drew
      | none => match heldAt ops with
        | true => match cut (1000000 + id) with
          | none => vcT P (fun _ => Ahead) (fun _ => [0]) (fun _ => vcQOp P) ops (planOf ops) (fun a' w' => vcOps P ops Q (ops.toList.drop (headN ops)) a' w') (headN ops) (List.range (headN ops)) a w.drew
          | some _ => ∃ V : Nat → Prop, vcT P (fun _ => Bar V) (fun _ => [0]) (fun _ => vcVOp P V) ops (planOf ops) (fun a' w' => vcOps P ops Q (ops.toList.drop (headN ops)) a' w') (headN ops) (List.range (headN ops)) a w.drew
        | false => match tailAt ops with
          | none => vcQ P ops w (fun a' => ∀ w', Ahead w w' → Q .normal a' w') ops.toList a
          | some n => vcQ P ops w (fun a' => vcOps P ops Q (ops.toList.drop n) a' w.drew) (ops.toList.take n) a
  | .seq x y, Q, a, w => match cut (3000000 + entry y) with
    | some L => vc P cut x (Exit.then (fun a w => L.1 a w) Q) a w
    | none => vc P cut x (Exit.then (vc P cut y Q) Q) a w
  | .cond c x y, Q, a, w => match c with
    | .tmp d => match a.tmps[d]? with
      | some (.bool b) => br b (vc P cut x Q (a.put (some d) (.bool true)) w) (vc P cut y Q (a.put (some d) (.bool false)) w)
      | _ => False
    | _ => False
  | .block id c, Q, a, w => match cut id with
    | some L => L.1 a w
    | none => vc P cut c (Exit.inBlock id Q) a w
  | .exit id, Q, a, w => Q (.exit id) a w
  | .label _, Q, a, w => Q .normal a w
  | .ret, Q, a, w => Q .ret a w
  | _, _, _, _ => False

/-- What is owed besides: each loop's round; each open order's Bool. -/
def obl (P : Program) (cut : Nat → Option ((Act → World → Prop) × (Act → World → Nat))) : Code → (Exit → Act → World → Prop) → Prop → Prop
  | .region id ops draw, _, rest => match draw with
    | false => rest
    | true => match cut (2000000 + id) with
      | some _ => heldAllB ops ops.size (itemsOf 0 ops.toList) = true ∧ rest
      | none => match heldAt ops with
        | true => heldAllB ops (headN ops) (planOf ops) = true ∧ rest
        | false => match tailAt ops with
          | none => Region.lexB .any ops = true ∧ rest
          | some n => (Region.lexTailB .any ops n = true ∧ (ops.toList.take n).all (fun o => !isCall o.op) = true) ∧ rest
  | .seq x y, Q, rest => match cut (3000000 + entry y) with
    | some L => obl P cut x (Exit.then (fun a w => L.1 a w) Q) ((∀ a w, L.1 a w → ∃ cut' : Nat → Option ((Act → World → Prop) × (Act → World → Nat)), vc P cut' y Q a w ∧ obl P cut' y Q True) ∧ rest)
    | none => obl P cut x (Exit.then (vc P cut y Q) Q) (obl P cut y Q rest)
  | .cond _ x y, Q, rest => obl P cut x Q (obl P cut y Q rest)
  | .block id c, Q, rest => match cut id with
    | some L => match c with
      | .loop body => (∀ a w, L.1 a w → ∃ cut' : Nat → Option ((Act → World → Prop) × (Act → World → Nat)), vc P cut' body (Exit.then (fun a' w' => L.1 a' w' ∧ L.2 a' w' < L.2 a w) (Exit.inBlock id Q)) a w ∧
          obl P cut' body (Exit.then (fun a' w' => L.1 a' w' ∧ L.2 a' w' < L.2 a w) (Exit.inBlock id Q)) True) ∧ rest
      | _ => False
    | none => obl P cut c (Exit.inBlock id Q) rest
  | _, _, rest => rest

theorem obl_rest {P : Program} {cut : Nat → Option ((Act → World → Prop) × (Act → World → Nat))} : ∀ (c : Code) (Q : Exit → Act → World → Prop) (rest : Prop), obl P cut c Q rest → rest
  | .skip, _, _, h => h
  | .region _ ops draw, _, _, h => by
    unfold obl at h
    split at h
    · exact h
    · split at h
      · exact h.2
      · split at h
        · exact h.2
        · split at h <;> exact h.2
  | .seq x y, Q, rest, h => by
    unfold obl at h
    split at h
    · exact (obl_rest x _ _ h).2
    · exact obl_rest y _ _ (obl_rest x _ _ h)
  | .cond _ x y, Q, rest, h => by unfold obl at h; exact obl_rest y _ _ (obl_rest x _ _ h)
  | .block id c, Q, rest, h => by
    unfold obl at h
    split at h
    · split at h
      · exact h.2
      · exact h.elim
    · exact obl_rest c _ _ h
  | .loop _, _, _, h => h
  | .rangeFunc .., _, _, h => h
  | .exit _, _, _, h => h
  | .scope _, _, _, h => h
  | .label _, _, _, h => h
  | .goto _, _, _, h => h
  | .ret, _, _, h => h
  | .refuse _, _, _, h => h

theorem obl_mono {P : Program} {cut : Nat → Option ((Act → World → Prop) × (Act → World → Nat))} : ∀ (c : Code) (Q : Exit → Act → World → Prop) (r r' : Prop), (r → r') → obl P cut c Q r → obl P cut c Q r'
  | .skip, _, _, _, hr, h => hr h
  | .region _ ops draw, _, _, _, hr, h => by
    unfold obl at h ⊢
    split at h
    · exact hr h
    · split at h
      · exact ⟨h.1, hr h.2⟩
      · split at h
        · exact ⟨h.1, hr h.2⟩
        · split at h <;> exact ⟨h.1, hr h.2⟩
  | .seq x y, Q, r, r', hr, h => by
    unfold obl at h ⊢
    split at h
    · exact obl_mono x _ _ _ (fun h => ⟨h.1, hr h.2⟩) h
    · exact obl_mono x _ _ _ (obl_mono y _ _ _ hr) h
  | .cond _ x y, Q, r, r', hr, h => by unfold obl at h ⊢; exact obl_mono x _ _ _ (obl_mono y _ _ _ hr) h
  | .block id c, Q, r, r', hr, h => by
    unfold obl at h ⊢
    split at h
    · split at h
      · exact ⟨h.1, hr h.2⟩
      · exact h.elim
    · exact obl_mono c _ _ _ hr h
  | .loop _, _, _, _, hr, h => hr h
  | .rangeFunc .., _, _, _, hr, h => hr h
  | .exit _, _, _, _, hr, h => hr h
  | .scope _, _, _, _, hr, h => hr h
  | .label _, _, _, _, hr, h => hr h
  | .goto _, _, _, _, hr, h => hr h
  | .ret, _, _, _, hr, h => hr h
  | .refuse _, _, _, _, hr, h => hr h

theorem obl_first {P : Program} {cut : Nat → Option ((Act → World → Prop) × (Act → World → Nat))} (c : Code) (Q : Exit → Act → World → Prop) {r : Prop} (h : obl P cut c Q r) : obl P cut c Q True := obl_mono c Q _ _ (fun _ => trivial) h

theorem vc_sound {P : Program} (hm : P.follows .mixedOrders = true) : ∀ (c : Code) {cut : Nat → Option ((Act → World → Prop) × (Act → World → Nat))} (Q : Exit → Act → World → Prop) (a : Act) (w : World),
    obl P cut c Q True → vc P cut c Q a w → c.wp P Q a w
  | .skip, _, Q, a, w, _, h => wp_skip h
  | .region id ops draw, _, Q, a, w, ho, h => by
    unfold obl at ho
    unfold vc at h
    cases draw
    · exact wp_region_list (vcOps_sound _ _ _ h)
    · simp only at ho h
      split at ho
      · rename_i hs
        rw [hs] at h
        obtain ⟨V, h⟩ := h
        refine region_held (G := fun q => GMem ops V q) _ _ (fun q w => GMem.refl w) (fun h k => GMem.trans h k) (fun hi _ h => vcVOp_mem hi h) (fun j w w' hh q hp => ?_) hm ho.1 h
        unfold GMem
        split
        · rename_i hq; exact hh q (needOf_mem hq hp)
        · trivial
      rename_i hs
      rw [hs] at h
      simp only at h
      split at ho
      · rename_i hh
        rw [hh] at h
        simp only at h
        split at h
        · exact region_held (G := fun _ => Ahead) _ _ (fun _ _ => Ahead.refl _) (fun h k => Ahead.trans h k) (fun _ hl h => vcQOp_val (isCall_of_quiet hl) h) (fun j w w' hh q _ => hh 0 (by simp)) hm ho.1 h
        · obtain ⟨V, h⟩ := h
          exact region_held (G := fun _ => Bar V) _ _ (fun _ _ => Bar.refl _ _) (fun h k => Bar.trans h k) (fun _ _ h => vcVOp_val h) (fun j w w' hh q _ => hh 0 (by simp)) hm ho.1 h
      · rename_i hh
        rw [hh] at h
        simp only at h
        split at ho
        · rename_i ht
          rw [ht] at h
          exact region_quiet hm ho.1 h
        · rename_i n ht
          rw [ht] at h
          exact region_tail n hm ho.1.1 ho.1.2 h
  | .seq x y, _, Q, a, w, ho, h => by
    unfold obl at ho
    unfold vc at h
    split at ho
    · rename_i L hL
      rw [hL] at h
      have hx := vc_sound hm x _ a w (obl_first _ _ ho) h
      have hoy := (obl_rest _ _ _ ho).1
      refine wp_seq (wp_mono hx fun e a w he => ?_)
      cases e
      case normal =>
        obtain ⟨cut', h1, h2⟩ := hoy a w he
        exact vc_sound hm y Q a w h2 h1
      all_goals exact he
    · rename_i hL
      rw [hL] at h
      have hx := vc_sound hm x _ a w (obl_first _ _ ho) h
      have hoy := obl_rest _ _ _ ho
      refine wp_seq (wp_mono hx fun e a w he => ?_)
      cases e <;> first | exact vc_sound hm y Q a w hoy he | exact he
  | .cond c x y, _, Q, a, w, ho, h => by
    unfold obl at ho
    unfold vc at h
    split at h
    · rename_i d
      split at h
      · rename_i b hb
        have he : a.eval (.tmp d) = .bool b := by simp [Act.eval, Array.getD_eq_getD_getElem?, hb]
        cases b
        · rw [br, put_same hb] at h
          exact wp_cond_false he (vc_sound hm y Q a w (obl_first _ _ (obl_rest _ _ _ ho)) h)
        · rw [br, put_same hb] at h
          exact wp_cond_true he (vc_sound hm x Q a w (obl_first _ _ ho) h)
      · exact h.elim
    · exact h.elim
  | .block id c, _, Q, a, w, ho, h => by
    unfold obl at ho
    unfold vc at h
    split at ho
    · rename_i L hL
      rw [hL] at h
      split at ho
      · rename_i body
        refine wp_block (wp_loop L.1 L.2 h fun a w hI => ?_)
        obtain ⟨cut', h1, h2⟩ := ho.1 a w hI
        exact vc_sound hm body _ a w h2 h1
      · exact ho.elim
    · rename_i hL
      rw [hL] at h
      exact wp_block (vc_sound hm c _ a w ho h)
  | .loop _, _, _, _, _, _, h => by unfold vc at h; exact h.elim
  | .rangeFunc .., _, _, _, _, _, h => by unfold vc at h; exact h.elim
  | .exit _, _, _, _, _, _, h => wp_exit h
  | .scope _, _, _, _, _, _, h => by unfold vc at h; exact h.elim
  | .label _, _, _, _, _, _, h => wp_label h
  | .goto _, _, _, _, _, _, h => by unfold vc at h; exact h.elim
  | .ret, _, _, _, _, _, h => wp_ret h
  | .refuse _, _, _, _, _, _, h => by unfold vc at h; exact h.elim

/-! ### A call -/
def resC (P : Program) (tmps : Array Value) (w : World) : List ResultVar → (List Value → Prop) → Prop
  | [], k => k []
  | .tmp t :: r, k => resC P tmps w r fun vs => k (tmps.getD t undef :: vs)
  | .cell p t :: r, k => match tmps.getD p undef with
    | .pointer q => onSome q fun ad => ldT P t ad w fun v => resC P tmps w r fun vs => k (v :: vs)
    | _ => False

def resV : List Value → Value
  | [v] => v
  | vs => .tuple vs.toArray

def vcPost (P : Program) (fn : Func) (R : Ending → World → Prop) : Exit → Act → World → Prop
  | .normal, a, w => match a.defers with
    | [] => resC P a.tmps w fn.results.toList fun vs => R (.returned (resV vs)) w
    | _ => False
  | .ret, a, w => match a.defers with
    | [] => resC P a.tmps w fn.results.toList fun vs => R (.returned (resV vs)) w
    | _ => False
  | _, _, _ => False

theorem resC_run {P : Program} {tmps : Array Value} {w : World} :
    ∀ (rs : List ResultVar) (k : List Value → Prop), resC P tmps w rs k → ∃ vs, k vs ∧
      ∀ f : ResultVar → Sem Value, (∀ u, f (.tmp u) = pure (tmps.getD u undef)) → (∀ a t, f (.cell a t) = (do loadVar t (← asAddr (tmps.getD a undef)))) → (rs.mapM f).run P w = .ok vs w
  | [], k, h => ⟨[], h, by simp⟩
  | .tmp t :: r, k, h => by
    unfold resC at h
    obtain ⟨vs, hk, hr⟩ := resC_run r _ h
    exact ⟨_, hk, fun f hf hc => by rw [List.mapM_cons, hf]; simp [hr f hf hc, Result.andThen]⟩
  | .cell p t :: r, k, h => by
    unfold resC at h
    split at h
    · rename_i q hq
      cases q with
      | none => exact h.elim
      | some ad =>
        obtain ⟨v, hk, hv⟩ := ldT_run (show ldT P t ad w (fun v => resC P tmps w r fun vs => k (v :: vs)) from h)
        obtain ⟨vs, hk, hr⟩ := resC_run r _ hk
        exact ⟨_, hk, fun f hf hc => by rw [List.mapM_cons, hc, hq]; simp [asAddr, hv, hr f hf hc, Result.andThen]⟩
    · exact h.elim

theorem vcPost_sound {P : Program} {fn : Func} {R : Ending → World → Prop} {e : Exit} {a : Act} {w : World} (h : vcPost P fn R e a w) : bodyPost P fn R e a w := by
  have key : (match a.defers with
    | [] => resC P a.tmps w fn.results.toList fun vs => R (.returned (resV vs)) w
    | _ => False) → a.defers = [] ∧ ∃ v, (results fn a.tmps).run P w = .ok v w ∧ R (.returned v) w := by
    intro h
    split at h
    · rename_i hd
      obtain ⟨vs, hk, hr⟩ := resC_run _ _ h
      refine ⟨hd, resV vs, ?_, hk⟩
      generalize hrs : fn.results.toList = rs at hr
      have hrs' : fn.results = rs.toArray := by rw [← hrs]
      unfold results
      rw [hrs', List.mapM_toArray]
      simp only [Sem.run_bind, Sem.run_map]
      rw [hr _ (fun _ => rfl) (fun _ _ => rfl)]
      match vs with
      | [] => simp [resV]
      | [v] => simp [resV]
      | v :: v' :: vs => simp [resV]
    · exact h.elim
  cases e <;> first | exact key h | exact False.elim h

theorem calls_of_vc {P : Program} {f : FuncId} {fn : Func} {c : Code} {args : Array Value} {w : World} {R : Ending → World → Prop}
    (cut : Nat → Option ((Act → World → Prop) × (Act → World → Nat))) (hm : P.follows .mixedOrders = true)
    (hf : P.funcs[f]? = some fn) (hb : fn.body = some c)
    (h : Hold (vc P cut c (vcPost P fn R) { tmps := args ++ Array.replicate (fn.ntmps - args.size) undef, defers := [] } w))
    (ho : obl P cut c (vcPost P fn R) True) : Calls P f args w R :=
  calls_of_wp hf hb (wp_mono (vc_sound hm c _ _ _ ho h.out) fun _ _ _ h => vcPost_sound h)

/-! ### Leaves, as the printed statements spell them -/
def semS (P : Program) (e : Sem Value) (w : World) (K : Slc → World → Prop) : Prop := e.wp P (fun v w' => ∃ x : Slc, v = x.v ∧ K x w') (fun _ _ => False) w
def semI (P : Program) (k : IntKind) (e : Sem Value) (w : World) (K : Int → World → Prop) : Prop := e.wp P (fun v w' => ∃ x : Int, v = .int k x ∧ K x w') (fun _ _ => False) w
def semA (P : Program) (e : Sem Value) (w : World) (K : Addr → World → Prop) : Prop := e.wp P (fun v w' => ∃ x : Addr, v = .pointer (some x) ∧ K x w') (fun _ _ => False) w
def semN (P : Program) (e : Sem Value) (w : World) (K : ByteArray → World → Prop) : Prop := e.wp P (fun v w' => ∃ x : ByteArray, v = .string x ∧ K x w') (fun _ _ => False) w
def semB (P : Program) (e : Sem Value) (w : World) (K : Bool → World → Prop) : Prop := e.wp P (fun v w' => ∃ x : Bool, v = .bool x ∧ K x w') (fun _ _ => False) w
def fixS (P : Program) (e : Sem Value) (w : World) (K : Slc → Prop) : Prop := ∃ x : Slc, (∀ w', Ahead w w' → e.run P w' = .ok x.v w') ∧ K x
def fixI (P : Program) (k : IntKind) (e : Sem Value) (w : World) (K : Int → Prop) : Prop := ∃ x : Int, (∀ w', Ahead w w' → e.run P w' = .ok (.int k x) w') ∧ K x
def fixA (P : Program) (e : Sem Value) (w : World) (K : Addr → Prop) : Prop := ∃ x : Addr, (∀ w', Ahead w w' → e.run P w' = .ok (.pointer (some x)) w') ∧ K x
def fixN (P : Program) (e : Sem Value) (w : World) (K : ByteArray → Prop) : Prop := ∃ x : ByteArray, (∀ w', Ahead w w' → e.run P w' = .ok (.string x) w') ∧ K x
def ldI (k : IntKind) (ad : Addr) (w : World) (K : Int → Prop) : Prop := ∃ x : Int, w.cell? ad = some (.int k x) ∧ K x
def ldS (ad : Addr) (w : World) (K : Slc → Prop) : Prop := ∃ x : Slc, w.cell? ad = some x.v ∧ K x
def ldB (ad : Addr) (w : World) (K : Bool → Prop) : Prop := ∃ x : Bool, w.cell? ad = some (.bool x) ∧ K x
def ldN (ad : Addr) (w : World) (K : ByteArray → Prop) : Prop := ∃ x : ByteArray, w.cell? ad = some (.string x) ∧ K x
def ldP (ad : Addr) (w : World) (K : Option Addr → Prop) : Prop := ∃ x : Option Addr, w.cell? ad = some (.pointer x) ∧ K x
def ldV (ad : Addr) (w : World) (K : Value → Prop) : Prop := ∃ x : Value, w.cell? ad = some x ∧ K x
/-- A store of one cell. -/
def stC (ad : Addr) (v : Value) (w : World) (K : World → Prop) : Prop := (∃ u, w.cell? ad = some u) ∧ w.frozen? ad = false ∧ K (w.setCell ad v)

/-- A new block. -/
def newC (w : World) (c : Array Value) (t : TypeId) (K : Addr → World → Prop) : Prop := K ⟨w.heap.size, 0, none⟩ (w.alloc (.cells c t))
def andI (k : IntKind) (x y : Int) : Int := k.wrap (BitVec.ofInt k.bits x &&& BitVec.ofInt k.bits y).toNat
def orI (k : IntKind) (x y : Int) : Int := k.wrap (BitVec.ofInt k.bits x ||| BitVec.ofInt k.bits y).toNat
def xorI (k : IntKind) (x y : Int) : Int := k.wrap (BitVec.ofInt k.bits x ^^^ BitVec.ofInt k.bits y).toNat
def maxI (x y : Int) : Int := if y > x then y else x
def minI (x y : Int) : Int := if y < x then y else x

/-! ### Loops' relations, told by the slots that live -/
def atS (a : Act) (d : Nat) (K : Slc → Prop) : Prop := match a.tmps[d]? with | some (.slice A n c) => K ⟨A, n, c⟩ | _ => False
def atI (k : IntKind) (a : Act) (d : Nat) (K : Int → Prop) : Prop := match a.tmps[d]? with | some (.int k' x) => (match k == k' with | true => K x | false => False) | _ => False
def atB (a : Act) (d : Nat) (K : Bool → Prop) : Prop := match a.tmps[d]? with | some (.bool x) => K x | _ => False
def atN (a : Act) (d : Nat) (K : ByteArray → Prop) : Prop := match a.tmps[d]? with | some (.string x) => K x | _ => False
def atP (a : Act) (d : Nat) (K : Option Addr → Prop) : Prop := match a.tmps[d]? with | some (.pointer x) => K x | _ => False
def atA (a : Act) (d : Nat) (K : Addr → Prop) : Prop := match a.tmps[d]? with | some (.pointer (some x)) => K x | _ => False
def atV (a : Act) (d : Nat) (K : Value → Prop) : Prop := match a.tmps[d]? with | some x => K x | _ => False
def atSz (a : Act) (n : Nat) (K : Prop) : Prop := match a.tmps.size == n with | true => (match a.defers with | [] => K | _ => False) | false => False
/-- A function with no captured variables. -/
def atF (g : Nat) (a : Act) (d : Nat) (K : Prop) : Prop := match a.tmps[d]? with | some (.func (.func f) ⟨[]⟩ ⟨[]⟩) => (match Nat.beq f g with | true => K | false => False) | _ => False
/-- A struct of n cells. -/
def atG (a : Act) (d n : Nat) (K : Array Value → Prop) : Prop := match a.tmps[d]? with | some (.agg q) => (match q.size == n with | true => K q | false => False) | _ => False
def mG (a : Act) (d : Nat) (K : Array Value → Nat) : Nat := match a.tmps[d]? with | some (.agg q) => K q | _ => 0
def mS (a : Act) (d : Nat) (K : Slc → Nat) : Nat := match a.tmps[d]? with | some (.slice A n c) => K ⟨A, n, c⟩ | _ => 0
def mI (a : Act) (d : Nat) (K : Int → Nat) : Nat := match a.tmps[d]? with | some (.int _ x) => K x | _ => 0
def mB (a : Act) (d : Nat) (K : Bool → Nat) : Nat := match a.tmps[d]? with | some (.bool x) => K x | _ => 0
def mN (a : Act) (d : Nat) (K : ByteArray → Nat) : Nat := match a.tmps[d]? with | some (.string x) => K x | _ => 0
def mP (a : Act) (d : Nat) (K : Option Addr → Nat) : Nat := match a.tmps[d]? with | some (.pointer x) => K x | _ => 0
def mA (a : Act) (d : Nat) (K : Addr → Nat) : Nat := match a.tmps[d]? with | some (.pointer (some x)) => K x | _ => 0
def mV (a : Act) (d : Nat) (K : Value → Nat) : Nat := match a.tmps[d]? with | some x => K x | _ => 0

theorem atF_out {g : Nat} {a : Act} {d : Nat} {K : Prop} (h : atF g a d K) : a.tmps[d]? = some (.func (.func g) #[] #[]) ∧ K := by
  unfold atF at h; split at h
  · rename_i f hh
    split at h
    · rename_i hb; have := Nat.eq_of_beq_eq_true hb; subst this; exact ⟨hh, h⟩
    · exact h.elim
  · exact h.elim
theorem atG_out {a : Act} {d n : Nat} {K : Array Value → Prop} (h : atG a d n K) : ∃ q : Array Value, a.tmps[d]? = some (.agg q) ∧ q.size = n ∧ K q := by
  unfold atG at h; split at h
  · rename_i q hh
    split at h
    · rename_i hb; exact ⟨q, hh, by simpa using hb, h⟩
    · exact h.elim
  · exact h.elim
def aggL (g : Array Value) : Nat → List Value → Prop
  | _, [] => True
  | i, v :: l => g[i]? = some v ∧ aggL g (i + 1) l
theorem aggL_get {g : Array Value} : ∀ (l : List Value) (i j : Nat), aggL g i l → j < l.length → g[i + j]? = l[j]?
  | [], _, _, _, hj => by simp at hj
  | v :: l, i, 0, h, _ => by simpa using h.1
  | v :: l, i, j + 1, h, hj => by
    have := aggL_get l (i + 1) j h.2 (by simpa using hj)
    rw [show i + (j + 1) = i + 1 + j by omega, this]; simp
theorem agg_eq {g : Array Value} {l : List Value} (hn : g.size = l.length) (h : aggL g 0 l) : g = l.toArray := by
  apply Array.ext_getElem?
  intro j
  rcases Nat.lt_or_ge j l.length with hj | hj
  · have := aggL_get l 0 j h hj
    rw [Nat.zero_add] at this
    simpa using this
  · rw [Array.getElem?_eq_none (by omega), Array.getElem?_eq_none (by simpa using hj)]
theorem atS_out {a : Act} {d : Nat} {K : Slc → Prop} (h : atS a d K) : ∃ x : Slc, a.tmps[d]? = some x.v ∧ K x := by
  unfold atS at h; split at h
  · rename_i A n c hh; exact ⟨⟨A, n, c⟩, hh, h⟩
  · exact h.elim
theorem atI_out {k : IntKind} {a : Act} {d : Nat} {K : Int → Prop} (h : atI k a d K) : ∃ x : Int, a.tmps[d]? = some (.int k x) ∧ K x := by
  unfold atI at h; split at h
  · rename_i k' x hh
    split at h
    · rename_i hk; rw [beq_iff_eq] at hk; subst hk; exact ⟨x, hh, h⟩
    · exact h.elim
  · exact h.elim
theorem atB_out {a : Act} {d : Nat} {K : Bool → Prop} (h : atB a d K) : ∃ x : Bool, a.tmps[d]? = some (.bool x) ∧ K x := by
  unfold atB at h; split at h
  · rename_i x hh; exact ⟨x, hh, h⟩
  · exact h.elim
theorem atN_out {a : Act} {d : Nat} {K : ByteArray → Prop} (h : atN a d K) : ∃ x : ByteArray, a.tmps[d]? = some (.string x) ∧ K x := by
  unfold atN at h; split at h
  · rename_i x hh; exact ⟨x, hh, h⟩
  · exact h.elim
theorem atP_out {a : Act} {d : Nat} {K : Option Addr → Prop} (h : atP a d K) : ∃ x : Option Addr, a.tmps[d]? = some (.pointer x) ∧ K x := by
  unfold atP at h; split at h
  · rename_i x hh; exact ⟨x, hh, h⟩
  · exact h.elim
theorem atA_out {a : Act} {d : Nat} {K : Addr → Prop} (h : atA a d K) : ∃ x : Addr, a.tmps[d]? = some (.pointer (some x)) ∧ K x := by
  unfold atA at h; split at h
  · rename_i x hh; exact ⟨x, hh, h⟩
  · exact h.elim
theorem atV_out {a : Act} {d : Nat} {K : Value → Prop} (h : atV a d K) : ∃ x : Value, a.tmps[d]? = some x ∧ K x := by
  unfold atV at h; split at h
  · rename_i x hh; exact ⟨x, hh, h⟩
  · exact h.elim
theorem atSz_out {a : Act} {n : Nat} {K : Prop} (h : atSz a n K) : a.tmps.size = n ∧ a.defers = [] ∧ K := by
  unfold atSz at h; split at h
  · rename_i hn
    split at h
    · rename_i hd; exact ⟨by simpa using hn, hd, h⟩
    · exact h.elim
  · exact h.elim

def look : List (Nat × Value) → Nat → Value → Value
  | [], _, d => d
  | (j, v) :: r, i, d => match i == j with | true => v | false => look r i d
/-- A frame of n slots: the ones in 'sel' as told, the others whatever they are. -/
def Fr (n : Nat) (sel : List (Nat × Value)) (g : Nat → Value) : Act := { tmps := ((List.range n).map fun i => look sel i (g i)).toArray, defers := [] }

theorem look_spec {sel : List (Nat × Value)} {a : Array Value} (h : ∀ p ∈ sel, a[p.1]? = some p.2) (i : Nat) (hi : i < a.size) : a[i]? = some (look sel i (a.getD i undef)) := by
  induction sel with
  | nil => simp [look, hi]
  | cons p r ih =>
    obtain ⟨j, v⟩ := p
    unfold look
    split
    · rename_i e; rw [beq_iff_eq] at e; subst e; exact h (i, v) (by simp)
    · exact ih fun p hp => h p (by simp [hp])

theorem sel_nil {a : Array Value} : ∀ p ∈ ([] : List (Nat × Value)), a[p.1]? = some p.2 := fun _ h => by cases h
theorem sel_cons {a : Array Value} {d : Nat} {v : Value} {r : List (Nat × Value)} (h : a[d]? = some v) (hr : ∀ p ∈ r, a[p.1]? = some p.2) : ∀ p ∈ (d, v) :: r, a[p.1]? = some p.2 := by
  intro p hp
  rcases List.mem_cons.1 hp with rfl | hp
  · exact h
  · exact hr p hp

theorem fr_of {a : Act} {n : Nat} (hs : a.tmps.size = n) (hd : a.defers = []) (sel : List (Nat × Value)) (h : ∀ p ∈ sel, a.tmps[p.1]? = some p.2) :
    a = Fr n sel fun i => a.tmps.getD i undef := by
  obtain ⟨t, ds⟩ := a
  simp only at hs hd h ⊢
  subst hd
  unfold Fr
  congr 1
  apply Array.ext_getElem?
  intro i
  by_cases hi : i < n
  · rw [look_spec h i (by omega)]
    simp [hi]
  · rw [Array.getElem?_eq_none (by omega), Array.getElem?_eq_none (by simp; omega)]

/-! ### What is owed, step by step -/
section
variable {P : Program} {cut : Nat → Option ((Act → World → Prop) × (Act → World → Nat))} {Q : Exit → Act → World → Prop} {rest : Prop} {x y c : Code} {i : Nat} {ops : Array Oper}
theorem obl_seq (hc : cut (3000000 + entry y) = none) (h : obl P cut x (Exit.then (vc P cut y Q) Q) (obl P cut y Q rest)) : obl P cut (.seq x y) Q rest := by
  unfold obl; simp only [hc]; exact h
theorem obl_join (L : (Act → World → Prop) × (Act → World → Nat)) (hc : cut (3000000 + entry y) = some L) (h : obl P cut x (Exit.then (fun a w => L.1 a w) Q) rest)
    (h1 : ∀ a w, L.1 a w → ∃ cut' : Nat → Option ((Act → World → Prop) × (Act → World → Nat)), Hold (vc P cut' y Q a w) ∧ obl P cut' y Q True) : obl P cut (.seq x y) Q rest := by
  unfold obl; simp only [hc]
  exact obl_mono x _ _ _ (fun hr => ⟨fun a w hl => by obtain ⟨cut', h2, h3⟩ := h1 a w hl; exact ⟨cut', h2.out, h3⟩, hr⟩) h
theorem obl_reg (h : rest) : obl P cut (.region i ops false) Q rest := h
theorem obl_held (hc0 : cut (2000000 + i) = none) (hh : heldAt ops = true) (hl : heldAllB ops (headN ops) (planOf ops) = true) (h : rest) : obl P cut (.region i ops true) Q rest := by
  unfold obl; simp only [hc0, hh]; exact ⟨hl, h⟩
theorem obl_store (L : (Act → World → Prop) × (Act → World → Nat)) (hc0 : cut (2000000 + i) = some L) (hl : heldAllB ops ops.size (itemsOf 0 ops.toList) = true) (h : rest) : obl P cut (.region i ops true) Q rest := by
  unfold obl; simp only [hc0]; exact ⟨hl, h⟩
theorem obl_quiet (hc0 : cut (2000000 + i) = none) (hh : heldAt ops = false) (ht : tailAt ops = none) (hl : Region.lexB .any ops = true) (h : rest) : obl P cut (.region i ops true) Q rest := by
  unfold obl; simp only [hc0, hh, ht]; exact ⟨hl, h⟩
theorem obl_tail (n : Nat) (hc0 : cut (2000000 + i) = none) (hh : heldAt ops = false) (ht : tailAt ops = some n) (hl : Region.lexTailB .any ops n = true) (hc : (ops.toList.take n).all (fun o => !isCall o.op) = true) (h : rest) : obl P cut (.region i ops true) Q rest := by
  unfold obl; simp only [hc0, hh, ht]; exact ⟨⟨hl, hc⟩, h⟩
theorem obl_cond {t : Operand} (h : obl P cut x Q (obl P cut y Q rest)) : obl P cut (.cond t x y) Q rest := h
theorem obl_blk (hc : cut i = none) (h : obl P cut c (Exit.inBlock i Q) rest) : obl P cut (.block i c) Q rest := by
  unfold obl; simp only [hc]; exact h
theorem obl_loop (L : (Act → World → Prop) × (Act → World → Nat)) (hc : cut i = some L) (h1 : ∀ a w, L.1 a w → ∃ cut' : Nat → Option ((Act → World → Prop) × (Act → World → Nat)), Hold (vc P cut' x (Exit.then (fun a' w' => L.1 a' w' ∧ L.2 a' w' < L.2 a w) (Exit.inBlock i Q)) a w) ∧
    obl P cut' x (Exit.then (fun a' w' => L.1 a' w' ∧ L.2 a' w' < L.2 a w) (Exit.inBlock i Q)) True) (h : rest) : obl P cut (.block i (.loop x)) Q rest := by
  unfold obl; simp only [hc]
  exact ⟨fun a w hl => by obtain ⟨cut', h2, h3⟩ := h1 a w hl; exact ⟨cut', h2.out, h3⟩, h⟩
theorem obl_skip (h : rest) : obl P cut .skip Q rest := h
theorem obl_exit (h : rest) : obl P cut (.exit i) Q rest := h
theorem obl_label (h : rest) : obl P cut (.label i) Q rest := h
theorem obl_ret (h : rest) : obl P cut .ret Q rest := h
end

end Eng
end Go.Proofs.YthhbjhdnaopcnaaDoor
