/- What the law leans on, part 1. No condition. -/
import Derived.RangeFuncWrites
import Derived.RangeFuncCalls
import Derived.RangeFuncLeaves
import Derived.TacticsIn
import Derived.WalkKit
import Derived.Wp
import Derived.KernelRfl
import Derived.Deep.Quiet
import Derived.StillTail
import Derived.OrdersHeld
import Derived.Lib.BitFns
import Derived.Deep.Slices
import Derived.ChangeSlices
import Derived.SizedLaws
import Derived.Lib.SmallJoins
import Derived.Shelf.Spec.BitsCarry
import Derived.Laws.CopyRow
import Derived.Deep.Strs
import Derived.Lib.LaidTab
import Derived.Maps.AppendAt
import Derived.ProofKit
import Derived.OpenShut
import Derived.ShutString
import Derived.ChangeOld
import Derived.Below
import Derived.JoinedCond
import Derived.Deep.DeepHandedRow
import Derived.Test.YtahbekmnphkiiaaDoorCards
import Derived.Test.YtahbekmnphkiiaaDoorTie
import Derived.Test.YtahbekmnphkiiaaDoorIds
import Derived.Test.YtahbekmnphkiiaaDoorShelf
import Derived.Test.YtahbekmnphkiiaaDoorProg
import Derived.Test.YtahbekmnphkiiaaDoorTzL
import Derived.Test.YtahbekmnphkiiaaDoorWSized
namespace Go.Proofs.YtahbekmnphkiiaaDoor
open Go Go.RowKit
set_option linter.unusedVariables false
set_option linter.unusedSimpArgs false
namespace Eng

/-- A slice's header. -/
structure Slc where
  A : Option Addr
  n : Nat
  c : Nat
def Slc.v (s : Slc) : Value := .slice s.A s.n s.c

inductive Ty where
  | b | i (k : IntKind) | s | sl | p | pa | m | any | bad
  | ag (ts : List Ty) | tup (ts : List Ty)

mutual
def exV : Ty → (Value → Prop) → Prop
  | .b, p => ∃ x : Bool, p (.bool x)
  | .i k, p => ∃ x : Int, p (.int k x)
  | .s, p => ∃ x : ByteArray, p (.string x)
  | .sl, p => ∃ x : Slc, p x.v
  | .p, p => ∃ x : Option Addr, p (.pointer x)
  | .pa, p => ∃ x : Addr, p (.pointer (some x))
  | .m, p => ∃ x : Option Nat, p (.map x)
  | .any, p => ∃ x : Value, p x
  | .bad, _ => False
  | .ag ts, p => exL ts fun vs => p (.agg vs.toArray)
  | .tup ts, p => exL ts fun vs => p (.tuple vs.toArray)
def exL : List Ty → (List Value → Prop) → Prop
  | [], p => p []
  | t :: ts, p => exV t fun v => exL ts fun vs => p (v :: vs)
end

mutual
theorem exV_out : ∀ (t : Ty) (p : Value → Prop), exV t p → ∃ v, p v
  | .b, p, h => by rw [exV] at h; obtain ⟨x, h⟩ := h; exact ⟨_, h⟩
  | .i k, p, h => by rw [exV] at h; obtain ⟨x, h⟩ := h; exact ⟨_, h⟩
  | .s, p, h => by rw [exV] at h; obtain ⟨x, h⟩ := h; exact ⟨_, h⟩
  | .sl, p, h => by rw [exV] at h; obtain ⟨x, h⟩ := h; exact ⟨_, h⟩
  | .p, p, h => by rw [exV] at h; obtain ⟨x, h⟩ := h; exact ⟨_, h⟩
  | .pa, p, h => by rw [exV] at h; obtain ⟨x, h⟩ := h; exact ⟨_, h⟩
  | .m, p, h => by rw [exV] at h; obtain ⟨x, h⟩ := h; exact ⟨_, h⟩
  | .any, p, h => by rw [exV] at h; obtain ⟨x, h⟩ := h; exact ⟨_, h⟩
  | .bad, p, h => by rw [exV] at h; exact h.elim
  | .ag ts, p, h => by rw [exV] at h; obtain ⟨vs, _, h⟩ := exL_out ts _ h; exact ⟨_, h⟩
  | .tup ts, p, h => by rw [exV] at h; obtain ⟨vs, _, h⟩ := exL_out ts _ h; exact ⟨_, h⟩
theorem exL_out : ∀ (ts : List Ty) (p : List Value → Prop), exL ts p → ∃ vs, vs.length = ts.length ∧ p vs
  | [], p, h => by rw [exL] at h; exact ⟨[], rfl, h⟩
  | t :: ts, p, h => by
    rw [exL] at h
    obtain ⟨v, h⟩ := exV_out t _ h
    obtain ⟨vs, hl, h⟩ := exL_out ts _ h
    exact ⟨v :: vs, by simp [hl], h⟩
end

/-- What a type's values look like. -/
def tyF (P : Program) : Nat → TypeId → Ty
  | 0, _ => .bad
  | d + 1, t => match P.underlying t with
    | some .bool => .b
    | some (.int k) => .i k
    | some .string => .s
    | some (.slice _) => .sl
    | some (.pointer _) => .p
    | some (.func ..) => .any
    | some (.map ..) => .m
    | some (.tuple ts) => .tup (ts.toList.map (tyF P d))
    | some (.struct fs) => .ag (fs.toList.map fun f => match tyF P d f.type with | .ag ts => ts | ty => [ty]).flatten
    | some (.array n e) => .ag (List.replicate n (match tyF P d e with | .ag ts => ts | ty => [ty])).flatten
    | _ => .bad

def br (b : Bool) (X Y : Prop) : Prop := match b with | true => X | false => Y
theorem br_intro {b : Bool} {X Y : Prop} (h1 : b = true → X) (h2 : b = false → Y) : br b X Y := by cases b <;> simp_all [br]
theorem br_true {b : Bool} {X Y : Prop} (hb : b = true) (h : X) : br b X Y := by subst hb; exact h
theorem br_false {b : Bool} {X Y : Prop} (hb : b = false) (h : Y) : br b X Y := by subst hb; exact h
def onSome (p : Option Addr) (K : Addr → Prop) : Prop := match p with | some ad => K ad | none => False

def ldL (ad : Addr) (w : World) : Nat → List Ty → (List Value → Prop) → Prop
  | _, [], k => k []
  | i, t :: ts, k => exV t fun v => w.cell? (ad.add i) = some v ∧ ldL ad w (i + 1) ts fun vs => k (v :: vs)
def ldT (P : Program) (t : TypeId) (ad : Addr) (w : World) (k : Value → Prop) : Prop :=
  match P.underlying t with
  | some (.struct fs) => match tyF P 8 t with
    | .ag ts => match (P.info? t).map (·.size) == some ts.length with
      | true => ldL ad w 0 ts fun vs => k (.agg vs.toArray)
      | false => False
    | _ => False
  | some (.array n e) => match tyF P 8 t with
    | .ag ts => match (P.info? t).map (·.size) == some ts.length with
      | true => ldL ad w 0 ts fun vs => k (.agg vs.toArray)
      | false => False
    | _ => False
  | some d => exV (tyF P 8 t) fun v => w.cell? ad = some v ∧ k v
  | none => False

theorem ldL_run {P : Program} {ad : Addr} {w : World} : ∀ (ts : List Ty) (i : Nat) (k : List Value → Prop) (acc : Array Value), ldL ad w i ts k →
    ∃ vs, k vs ∧ (loadCellsFrom ad i ts.length acc).run P w = .ok (acc ++ vs.toArray) w
  | [], i, k, acc, h => ⟨[], h, by simp [loadCellsFrom]⟩
  | t :: ts, i, k, acc, h => by
    rw [ldL] at h
    obtain ⟨v, hc, h⟩ := exV_out _ _ h
    obtain ⟨vs, hk, hr⟩ := ldL_run (P := P) ts (i + 1) _ (acc.push v) h
    refine ⟨v :: vs, hk, ?_⟩
    simp only [List.length_cons, loadCellsFrom, Sem.run_bind, load, Sem.run, hc, Result.andThen, hr]
    simp

theorem ldT_run {P : Program} {t : TypeId} {ad : Addr} {w : World} {k : Value → Prop} (h : ldT P t ad w k) :
    ∃ v, k v ∧ (loadVar t ad).run P w = .ok v w := by
  unfold ldT at h
  have agg : ∀ ts : List Ty, (P.info? t).map (·.size) = some ts.length → ldL ad w 0 ts (fun vs => k (.agg vs.toArray)) → (isAgg t).run P w = .ok true w →
      ∃ v, k v ∧ (loadVar t ad).run P w = .ok v w := by
    intro ts hs hl ha
    obtain ⟨vs, hk, hr⟩ := ldL_run (P := P) ts 0 _ #[] hl
    refine ⟨_, hk, ?_⟩
    obtain ⟨inf, hi, hsz⟩ := Option.map_eq_some_iff.1 hs
    have hsize : (sizeOf t).run P w = .ok ts.length w := by
      simp [sizeOf, typeInfo, program, Sem.run, hi, hsz]
    simp only [loadVar, Sem.run_bind, ha, Result.andThen, if_true, hsize, loadCells, hr, Sem.run_pure]
    simp
  split at h
  · rename_i fs hu
    split at h
    · split at h
      · rename_i hb; exact agg _ (by simpa using hb) h (by simp [isAgg, underlying, program, Sem.run, hu])
      · exact h.elim
    · exact h.elim
  · rename_i n e hu
    split at h
    · split at h
      · rename_i hb; exact agg _ (by simpa using hb) h (by simp [isAgg, underlying, program, Sem.run, hu])
      · exact h.elim
    · exact h.elim
  · rename_i d hns hna hu
    obtain ⟨v, hc, hk⟩ := exV_out _ _ h
    refine ⟨v, hk, ?_⟩
    have ha : (isAgg t).run P w = .ok false w := by
      simp only [isAgg, underlying, program, Sem.run_bind, Sem.run, Result.andThen, hu]
      cases d <;> simp_all
    simp only [loadVar, Sem.run_bind, ha, Result.andThen, load, Sem.run, hc]
    simp [Sem.run, hc]
  · exact h.elim

def vcS (P : Program) {α : Type} : Sem α → (α → World → Prop) → World → Prop
  | .pure a, K, w => K a w
  | .load _ a k, K, w => ∃ v, w.cell? a = some v ∧ vcS P (k v) K w
  | .store _ a v k, K, w => match v.oneCell with
    | true => (∃ u, w.cell? a = some u) ∧ w.frozen? a = false ∧ vcS P k K (w.setCell a v)
    | false => False
  | .new o k, K, w => vcS P (k w.heap.size) K (w.alloc o)
  | .program k, K, w => vcS P (k P) K w
  | .mark _ k, K, w => vcS P k K w
  | _, _, _ => False

theorem vcS_sound {P : Program} {α : Type} {K : α → World → Prop} {E : Halt → World → Prop} : ∀ (e : Sem α) (w : World), vcS P e K w → e.wp P K E w := by
  intro e
  induction e with
  | pure a => intro w h; exact h
  | load m a k ih =>
    intro w h
    rw [vcS] at h
    obtain ⟨v, hc, h⟩ := h
    simp only [Sem.wp, hc]
    exact ih v w h
  | store m a v k ih =>
    intro w h
    rw [vcS] at h
    split at h
    · rename_i hv
      obtain ⟨⟨u, hu⟩, hf, h⟩ := h
      simp only [Sem.wp, hv, hu, hf, if_true]
      exact ih _ h
    · exact h.elim
  | new o k ih => intro w h; rw [vcS] at h; exact ih _ _ h
  | program k ih => intro w h; rw [vcS] at h; exact ih _ _ h
  | mark m k ih => intro w h; rw [vcS] at h; exact ih _ h
  | _ => intro w h; simp only [vcS] at h

/-- A run that may part, its value told by a type. -/
def semV (P : Program) (e : Sem Value) (ty : Ty) (w : World) (K : Value → World → Prop) : Prop :=
  e.wp P (fun v w' => exV ty fun u => v = u ∧ K u w') (fun _ _ => False) w

def entB (P : Program) (g : FuncId) : Bool := match P.funcs[g]? with
  | some fn => fn.body.isSome && !(fn.name == "runtime.NumGoroutine")
  | none => false

def isConstOp : Operand → Bool
  | .const _ => true
  | _ => false

/-- A call of a function value. -/
def callX (P : Program) (x : Value) (args : Array Value) (w : World) (K : Ending → World → Prop) : Prop := match x with
  | .func (.func g) first captured => match entB P g with
    | true => Calls P g (first ++ args ++ captured) w K
    | false => False
  | _ => False
/-- Is it a type of texts? -/
def isStr (P : Program) (t : TypeId) : Bool := match P.underlying t with
  | some .string => true
  | _ => false
/-- Is it a row that becomes a text? -/
def isByt (P : Program) (src dst : TypeId) : Bool := match P.underlying src, P.underlying dst with
  | some (.slice _), some .string => true
  | _, _ => false
def vcOp (P : Program) (o : Oper) (a : Act) (K : Act → World → Prop) (w : World) : Prop :=
  match o.op with
  | .move x => K (a.put o.dst (a.eval x)) w
  | .assign x => K (a.put o.dst (a.eval x)) w
  | .pick c x y => match a.eval c with
    | .bool b => br b (K (a.put o.dst (a.eval x)) w) (K (a.put o.dst (a.eval y)) w)
    | _ => False
  | .load t x => match a.eval x with
    | .pointer p => onSome p fun ad => ldT P t ad w fun v => K (a.put o.dst v) w
    | _ => False
  | .nilCheck x => match a.eval x with
    | .pointer p => onSome p fun ad => K (a.put o.dst (.pointer (some ad))) w
    | _ => False
  | .indexAddr t x ix => semV P (Instr.indexAt t (a.eval x) (a.eval ix)) .pa w fun v w' => K (a.put o.dst v) w'
  | .index t x ix => semV P (Instr.index t (a.eval x) (a.eval ix)) (tyF P 8 o.type) w fun v w' => K (a.put o.dst v) w'
  | .slice t x lo hi mx => semV P (Instr.sliceAt t (a.eval x) (lo.map a.eval) (hi.map a.eval) (mx.map a.eval)) (tyF P 8 o.type) w fun v w' => K (a.put o.dst v) w'
  | .makeSlice t l c => semV P (Instr.makeSlice t (a.eval l) (a.eval c)) .sl w fun v w' => K (a.put o.dst v) w'
  | .binOp .quo t x y u => match isConstOp y with
    | true => vcS P (execOp a.eval o) (fun n w' => match n with | .value v => K (a.put o.dst v) w' | _ => False) w
    | false => semV P (binOp .quo t (a.eval x) (a.eval y)) (tyF P 8 t) w fun v w' => K (a.put o.dst v) w'
  | .binOp .rem t x y u => match isConstOp y with
    | true => vcS P (execOp a.eval o) (fun n w' => match n with | .value v => K (a.put o.dst v) w' | _ => False) w
    | false => semV P (binOp .rem t (a.eval x) (a.eval y)) (tyF P 8 t) w fun v w' => K (a.put o.dst v) w'
  | .binOp .shl t x y u => match isConstOp y with
    | true => vcS P (execOp a.eval o) (fun n w' => match n with | .value v => K (a.put o.dst v) w' | _ => False) w
    | false => semV P (binOp .shl t (a.eval x) (a.eval y)) (tyF P 8 t) w fun v w' => K (a.put o.dst v) w'
  | .binOp .shr t x y u => match isConstOp y with
    | true => vcS P (execOp a.eval o) (fun n w' => match n with | .value v => K (a.put o.dst v) w' | _ => False) w
    | false => semV P (binOp .shr t (a.eval x) (a.eval y)) (tyF P 8 t) w fun v w' => K (a.put o.dst v) w'
  | .binOp .add t x y u => match isStr P t with
    | true => semV P (binOp .add t (a.eval x) (a.eval y)) .s w fun v w' => K (a.put o.dst v) w'
    | false => vcS P (execOp a.eval o) (fun n w' => match n with | .value v => K (a.put o.dst v) w' | _ => False) w
  | .convert src dst x => match isByt P src dst with
    | true => semV P (convert src dst (a.eval x)) .s w fun v w' => K (a.put o.dst v) w'
    | false => vcS P (execOp a.eval o) (fun n w' => match n with | .value v => K (a.put o.dst v) w' | _ => False) w
  | .binOp .eql t x (.const (.pointer none)) _ => match a.eval x with
    | .pointer p => match P.underlying t with
      | some (.pointer _) => K (a.put o.dst (.bool p.isNone)) w
      | _ => False
    | _ => False
  | .binOp .neq t x (.const (.pointer none)) _ => match a.eval x with
    | .pointer p => match P.underlying t with
      | some (.pointer _) => K (a.put o.dst (.bool p.isSome)) w
      | _ => False
    | _ => False
  | .binOp .eql t x (.const .nilFunc) _ => semV P (binOp .eql t (a.eval x) .nilFunc) .b w fun v w' => K (a.put o.dst v) w'
  | .makeMap t none => semV P (Instr.makeMap t none) .m w fun v w' => K (a.put o.dst v) w'
  | .lookup t x ix ok => semV P (Instr.lookup t (a.eval x) (a.eval ix) ok) (tyF P 8 o.type) w fun v w' => K (a.put o.dst v) w'
  | .mapUpdate t m k x => (Instr.mapUpdate t (a.eval m) (a.eval k) (a.eval x)).wp P (fun _ w' => K (a.put o.dst undef) w') (fun _ _ => False) w
  | .call { callee := .builtin .append, args, argTypes } => semV P (Builtin.append_ argTypes o.type (args.map a.eval)) .sl w fun v w' => K (a.put o.dst v) w'
  | .call { callee := .builtin .copy, args, argTypes } => semV P (Builtin.copy_ argTypes o.type (args.map a.eval)) (.i .i64) w fun v w' => K (a.put o.dst v) w'
  | .call { callee := .value (.tmp t), args, .. } => callX P (a.eval (.tmp t)) (args.map a.eval) w fun e w' => exV (tyF P 8 o.type) fun v => e = .returned v ∧ K (a.put o.dst v) w'
  | .call { callee := .value f, args, .. } => match a.eval f with
    | .func (.func g) first captured => match entB P g with
      | true => Calls P g (first ++ args.map a.eval ++ captured) w fun e w' => exV (tyF P 8 o.type) fun v => e = .returned v ∧ K (a.put o.dst v) w'
      | false => (callFunc g (first ++ args.map a.eval ++ captured)).wp P (fun n w' => exV (tyF P 8 o.type) fun v => n = .value v ∧ K (a.put o.dst v) w') (fun _ _ => False) w
    | _ => False
  | _ => vcS P (execOp a.eval o) (fun n w' => match n with
    | .value v => K (a.put o.dst v) w'
    | .skip => K (a.put o.dst undef) w'
    | _ => False) w

theorem upon_of_wp {P : Program} {o : Oper} {a : Act} {K : Act → World → Prop} {Q : Exit → Act → World → Prop} {w : World}
    (h : (execOp a.eval o).wp P (fun n w' => match n with
      | .value v => K (a.put o.dst v) w'
      | .skip => K (a.put o.dst undef) w'
      | .enter f args => Calls P f args w' fun e w'' => ∃ v, e = .returned v ∧ K (a.put o.dst v) w''
      | _ => False) (fun _ _ => False) w) : o.wp P a w K Q := by
  rw [Sem.wp_iff_run] at h
  unfold Oper.wp
  generalize (execOp a.eval o).run P w = r at h
  cases r with
  | halt x w' => exact h.elim
  | ok n w' =>
    simp only [Result.sat] at h
    cases n <;> simp only [Oper.upon]
    case enter f args => exact Calls.mono h fun e w'' ⟨v, he, hk⟩ => by subst he; exact hk
    all_goals first | exact h | exact False.elim h

theorem wp_val {P : Program} {o : Oper} {a : Act} {K : Act → World → Prop} {Q : Exit → Act → World → Prop} {w : World} (e : Sem Value)
    (he : execOp a.eval o = (do pure (.value (← e)))) (h : e.wp P (fun v w' => K (a.put o.dst v) w') (fun _ _ => False) w) : o.wp P a w K Q := by
  refine upon_of_wp ?_
  rw [he]
  rw [Sem.wp_iff_run] at h ⊢
  simp only [Sem.run_bind]
  generalize e.run P w = r at h
  cases r with
  | halt x w' => exact h.elim
  | ok n w' => exact h

theorem wp_semV {P : Program} {o : Oper} {a : Act} {K : Act → World → Prop} {Q : Exit → Act → World → Prop} {w : World} (e : Sem Value) {ty : Ty}
    (he : execOp a.eval o = (do pure (.value (← e)))) (h : semV P e ty w fun v w' => K (a.put o.dst v) w') : o.wp P a w K Q := by
  refine wp_val e he ?_
  unfold semV at h
  rw [Sem.wp_iff_run] at h ⊢
  generalize e.run P w = r at h
  cases r with
  | halt x w' => exact h.elim
  | ok n w' =>
    obtain ⟨u, hu, hk⟩ := exV_out _ _ h
    subst hu
    exact hk

theorem wp_semV' {P : Program} {o : Oper} {a : Act} {K : Act → World → Prop} {Q : Exit → Act → World → Prop} {w : World} (e : Sem Value) (v : Value)
    (he : execOp a.eval o = (do pure (.value (← e)))) (hr : e.run P w = .ok v w) (h : K (a.put o.dst v) w) : o.wp P a w K Q := by
  refine wp_val e he ?_
  rw [Sem.wp_iff_run, hr]
  exact h

theorem wp_vcS {P : Program} {o : Oper} {a : Act} {K : Act → World → Prop} {Q : Exit → Act → World → Prop} {w : World}
    (h : vcS P (execOp a.eval o) (fun n w' => match n with
      | .value v => K (a.put o.dst v) w'
      | .skip => K (a.put o.dst undef) w'
      | _ => False) w) : o.wp P a w K Q := by
  refine upon_of_wp ?_
  have := vcS_sound (E := fun _ _ => False) _ _ h
  rw [Sem.wp_iff_run] at this ⊢
  generalize (execOp a.eval o).run P w = r at this
  cases r with
  | halt x w' => exact this.elim
  | ok n w' => cases n <;> first | exact this | exact False.elim this

theorem wp_vcSv {P : Program} {o : Oper} {a : Act} {K : Act → World → Prop} {Q : Exit → Act → World → Prop} {w : World}
    (h : vcS P (execOp a.eval o) (fun n w' => match n with
      | .value v => K (a.put o.dst v) w'
      | _ => False) w) : o.wp P a w K Q := by
  refine upon_of_wp ?_
  have := vcS_sound (E := fun _ _ => False) _ _ h
  rw [Sem.wp_iff_run] at this ⊢
  generalize (execOp a.eval o).run P w = r at this
  cases r with
  | halt x w' => exact this.elim
  | ok n w' => cases n <;> first | exact this | exact False.elim this

theorem run_callFunc_ent {P : Program} {g : FuncId} (h : entB P g = true) (args : Array Value) (w : World) : (callFunc g args).run P w = .ok (.enter g args) w := by
  unfold entB at h
  split at h
  · rename_i fn hf
    simp only [Bool.and_eq_true, Bool.not_eq_true'] at h
    have h1 : fn.name ≠ "runtime.NumGoroutine" := by simpa using h.2
    have h2 : fn.body.isNone = false := by simpa [Option.isNone_eq_false_iff] using h.1
    simp [callFunc, program, Sem.run, hf, h1]
    intro hb
    simp [hb] at h2
  · cases h

theorem vcOp_sound {P : Program} {o : Oper} {a : Act} {K : Act → World → Prop} {Q : Exit → Act → World → Prop} {w : World}
    (h : vcOp P o a K w) : o.wp P a w K Q := by
  unfold vcOp at h
  split at h
  · rename_i x ho; exact wp_val (pure (a.eval x)) (by simp [execOp, ho]) h
  · rename_i x ho; exact wp_val (pure (a.eval x)) (by simp [execOp, ho]) h
  · rename_i c x y ho
    split at h
    · rename_i b hb
      refine wp_val (pure (if b = true then a.eval x else a.eval y)) (by simp [execOp, ho, hb, asBool]) ?_
      cases b <;> exact h
    · exact h.elim
  · rename_i t x ho
    split at h
    · rename_i p hp
      cases p with
      | none => exact h.elim
      | some ad =>
        obtain ⟨v, hk, hr⟩ := ldT_run (show ldT P t ad w (fun v => K (a.put o.dst v) w) from h)
        refine wp_val (loadVar t ad) (by simp [execOp, ho, hp, Instr.loadAt, Instr.sureAddr]) ?_
        rw [Sem.wp_iff_run, hr]
        exact hk
    · exact h.elim
  · rename_i x ho
    split at h
    · rename_i p hp
      cases p with
      | none => exact h.elim
      | some ad => exact wp_val (pure (.pointer (some ad))) (by simp [execOp, ho, hp]) h
    · exact h.elim
  · rename_i t x ix ho; exact wp_semV _ (by simp [execOp, ho]) h
  · rename_i t x ix ho; exact wp_semV _ (by simp [execOp, ho]) h
  · rename_i t x lo hi mx ho; exact wp_semV _ (by simp [execOp, ho]) h
  · rename_i t l c ho; exact wp_semV _ (by simp [execOp, ho]) h
  · rename_i t x y u ho
    split at h
    · exact wp_vcSv h
    · exact wp_semV _ (by simp [execOp, ho, eqGuard]) h
  · rename_i t x y u ho
    split at h
    · exact wp_vcSv h
    · exact wp_semV _ (by simp [execOp, ho, eqGuard]) h
  · rename_i t x y u ho
    split at h
    · exact wp_vcSv h
    · exact wp_semV _ (by simp [execOp, ho, eqGuard]) h
  · rename_i t x y u ho
    split at h
    · exact wp_vcSv h
    · exact wp_semV _ (by simp [execOp, ho, eqGuard]) h
  · rename_i t x y u ho
    split at h
    · exact wp_semV _ (by simp [execOp, ho, eqGuard]) h
    · exact wp_vcSv h
  · rename_i src dst x ho
    split at h
    · exact wp_semV _ (by simp [execOp, ho]) h
    · exact wp_vcSv h
  · rename_i t x u ho
    split at h
    · rename_i p hp
      split at h
      · rename_i e hu
        have hv : a.eval (.const (.pointer none)) = .pointer none := rfl
        have hu' : P.underlying t = some (.pointer (P.pointee t)) := by rw [hu]; simp [Program.pointee, hu]
        exact wp_semV' (binOp .eql t (.pointer p) (.pointer none)) _ (by simp [execOp, ho, hp, hv, eqGuard]) (run_eql_pointer_nil w t p hu') h
      · exact h.elim
    · exact h.elim
  · rename_i t x u ho
    split at h
    · rename_i p hp
      split at h
      · rename_i e hu
        have hv : a.eval (.const (.pointer none)) = .pointer none := rfl
        have hu' : P.underlying t = some (.pointer (P.pointee t)) := by rw [hu]; simp [Program.pointee, hu]
        exact wp_semV' (binOp .neq t (.pointer p) (.pointer none)) _ (by simp [execOp, ho, hp, hv, eqGuard]) (by rw [run_neq_pointer_nil w t p hu']; cases p <;> rfl) h
      · exact h.elim
    · exact h.elim
  · rename_i t x u ho; exact wp_semV _ (by simp [execOp, ho, eqGuard, show a.eval (.const .nilFunc) = .nilFunc from rfl]) h
  · rename_i t ho; exact wp_semV _ (by simp [execOp, ho]) h
  · rename_i t x ix ok ho; exact wp_semV _ (by simp [execOp, ho]) h
  · rename_i t m k x ho
    have he : execOp a.eval o = (do let _ ← Instr.mapUpdate t (a.eval m) (a.eval k) (a.eval x); pure .skip) := by simp [execOp, ho]
    unfold Oper.wp
    rw [he, Sem.run_bind]
    rw [Sem.wp_iff_run] at h
    generalize (Instr.mapUpdate t (a.eval m) (a.eval k) (a.eval x)).run P w = r at h
    cases r with
    | ok u w' => exact h
    | halt x w' => exact h.elim
  · rename_i args ts ho; exact wp_semV _ (by simp [execOp, ho, resolve, invoke, builtin]) h
  · rename_i args ts ho; exact wp_semV _ (by simp [execOp, ho, resolve, invoke, builtin]) h
  · rename_i t args ts ho
    unfold callX at h
    split at h
    · rename_i g first captured hf
      have hx : execOp a.eval o = callFunc g (first ++ args.map a.eval ++ captured) := by
        simp [execOp, ho, resolve, invoke, Deferred.ofValue, hf]
      split at h
      · rename_i he
        refine upon_of_wp ?_
        rw [hx, Sem.wp_iff_run, run_callFunc_ent he]
        exact Calls.mono h fun e w' hv => exV_out _ _ hv
      · exact h.elim
    · exact h.elim
  · rename_i f args ts hno ho
    split at h
    · rename_i g first captured hf
      have hx : execOp a.eval o = callFunc g (first ++ args.map a.eval ++ captured) := by
        simp [execOp, ho, resolve, invoke, Deferred.ofValue, hf]
      split at h
      · rename_i he
        refine upon_of_wp ?_
        rw [hx, Sem.wp_iff_run, run_callFunc_ent he]
        exact Calls.mono h fun e w' hv => exV_out _ _ hv
      · refine upon_of_wp ?_
        rw [hx]
        rw [Sem.wp_iff_run] at h ⊢
        generalize (callFunc g (first ++ args.map a.eval ++ captured)).run P w = r at h
        cases r with
        | halt x w' => exact h.elim
        | ok n w' =>
          obtain ⟨v, hn, hk⟩ := exV_out _ _ h
          subst hn
          exact hk
    · exact h.elim
  · exact wp_vcS h

def isWant (want b : Bool) (X Y : Prop) : Prop := match want, b with
  | true, true => X
  | false, false => X
  | _, _ => Y

def vcOps (P : Program) (ops : Array Oper) (Q : Exit → Act → World → Prop) : List Oper → Act → World → Prop
  | [], a, w => Q .normal a w
  | o :: rest, a, w => match o.guard with
    | none => vcOp P o a (vcOps P ops Q rest) w
    | some (j, want) => match (ops[j]?).bind (·.dst) with
      | some d => match a.tmps[d]? with
        | some (.bool b) => br b
            (isWant want true (vcOp P o (a.put (some d) (.bool true)) (vcOps P ops Q rest) w) (vcOps P ops Q rest ((a.put (some d) (.bool true)).put o.dst undef) w))
            (isWant want false (vcOp P o (a.put (some d) (.bool false)) (vcOps P ops Q rest) w) (vcOps P ops Q rest ((a.put (some d) (.bool false)).put o.dst undef) w))
        | _ => vcOps P ops Q rest (a.put o.dst undef) w
      | none => vcOps P ops Q rest (a.put o.dst undef) w

theorem put_same {a : Act} {d : Nat} {v : Value} (h : a.tmps[d]? = some v) : a.put (some d) v = a := by
  have : a.tmps.setIfInBounds d v = a.tmps := by
    apply Array.ext_getElem?
    intro i
    rw [Array.getElem?_setIfInBounds]
    split
    · rename_i e
      subst e
      split
      · exact h.symm
      · rename_i hn; rw [Array.getElem?_eq_none (by omega)] at h; cases h
    · rfl
  simp [Act.put, this]

theorem vcOps_sound {P : Program} {ops : Array Oper} {Q : Exit → Act → World → Prop} : ∀ (l : List Oper) (a : Act) (w : World), vcOps P ops Q l a w → wpList P ops Q l a w
  | [], _, _, h => h
  | o :: rest, a, w, h => by
    have ih := vcOps_sound (P := P) (ops := ops) (Q := Q) rest
    have hK : ∀ a w, vcOp P o a (vcOps P ops Q rest) w → o.wp P a w (wpList P ops Q rest) Q := fun a w h => by
      have := vcOp_sound (Q := Q) h
      unfold Oper.wp at this ⊢
      generalize (execOp a.eval o).run P w = r at this
      cases r with
      | halt x w' => cases x <;> exact this
      | ok n w' =>
        cases n <;> simp only [Oper.upon] at this ⊢
        case enter f args =>
          refine Calls.mono this fun e w'' hv => ?_
          cases e <;> first | exact ih _ _ hv | exact hv
        case row row args => exact Rows.mono this fun v w'' hv => ih _ _ hv
        all_goals first | exact ih _ _ this | exact this
    unfold wpList
    rw [vcOps] at h
    have hskip : ∀ a : Act, Region.wanted o (yielded ops a.tmps) = false → vcOps P ops Q rest (a.put o.dst undef) w → (if Region.wanted o (yielded ops a.tmps) then o.wp P a w (wpList P ops Q rest) Q ∨ (o.asks P a w ∧ LetsOut Q) else wpList P ops Q rest (a.put o.dst undef) w) := by
      intro a hw h
      rw [if_neg (by simp [hw])]
      exact ih _ _ h
    split at h
    · rename_i hg
      rw [if_pos (by simp [Region.wanted, hg])]
      exact .inl (hK _ _ h)
    · rename_i j want hg
      split at h
      · rename_i d hd
        split at h
        · rename_i b hb
          have hy : yielded ops a.tmps j = some b := by simp [yielded, hd, hb]
          have hwant : Region.wanted o (yielded ops a.tmps) = (b == want) := by simp [Region.wanted, hg, hy]
          cases b
          · rw [br, put_same hb] at h
            cases want
            · rw [if_pos (by simp [hwant])]
              exact .inl (hK _ _ h)
            · exact hskip a (by simp [hwant]) h
          · rw [br, put_same hb] at h
            cases want
            · exact hskip a (by simp [hwant]) h
            · rw [if_pos (by simp [hwant])]
              exact .inl (hK _ _ h)
        · rename_i hb
          refine hskip a ?_ h
          have hy : yielded ops a.tmps j = none := by
            simp only [yielded, hd, Option.bind_some]
            all_goals
              generalize a.tmps[d]? = v at hb
              cases v with
              | none => rfl
              | some v => cases v <;> first | rfl | exact absurd rfl (hb _)
          simp [Region.wanted, hg, hy]
      · rename_i hd
        refine hskip a ?_ h
        have hy : yielded ops a.tmps j = none := by simp [yielded, hd]
        simp [Region.wanted, hg, hy]

def Ahead (w w' : World) : Prop := Below w.heap.size w w'
theorem Ahead.refl (w : World) : Ahead w w := Below.refl _ _
theorem Ahead.trans {a b c : World} (h : Ahead a b) (k : Ahead b c) : Ahead a c := Below.trans h (k.mono h.size)
theorem Ahead.cell {w w' : World} (h : Ahead w w') {ad : Addr} {v : Value} (hc : w.cell? ad = some v) : w'.cell? ad = some v := by
  have hb : ad.block < w.heap.size := by
    unfold World.cell? at hc
    split at hc
    · rename_i hh; exact (Array.getElem?_eq_some_iff.1 hh).1
    · cases hc
  rw [Below.cell h hb]; exact hc

def pureRun (P : Program) {α : Type} : Sem α → Option α
  | .pure a => some a
  | .program k => pureRun P (k P)
  | .mark _ k => pureRun P k
  | _ => none
theorem pureRun_run {P : Program} {α : Type} (w : World) : ∀ (e : Sem α) (v : α), pureRun P e = some v → e.run P w = .ok v w := by
  intro e
  induction e with
  | pure a => intro v h; simp only [pureRun, Option.some.injEq] at h; subst h; rfl
  | program k ih => intro v h; rw [pureRun] at h; exact ih _ v h
  | mark m k ih => intro v h; rw [pureRun] at h; exact ih v h
  | _ => intro v h; simp [pureRun] at h

/-- A run that comes to one value, in every world ahead of this one, and leaves it alone. -/
def fixV (P : Program) (e : Sem Value) (ty : Ty) (w : World) (K : Value → Prop) : Prop :=
  exV ty fun v => (∀ w', Ahead w w' → e.run P w' = .ok v w') ∧ K v

/-- A run that comes to one value, in every world, and leaves it alone. -/
def anyV (P : Program) (e : Sem Value) (ty : Ty) (K : Value → Prop) : Prop :=
  exV ty fun v => (∀ w', e.run P w' = .ok v w') ∧ K v

def vcQOp (P : Program) (o : Oper) (a : Act) (w : World) (K : Act → Prop) : Prop :=
  match o.op with
  | .pick c x y => match a.eval c with
    | .bool b => br b (K (a.put o.dst (a.eval x))) (K (a.put o.dst (a.eval y)))
    | _ => False
  | .load t x => match a.eval x with
    | .pointer p => onSome p fun ad => ldT P t ad w fun v => K (a.put o.dst v)
    | _ => False
  | .nilCheck x => match a.eval x with
    | .pointer p => onSome p fun ad => K (a.put o.dst (.pointer (some ad)))
    | _ => False
  | .indexAddr t x ix => fixV P (Instr.indexAt t (a.eval x) (a.eval ix)) .pa w fun v => K (a.put o.dst v)
  | .index t x ix => fixV P (Instr.index t (a.eval x) (a.eval ix)) (tyF P 8 o.type) w fun v => K (a.put o.dst v)
  | .slice t x lo hi mx => fixV P (Instr.sliceAt t (a.eval x) (lo.map a.eval) (hi.map a.eval) (mx.map a.eval)) (tyF P 8 o.type) w fun v => K (a.put o.dst v)
  | .binOp .quo t x y _ => match isConstOp y with
    | true => match pureRun P (execOp a.eval o) with
      | some (.value v) => K (a.put o.dst v)
      | _ => False
    | false => fixV P (binOp .quo t (a.eval x) (a.eval y)) (tyF P 8 t) w fun v => K (a.put o.dst v)
  | .binOp .rem t x y _ => match isConstOp y with
    | true => match pureRun P (execOp a.eval o) with
      | some (.value v) => K (a.put o.dst v)
      | _ => False
    | false => fixV P (binOp .rem t (a.eval x) (a.eval y)) (tyF P 8 t) w fun v => K (a.put o.dst v)
  | .binOp .shl t x y _ => match isConstOp y with
    | true => match pureRun P (execOp a.eval o) with
      | some (.value v) => K (a.put o.dst v)
      | _ => False
    | false => fixV P (binOp .shl t (a.eval x) (a.eval y)) (tyF P 8 t) w fun v => K (a.put o.dst v)
  | .binOp .shr t x y _ => match isConstOp y with
    | true => match pureRun P (execOp a.eval o) with
      | some (.value v) => K (a.put o.dst v)
      | _ => False
    | false => fixV P (binOp .shr t (a.eval x) (a.eval y)) (tyF P 8 t) w fun v => K (a.put o.dst v)
  | .call { callee := .value f, args, .. } => match a.eval f with
    | .func (.func g) first captured => match entB P g with
      | true => exV (tyF P 8 o.type) fun v => (∀ w', Ahead w w' → Calls P g (first ++ args.map a.eval ++ captured) w' fun e w'' => e = .returned v ∧ Ahead w' w'') ∧ K (a.put o.dst v)
      | false => False
    | _ => False
  | _ => match pureRun P (execOp a.eval o) with
    | some (.value v) => K (a.put o.dst v)
    | _ => False

def vcQ (P : Program) (ops : Array Oper) (w : World) (Q : Act → Prop) : List Oper → Act → Prop
  | [], a => Q a
  | o :: rest, a => match o.guard with
    | none => vcQOp P o a w (vcQ P ops w Q rest)
    | some (j, want) => match (ops[j]?).bind (·.dst) with
      | some d => match a.tmps[d]? with
        | some (.bool b) => br b
            (isWant want true (vcQOp P o (a.put (some d) (.bool true)) w (vcQ P ops w Q rest)) (vcQ P ops w Q rest ((a.put (some d) (.bool true)).put o.dst undef)))
            (isWant want false (vcQOp P o (a.put (some d) (.bool false)) w (vcQ P ops w Q rest)) (vcQ P ops w Q rest ((a.put (some d) (.bool false)).put o.dst undef)))
        | _ => vcQ P ops w Q rest (a.put o.dst undef)
      | none => vcQ P ops w Q rest (a.put o.dst undef)

theorem quiet_val {P : Program} {o : Oper} {a : Act} {w : World} {K : Act → Prop} (e : Sem Value) (v : Value)
    (he : execOp a.eval o = (do pure (.value (← e)))) (hr : ∀ w', Ahead w w' → e.run P w' = .ok v w') (hk : K (a.put o.dst v)) : o.quiet P a (Ahead w) K := by
  refine ⟨v, fun w' hw => ?_, hk⟩
  unfold Oper.quietAt
  rw [he]
  simp [Sem.run_bind, hr w' hw, Result.andThen, Oper.quietUpon]

theorem ldL_ahead {P : Program} {ad : Addr} {w : World} : ∀ (ts : List Ty) (i : Nat) (k : List Value → Prop), ldL ad w i ts k →
    ∃ vs, k vs ∧ ∀ (acc : Array Value) (w' : World), Ahead w w' → (loadCellsFrom ad i ts.length acc).run P w' = .ok (acc ++ vs.toArray) w'
  | [], i, k, h => ⟨[], h, by simp [loadCellsFrom]⟩
  | t :: ts, i, k, h => by
    rw [ldL] at h
    obtain ⟨v, hc, h⟩ := exV_out _ _ h
    obtain ⟨vs, hk, hr⟩ := ldL_ahead (P := P) ts (i + 1) _ h
    refine ⟨v :: vs, hk, fun acc w' hw => ?_⟩
    simp only [List.length_cons, loadCellsFrom, Sem.run_bind, load, Sem.run, hw.cell hc, Result.andThen, hr _ w' hw]
    simp

theorem ldT_ahead {P : Program} {t : TypeId} {ad : Addr} {w : World} {k : Value → Prop} (h : ldT P t ad w k) :
    ∃ v, k v ∧ ∀ w', Ahead w w' → (loadVar t ad).run P w' = .ok v w' := by
  unfold ldT at h
  have agg : ∀ ts : List Ty, (P.info? t).map (·.size) = some ts.length → ldL ad w 0 ts (fun vs => k (.agg vs.toArray)) → (∀ w', (isAgg t).run P w' = .ok true w') →
      ∃ v, k v ∧ ∀ w', Ahead w w' → (loadVar t ad).run P w' = .ok v w' := by
    intro ts hs hl ha
    obtain ⟨vs, hk, hr⟩ := ldL_ahead (P := P) ts 0 _ hl
    refine ⟨_, hk, fun w' hw => ?_⟩
    obtain ⟨inf, hi, hsz⟩ := Option.map_eq_some_iff.1 hs
    have hsize : (sizeOf t).run P w' = .ok ts.length w' := by
      simp [sizeOf, typeInfo, program, Sem.run, hi, hsz]
    simp only [loadVar, Sem.run_bind, ha, Result.andThen, if_true, hsize, loadCells, hr _ w' hw, Sem.run_pure]
    simp
  split at h
  · rename_i fs hu
    split at h
    · split at h
      · rename_i hb; exact agg _ (by simpa using hb) h (fun w' => by simp [isAgg, underlying, program, Sem.run, hu])
      · exact h.elim
    · exact h.elim
  · rename_i n e hu
    split at h
    · split at h
      · rename_i hb; exact agg _ (by simpa using hb) h (fun w' => by simp [isAgg, underlying, program, Sem.run, hu])
      · exact h.elim
    · exact h.elim
  · rename_i d hns hna hu
    obtain ⟨v, hc, hk⟩ := exV_out _ _ h
    refine ⟨v, hk, fun w' hw => ?_⟩
    have ha : (isAgg t).run P w' = .ok false w' := by
      simp only [isAgg, underlying, program, Sem.run_bind, Sem.run, Result.andThen, hu]
      cases d <;> simp_all
    have hc' := hw.cell hc
    simp only [loadVar, Sem.run_bind, ha, Result.andThen, load, Sem.run]
    simp [Sem.run, hc']
  · exact h.elim

theorem quiet_fix {P : Program} {o : Oper} {a : Act} {w : World} {K : Act → Prop} (e : Sem Value) {ty : Ty}
    (he : execOp a.eval o = (do pure (.value (← e)))) (h : fixV P e ty w fun v => K (a.put o.dst v)) : o.quiet P a (Ahead w) K := by
  obtain ⟨v, hr, hk⟩ := exV_out _ _ h
  exact quiet_val e v he hr hk

theorem quiet_pure {P : Program} {o : Oper} {a : Act} {w : World} {K : Act → Prop}
    (h : match pureRun P (execOp a.eval o) with
      | some (.value v) => K (a.put o.dst v)
      | _ => False) : o.quiet P a (Ahead w) K := by
  split at h
  · rename_i v hv
    refine ⟨v, fun w' _ => ?_, h⟩
    unfold Oper.quietAt
    rw [pureRun_run w' _ _ hv]
    exact ⟨rfl, rfl⟩
  · exact h.elim

theorem vcQOp_sound {P : Program} {o : Oper} {a : Act} {w : World} {K : Act → Prop} (h : vcQOp P o a w K) : o.quiet P a (Ahead w) K := by
  unfold vcQOp at h
  split at h
  · rename_i c x y ho
    split at h
    · rename_i b hb
      refine quiet_val (pure (if b = true then a.eval x else a.eval y)) _ (by simp [execOp, ho, hb, asBool]) (fun w' _ => rfl) ?_
      cases b <;> exact h
    · exact h.elim
  · rename_i t x ho
    split at h
    · rename_i p hp
      cases p with
      | none => exact h.elim
      | some ad =>
        obtain ⟨v, hk, hr⟩ := ldT_ahead (show ldT P t ad w (fun v => K (a.put o.dst v)) from h)
        exact quiet_val (loadVar t ad) v (by simp [execOp, ho, hp, Instr.loadAt, Instr.sureAddr]) hr hk
    · exact h.elim
  · rename_i x ho
    split at h
    · rename_i p hp
      cases p with
      | none => exact h.elim
      | some ad => exact quiet_val (pure (.pointer (some ad))) _ (by simp [execOp, ho, hp]) (fun w' _ => rfl) h
    · exact h.elim
  · rename_i t x ix ho; exact quiet_fix _ (by simp [execOp, ho]) h
  · rename_i t x ix ho; exact quiet_fix _ (by simp [execOp, ho]) h
  · rename_i t x lo hi mx ho; exact quiet_fix _ (by simp [execOp, ho]) h
  · rename_i t x y u ho
    split at h
    · exact quiet_pure h
    · exact quiet_fix _ (by simp [execOp, ho, eqGuard]) h
  · rename_i t x y u ho
    split at h
    · exact quiet_pure h
    · exact quiet_fix _ (by simp [execOp, ho, eqGuard]) h
  · rename_i t x y u ho
    split at h
    · exact quiet_pure h
    · exact quiet_fix _ (by simp [execOp, ho, eqGuard]) h
  · rename_i t x y u ho
    split at h
    · exact quiet_pure h
    · exact quiet_fix _ (by simp [execOp, ho, eqGuard]) h
  · rename_i f args ts ho
    split at h
    · rename_i g first captured hf
      have hx : execOp a.eval o = callFunc g (first ++ args.map a.eval ++ captured) := by
        simp [execOp, ho, resolve, invoke, Deferred.ofValue, hf]
      split at h
      · rename_i he
        obtain ⟨v, hc, hk⟩ := exV_out _ _ h
        refine ⟨v, fun w' hw => ?_, hk⟩
        unfold Oper.quietAt
        rw [hx, run_callFunc_ent he]
        exact ⟨rfl, Calls.mono (hc w' hw) fun e w'' ⟨h1, h2⟩ => ⟨h1, hw.trans h2⟩⟩
      · exact h.elim
    · exact h.elim
  · exact quiet_pure h

theorem vcQ_sound {P : Program} {ops : Array Oper} {w : World} {Q : Act → Prop} : ∀ (l : List Oper) (a : Act), vcQ P ops w Q l a → wpQuiet P ops (Ahead w) Q l a
  | [], _, h => h
  | o :: rest, a, h => by
    have ih := vcQ_sound (P := P) (ops := ops) (w := w) (Q := Q) rest
    have hK : ∀ a, vcQOp P o a w (vcQ P ops w Q rest) → o.quiet P a (Ahead w) (wpQuiet P ops (Ahead w) Q rest) := fun a h =>
      Oper.quiet_mono ih (vcQOp_sound h)
    unfold wpQuiet
    rw [vcQ] at h
    have hskip : ∀ a : Act, Region.wanted o (yielded ops a.tmps) = false → vcQ P ops w Q rest (a.put o.dst undef) → (if Region.wanted o (yielded ops a.tmps) then o.quiet P a (Ahead w) (wpQuiet P ops (Ahead w) Q rest) else wpQuiet P ops (Ahead w) Q rest (a.put o.dst undef)) := by
      intro a hw h
      rw [if_neg (by simp [hw])]
      exact ih _ h
    split at h
    · rename_i hg
      rw [if_pos (by simp [Region.wanted, hg])]
      exact hK _ h
    · rename_i j want hg
      split at h
      · rename_i d hd
        split at h
        · rename_i b hb
          have hy : yielded ops a.tmps j = some b := by simp [yielded, hd, hb]
          have hwant : Region.wanted o (yielded ops a.tmps) = (b == want) := by simp [Region.wanted, hg, hy]
          cases b
          · rw [br, put_same hb] at h
            cases want
            · rw [if_pos (by simp [hwant])]
              exact hK _ h
            · exact hskip a (by simp [hwant]) h
          · rw [br, put_same hb] at h
            cases want
            · exact hskip a (by simp [hwant]) h
            · rw [if_pos (by simp [hwant])]
              exact hK _ h
        · rename_i hb
          refine hskip a ?_ h
          have hy : yielded ops a.tmps j = none := by
            simp only [yielded, hd, Option.bind_some]
            all_goals
              generalize a.tmps[d]? = v at hb
              cases v with
              | none => rfl
              | some v => cases v <;> first | rfl | exact absurd rfl (hb _)
          simp [Region.wanted, hg, hy]
      · rename_i hd
        refine hskip a ?_ h
        have hy : yielded ops a.tmps j = none := by simp [yielded, hd]
        simp [Region.wanted, hg, hy]

/-- Is it a call of a function? -/
def isCall : Op → Bool
  | .call { callee := .value _, .. } => true
  | _ => false

theorem vcQOp_val {P : Program} {o : Oper} {a : Act} {w : World} {K : Act → Prop} (hn : isCall o.op = false) (h : vcQOp P o a w K) :
    ∃ v, (∀ w', Ahead w w' → (execOp a.eval o).run P w' = .ok (.value v) w') ∧ K (a.put o.dst v) := by
  have val : ∀ (e : Sem Value) (v : Value), execOp a.eval o = (do pure (.value (← e))) → (∀ w', Ahead w w' → e.run P w' = .ok v w') → K (a.put o.dst v) →
      ∃ v, (∀ w', Ahead w w' → (execOp a.eval o).run P w' = .ok (.value v) w') ∧ K (a.put o.dst v) := by
    intro e v he hr hk
    refine ⟨v, fun w' hw => ?_, hk⟩
    rw [he]
    simp [Sem.run_bind, hr w' hw, Result.andThen]
  have fix : ∀ (e : Sem Value) (ty : Ty), execOp a.eval o = (do pure (.value (← e))) → fixV P e ty w (fun v => K (a.put o.dst v)) →
      ∃ v, (∀ w', Ahead w w' → (execOp a.eval o).run P w' = .ok (.value v) w') ∧ K (a.put o.dst v) := by
    intro e ty he h
    obtain ⟨v, hr, hk⟩ := exV_out _ _ h
    exact val e v he hr hk
  have pur : (match pureRun P (execOp a.eval o) with
      | some (.value v) => K (a.put o.dst v)
      | _ => False) → ∃ v, (∀ w', Ahead w w' → (execOp a.eval o).run P w' = .ok (.value v) w') ∧ K (a.put o.dst v) := by
    intro h
    split at h
    · rename_i v hv
      exact ⟨v, fun w' _ => pureRun_run w' _ _ hv, h⟩
    · exact h.elim
  unfold vcQOp at h
  split at h
  · rename_i c x y ho
    split at h
    · rename_i b hb
      refine val (pure (if b = true then a.eval x else a.eval y)) _ (by simp [execOp, ho, hb, asBool]) (fun w' _ => rfl) ?_
      cases b <;> exact h
    · exact h.elim
  · rename_i t x ho
    split at h
    · rename_i p hp
      cases p with
      | none => exact h.elim
      | some ad =>
        obtain ⟨v, hk, hr⟩ := ldT_ahead (show ldT P t ad w (fun v => K (a.put o.dst v)) from h)
        exact val (loadVar t ad) v (by simp [execOp, ho, hp, Instr.loadAt, Instr.sureAddr]) hr hk
    · exact h.elim
  · rename_i x ho
    split at h
    · rename_i p hp
      cases p with
      | none => exact h.elim
      | some ad => exact val (pure (.pointer (some ad))) _ (by simp [execOp, ho, hp]) (fun w' _ => rfl) h
    · exact h.elim
  · rename_i t x ix ho; exact fix _ _ (by simp [execOp, ho]) h
  · rename_i t x ix ho; exact fix _ _ (by simp [execOp, ho]) h
  · rename_i t x lo hi mx ho; exact fix _ _ (by simp [execOp, ho]) h
  · rename_i t x y u ho
    split at h
    · exact pur h
    · exact fix _ _ (by simp [execOp, ho, eqGuard]) h
  · rename_i t x y u ho
    split at h
    · exact pur h
    · exact fix _ _ (by simp [execOp, ho, eqGuard]) h
  · rename_i t x y u ho
    split at h
    · exact pur h
    · exact fix _ _ (by simp [execOp, ho, eqGuard]) h
  · rename_i t x y u ho
    split at h
    · exact pur h
    · exact fix _ _ (by simp [execOp, ho, eqGuard]) h
  · rename_i f args ts ho
    rw [ho] at hn
    cases hn
  · exact pur h

theorem vcQ_still {P : Program} {ops : Array Oper} {w : World} {Q : Act → Prop} : ∀ (l : List Oper) (a : Act), l.all (fun o => !isCall o.op) = true → vcQ P ops w Q l a → wpStill P ops w.drew Q l a
  | [], _, _, h => h
  | o :: rest, a, hl, h => by
    simp only [List.all_cons, Bool.and_eq_true, Bool.not_eq_true'] at hl
    have ih := fun a => vcQ_still (P := P) (ops := ops) (w := w) (Q := Q) rest a hl.2
    have hK : ∀ a, vcQOp P o a w (vcQ P ops w Q rest) → o.still P a w.drew (wpStill P ops w.drew Q rest) := fun a h => by
      obtain ⟨v, hr, hk⟩ := vcQOp_val hl.1 h
      unfold Oper.still
      rw [hr w.drew (show Below _ _ _ from (Below.refl _ w).drew)]
      exact ⟨rfl, ih _ hk⟩
    unfold wpStill
    rw [vcQ] at h
    have hskip : ∀ a : Act, Region.wanted o (yielded ops a.tmps) = false → vcQ P ops w Q rest (a.put o.dst undef) → (if Region.wanted o (yielded ops a.tmps) then o.still P a w.drew (wpStill P ops w.drew Q rest) else wpStill P ops w.drew Q rest (a.put o.dst undef)) := by
      intro a hw h
      rw [if_neg (by simp [hw])]
      exact ih _ h
    split at h
    · rename_i hg
      rw [if_pos (by simp [Region.wanted, hg])]
      exact hK _ h
    · rename_i j want hg
      split at h
      · rename_i d hd
        split at h
        · rename_i b hb
          have hy : yielded ops a.tmps j = some b := by simp [yielded, hd, hb]
          have hwant : Region.wanted o (yielded ops a.tmps) = (b == want) := by simp [Region.wanted, hg, hy]
          cases b
          · rw [br, put_same hb] at h
            cases want
            · rw [if_pos (by simp [hwant])]
              exact hK _ h
            · exact hskip a (by simp [hwant]) h
          · rw [br, put_same hb] at h
            cases want
            · exact hskip a (by simp [hwant]) h
            · rw [if_pos (by simp [hwant])]
              exact hK _ h
        · rename_i hb
          refine hskip a ?_ h
          have hy : yielded ops a.tmps j = none := by
            simp only [yielded, hd, Option.bind_some]
            all_goals
              generalize a.tmps[d]? = v at hb
              cases v with
              | none => rfl
              | some v => cases v <;> first | rfl | exact absurd rfl (hb _)
          simp [Region.wanted, hg, hy]
      · rename_i hd
        refine hskip a ?_ h
        have hy : yielded ops a.tmps j = none := by simp [yielded, hd]
        simp [Region.wanted, hg, hy]

theorem region_quiet {P : Program} {id : Nat} {ops : Array Oper} {Q : Exit → Act → World → Prop} {a : Act} {w : World} (hm : P.follows .mixedOrders = true) (hB : Region.lexB .any ops = true)
    (h : vcQ P ops w (fun a' => ∀ w', Ahead w w' → Q .normal a' w') ops.toList a) : (Code.region id ops true).wp P Q a w :=
  wp_region_quiet (C := Ahead w) hm hB (show Below _ _ _ from (Below.refl _ w).drew) (vcQ_sound _ _ h)

theorem region_tail {P : Program} {id : Nat} {ops : Array Oper} {Q : Exit → Act → World → Prop} {a : Act} {w : World} (n : Nat) (hm : P.follows .mixedOrders = true) (hB : Region.lexTailB .any ops n = true)
    (hc : (ops.toList.take n).all (fun o => !isCall o.op) = true)
    (h : vcQ P ops w (fun a' => vcOps P ops Q (ops.toList.drop n) a' w.drew) (ops.toList.take n) a) : (Code.region id ops true).wp P Q a w := by
  have hl : ops = ops.toList.toArray := by simp
  have := vcQ_still _ _ hc h
  rw [hl]
  refine wp_region_still_tail (P := P) n hm (by simpa using hB) ?_
  have hmono : ∀ (l : List Oper) (a : Act) (Q Q' : Act → Prop), (∀ a, Q a → Q' a) → wpStill P ops w.drew Q l a → wpStill P ops w.drew Q' l a := by
    intro l
    induction l with
    | nil => intro a Q Q' hq h; exact hq _ h
    | cons o l ih =>
      intro a Q Q' hq h
      unfold wpStill at h ⊢
      split at h
      · rename_i hw; rw [if_pos hw]; exact Oper.still_mono (fun a h => ih a Q Q' hq h) h
      · rename_i hw; rw [if_neg hw]; exact ih _ Q Q' hq h
  exact hmono _ _ _ _ (fun a' h' => vcOps_sound _ _ _ h') (by simpa using this)

def isLoud : Op → Bool
  | .call { callee := .value _, .. } => true
  | .call { callee := .builtin .append, .. } => true
  | .call { callee := .builtin .copy, .. } => true
  | .alloc _ => true
  | .box .. => true
  | .buildSlice .. => true
  | .makeSlice .. => true
  | .store .. => true
  | _ => false

/-- Whatever order is picked from here on; C holds of the worlds before and behind each of the first n operations. -/
def wpAnyT (P : Program) (md : Region.Mode) (ops : Array Oper) (Q : Exit → Act → World → Prop) (n : Nat) (C : Nat → World → World → Prop) : Nat → Array Bool → Act → World → Prop
  | 0, listed, a, w => Region.ready md ops listed = [] ∧ Q .normal a w
  | f + 1, listed, a, w => (Region.ready md ops listed = [] → Q .normal a w) ∧
    ∀ i ∈ Region.ready md ops listed, wpOp P ops Q i (fun a' w' => (i < n → C i w w') ∧ wpAnyT P md ops Q n C f (listed.setIfInBounds i true) a' w') a w

theorem wpAny_of_T {P : Program} {md : Region.Mode} {ops : Array Oper} {Q : Exit → Act → World → Prop} {n : Nat} {C : Nat → World → World → Prop} : ∀ (f : Nat) (listed : Array Bool) (a : Act) (w : World),
    wpAnyT P md ops Q n C f listed a w → wpAny P md ops Q f listed a w
  | 0, _, _, _, h => h
  | f + 1, _, _, _, h => ⟨h.1, fun i hi => wpOp_mono (fun a' w' h' => wpAny_of_T f _ a' w' h'.2) (h.2 i hi)⟩

/-- No later operation may come while one of the first n has not. -/
def WaitsT (md : Region.Mode) (ops : Array Oper) (n : Nat) : Prop := ∀ listed : Array Bool, HeadInv md ops n listed → ∀ i, i < n → listed.getD i true = false → ∀ t, n ≤ t → t ∉ Region.ready md ops listed

theorem wpAnyT_first {P : Program} {md : Region.Mode} {ops : Array Oper} {Q : Exit → Act → World → Prop} {n : Nat} {C : Nat → World → World → Prop} {S : World → Prop} {i : Nat} {oi : Oper} {v : Value}
    (hi : ops[i]? = some oi) (hin : i < n) (hsel : ∀ (j : Nat) (o : Oper) cs b, ops[j]? = some o → o.op ≠ .select cs b) (hQ : ∀ c a w, ¬ Q (.panic c) a w) (hT : WaitsT md ops n)
    (hC : ∀ w, C i w w) (hkeep : ∀ listed, HeadInv md ops n listed → listed.getD i true = false → ∀ j ∈ Region.ready md ops listed, ∀ w w', C j w w' → S w → S w') :
    ∀ (f : Nat) (listed : Array Bool) (a : Act) (w : World), HeadInv md ops n listed →
      (∀ j oj, ops[j]? = some oj → j ≠ i → listed.getD j true = false → (∀ e ∈ oj.after, Region.binds md e = true → e.on ≠ i) → oi.apart ops oj = true) →
      i ∈ Region.ready md ops listed → YieldsIf P ops S oi v a → S w →
      wpAnyT P md ops Q n C f (listed.setIfInBounds i true) (a.put oi.dst v) w → wpAnyT P md ops Q n C (f + 1) listed a w := by
  intro f
  induction f with
  | zero =>
    intro listed a w inv _ hr hy hS H
    refine ⟨fun h => absurd (h ▸ hr) (by simp), fun j hj => ?_⟩
    by_cases hji : j = i
    · subst hji; exact hy.wpOp hi hS ⟨fun _ => hC w, H⟩
    · exact absurd (H.1 ▸ ready_mono hj hji) (by simp)
  | succ f ih =>
    intro listed a w inv hfree hr hy hS H
    refine ⟨fun h => absurd (h ▸ hr) (by simp), fun j hj => ?_⟩
    by_cases hji : j = i
    · subst hji; exact hy.wpOp hi hS ⟨fun _ => hC w, H⟩
    have hun := (mem_ready.1 hr).1
    have hjn : j < n := by
      rcases Nat.lt_or_ge j n with h | h
      · exact h
      · exact absurd hj (hT listed inv i hin hun j h)
    obtain ⟨hjun, oj, hoj, hall⟩ := mem_ready.1 hj
    have hnot : ∀ e ∈ oj.after, Region.binds md e = true → e.on ≠ i := fun e he hb heq => by
      have h1 := hall e he hb
      rw [heq, getD_both hun] at h1
      cases h1
    have hfree' : ∀ k ok, ops[k]? = some ok → k ≠ i → (listed.setIfInBounds j true).getD k true = false →
        (∀ e ∈ ok.after, Region.binds md e = true → e.on ≠ i) → oi.apart ops ok = true := fun k ok hk hki hu hno => by
      refine hfree k ok hk hki ?_ hno
      by_cases hjk : j = k
      · subst hjk; exact hjun
      · rwa [getD_set_ne true hjk] at hu
    have h2 := wpOp_putIf hoj (hfree j oj hoj hji hjun hnot) (fun cs b => hsel i oi cs b hi) (fun cs b => hsel j oj cs b hoj) (fun c a w h => absurd h (hQ c _ w)) hy (H.2 j (ready_mono hj hji))
    refine wpOp_mono (fun a' w' h3 => ⟨h3.2.1, ih _ a' w' (inv.set hj hjn) hfree' (ready_mono hr (Ne.symm hji)) h3.1 (hkeep listed inv hun j hj w w' (h3.2.1 hjn) hS) ?_⟩) h2
    rw [Array.setIfInBounds_comm _ _ hji]
    exact h3.2.2

theorem wpAnyT_of_seq {P : Program} {md : Region.Mode} {ops : Array Oper} {Q : Exit → Act → World → Prop} {n : Nat} {S : Nat → World → World → Prop} : ∀ (l : List Oper) (k : Nat) (listed : Array Bool) (a : Act) (w : World), n ≤ k → (∀ j, l[j]? = ops[k + j]?) →
    Region.seqB md ops l.length k listed = true → wpList P ops Q l a w → wpAnyT P md ops Q n S l.length listed a w
  | [], _, _, _, _, _, _, hB, h => ⟨by simpa [Region.seqB] using hB, h⟩
  | o :: l, k, listed, a, w, hk, hl, hB, h => by
    have h0 : ops[k]? = some o := by simpa using (hl 0).symm
    simp only [List.length_cons, Region.seqB, Bool.and_eq_true, decide_eq_true_eq] at hB
    refine ⟨fun h1 => absurd (h1 ▸ hB.1) (by simp), fun i hi => ?_⟩
    obtain rfl : i = k := by rw [hB.1] at hi; simpa using hi
    have hw : wpOp P ops Q i (wpList P ops Q l) a w := by unfold wpOp; simp only [h0]; exact h
    exact wpOp_mono (fun a' w' h' => ⟨fun hn => absurd hn (by omega), wpAnyT_of_seq l (i + 1) _ a' w' (by omega) (fun j => by have := hl (j + 1); simpa [Nat.add_assoc, Nat.add_comm 1 j] using this) hB.2 h'⟩) hw

/-- A guard: run, or skip. -/
def vcG (ops : Array Oper) (o : Oper) (run skip : Act → Prop) (a : Act) : Prop := match o.guard with
  | none => run a
  | some (j, want) => match (ops[j]?).bind (·.dst) with
    | some d => match a.tmps[d]? with
      | some (.bool b) => br b
          (isWant want true (run (a.put (some d) (.bool true))) (skip ((a.put (some d) (.bool true)).put o.dst undef)))
          (isWant want false (run (a.put (some d) (.bool false))) (skip ((a.put (some d) (.bool false)).put o.dst undef)))
      | _ => skip (a.put o.dst undef)
    | none => skip (a.put o.dst undef)
theorem vcG_out {ops : Array Oper} {o : Oper} {run skip : Act → Prop} {a : Act} (h : vcG ops o run skip a) :
    (Region.wanted o (yielded ops a.tmps) = true ∧ run a) ∨ (Region.wanted o (yielded ops a.tmps) = false ∧ skip (a.put o.dst undef)) := by
  unfold vcG at h
  split at h
  · rename_i hg
    exact .inl ⟨by simp [Region.wanted, hg], h⟩
  · rename_i j want hg
    split at h
    · rename_i d hd
      split at h
      · rename_i b hb
        have hy : yielded ops a.tmps j = some b := by simp [yielded, hd, hb]
        have hwant : Region.wanted o (yielded ops a.tmps) = (b == want) := by simp [Region.wanted, hg, hy]
        cases b
        · rw [br, put_same hb] at h
          cases want
          · exact .inl ⟨by simp [hwant], h⟩
          · exact .inr ⟨by simp [hwant], h⟩
        · rw [br, put_same hb] at h
          cases want
          · exact .inr ⟨by simp [hwant], h⟩
          · exact .inl ⟨by simp [hwant], h⟩
      · rename_i hb
        refine .inr ⟨?_, h⟩
        have hy : yielded ops a.tmps j = none := by
          simp only [yielded, hd, Option.bind_some]
          all_goals
            generalize a.tmps[d]? = v at hb
            cases v with
            | none => rfl
            | some v => cases v <;> first | rfl | exact absurd rfl (hb _)
        simp [Region.wanted, hg, hy]
    · rename_i hd
      refine .inr ⟨?_, h⟩
      have hy : yielded ops a.tmps j = none := by simp [yielded, hd]
      simp [Region.wanted, hg, hy]

/-- The blocks of V may change, and what is new. -/
structure Bar (V : Nat → Prop) (w w' : World) : Prop where
  os : w'.os = w.os
  tape : w'.tape = w.tape
  output : w'.output = w.output
  size : w.heap.size ≤ w'.heap.size
  block : ∀ k, k < w.heap.size → ¬ V k → w'.heap[k]? = w.heap[k]?
theorem Bar.refl (V : Nat → Prop) (w : World) : Bar V w w := ⟨rfl, rfl, rfl, Nat.le_refl _, fun _ _ _ => rfl⟩
theorem Bar.trans {V : Nat → Prop} {a b c : World} (h : Bar V a b) (k : Bar V b c) : Bar V a c :=
  ⟨k.os.trans h.os, k.tape.trans h.tape, k.output.trans h.output, Nat.le_trans h.size k.size, fun i hi hv => (k.block i (Nat.lt_of_lt_of_le hi h.size) hv).trans (h.block i hi hv)⟩
theorem Bar.of_ahead {V : Nat → Prop} {a b : World} (h : Ahead a b) : Bar V a b := ⟨h.os, h.tape, h.output, h.size, fun k hk _ => Below.block h k hk⟩
theorem Bar.cell {V : Nat → Prop} {w w' : World} (h : Bar V w w') {ad : Addr} {v : Value} (hv : ¬ V ad.block) (hc : w.cell? ad = some v) : w'.cell? ad = some v := by
  have hb : ad.block < w.heap.size := by
    unfold World.cell? at hc
    split at hc
    · rename_i hh; exact (Array.getElem?_eq_some_iff.1 hh).1
    · cases hc
  rw [World.cell?_of_block (h.block _ hb hv)]; exact hc
/-- The address lies in no block that may change. -/
def Out (V : Nat → Prop) (ad : Addr) (p : Prop) : Prop := ¬ V ad.block ∧ p

theorem add_block (ad : Addr) (i : Nat) : (ad.add i).block = ad.block := by
  unfold Addr.add; split <;> rfl
theorem ldL_keep {P : Program} {ad : Addr} {w : World} {G : World → Prop} (hG : ∀ w', G w' → ∀ (ad' : Addr) v, ad'.block = ad.block → w.cell? ad' = some v → w'.cell? ad' = some v) : ∀ (ts : List Ty) (i : Nat) (k : List Value → Prop), ldL ad w i ts k →
    ∃ vs, k vs ∧ ∀ (acc : Array Value) (w' : World), G w' → (loadCellsFrom ad i ts.length acc).run P w' = .ok (acc ++ vs.toArray) w'
  | [], i, k, h => ⟨[], h, by simp [loadCellsFrom]⟩
  | t :: ts, i, k, h => by
    rw [ldL] at h
    obtain ⟨v, hc, h⟩ := exV_out _ _ h
    obtain ⟨vs, hk, hr⟩ := ldL_keep (P := P) hG ts (i + 1) _ h
    refine ⟨v :: vs, hk, fun acc w' hw => ?_⟩
    simp only [List.length_cons, loadCellsFrom, Sem.run_bind, load, Sem.run, hG w' hw _ _ (add_block _ _) hc, Result.andThen, hr _ w' hw]
    simp
theorem ldT_keep {P : Program} {t : TypeId} {ad : Addr} {w : World} {k : Value → Prop} {G : World → Prop} (hG : ∀ w', G w' → ∀ (ad' : Addr) v, ad'.block = ad.block → w.cell? ad' = some v → w'.cell? ad' = some v) (h : ldT P t ad w k) :
    ∃ v, k v ∧ ∀ w', G w' → (loadVar t ad).run P w' = .ok v w' := by
  unfold ldT at h
  have agg : ∀ ts : List Ty, (P.info? t).map (·.size) = some ts.length → ldL ad w 0 ts (fun vs => k (.agg vs.toArray)) → (∀ w', (isAgg t).run P w' = .ok true w') →
      ∃ v, k v ∧ ∀ w', G w' → (loadVar t ad).run P w' = .ok v w' := by
    intro ts hs hl ha
    obtain ⟨vs, hk, hr⟩ := ldL_keep (P := P) hG ts 0 _ hl
    refine ⟨_, hk, fun w' hw => ?_⟩
    obtain ⟨inf, hi, hsz⟩ := Option.map_eq_some_iff.1 hs
    have hsize : (sizeOf t).run P w' = .ok ts.length w' := by
      simp [sizeOf, typeInfo, program, Sem.run, hi, hsz]
    simp only [loadVar, Sem.run_bind, ha, Result.andThen, if_true, hsize, loadCells, hr _ w' hw, Sem.run_pure]
    simp
  split at h
  · rename_i fs hu
    split at h
    · split at h
      · rename_i hb; exact agg _ (by simpa using hb) h (fun w' => by simp [isAgg, underlying, program, Sem.run, hu])
      · exact h.elim
    · exact h.elim
  · rename_i n e hu
    split at h
    · split at h
      · rename_i hb; exact agg _ (by simpa using hb) h (fun w' => by simp [isAgg, underlying, program, Sem.run, hu])
      · exact h.elim
    · exact h.elim
  · rename_i d hns hna hu
    obtain ⟨v, hc, hk⟩ := exV_out _ _ h
    refine ⟨v, hk, fun w' hw => ?_⟩
    have ha : (isAgg t).run P w' = .ok false w' := by
      simp only [isAgg, underlying, program, Sem.run_bind, Sem.run, Result.andThen, hu]
      cases d <;> simp_all
    have hc' := hG w' hw ad v rfl hc
    simp only [loadVar, Sem.run_bind, ha, Result.andThen, load, Sem.run]
    simp [Sem.run, hc']
  · exact h.elim

/-- What only reads, where the blocks of V may change. -/
def vcVOp (P : Program) (V : Nat → Prop) (o : Oper) (a : Act) (w : World) (K : Act → Prop) : Prop :=
  match o.op with
  | .pick c x y => match a.eval c with
    | .bool b => br b (K (a.put o.dst (a.eval x))) (K (a.put o.dst (a.eval y)))
    | _ => False
  | .load t x => match a.eval x with
    | .pointer p => onSome p fun ad => Out V ad (ldT P t ad w fun v => K (a.put o.dst v))
    | _ => False
  | .nilCheck x => match a.eval x with
    | .pointer p => onSome p fun ad => K (a.put o.dst (.pointer (some ad)))
    | _ => False
  | .indexAddr t x ix => anyV P (Instr.indexAt t (a.eval x) (a.eval ix)) .pa fun v => K (a.put o.dst v)
  | .slice t x lo hi mx => anyV P (Instr.sliceAt t (a.eval x) (lo.map a.eval) (hi.map a.eval) (mx.map a.eval)) .sl fun v => K (a.put o.dst v)
  | .index .. => False
  | _ => match pureRun P (execOp a.eval o) with
    | some (.value v) => K (a.put o.dst v)
    | _ => False
theorem vcVOp_val {P : Program} {V : Nat → Prop} {o : Oper} {a : Act} {w : World} {K : Act → Prop} (h : vcVOp P V o a w K) :
    ∃ v, (∀ w', Bar V w w' → (execOp a.eval o).run P w' = .ok (.value v) w') ∧ K (a.put o.dst v) := by
  have val : ∀ (e : Sem Value) (v : Value), execOp a.eval o = (do pure (.value (← e))) → (∀ w', Bar V w w' → e.run P w' = .ok v w') → K (a.put o.dst v) →
      ∃ v, (∀ w', Bar V w w' → (execOp a.eval o).run P w' = .ok (.value v) w') ∧ K (a.put o.dst v) := by
    intro e v he hr hk
    refine ⟨v, fun w' hw => ?_, hk⟩
    rw [he]
    simp [Sem.run_bind, hr w' hw, Result.andThen]
  unfold vcVOp at h
  split at h
  · rename_i c x y ho
    split at h
    · rename_i b hb
      refine val (pure (if b = true then a.eval x else a.eval y)) _ (by simp [execOp, ho, hb, asBool]) (fun w' _ => rfl) ?_
      cases b <;> exact h
    · exact h.elim
  · rename_i t x ho
    split at h
    · rename_i p hp
      cases p with
      | none => exact h.elim
      | some ad =>
        obtain ⟨hv, hl⟩ := (show Out V ad (ldT P t ad w (fun v => K (a.put o.dst v))) from h)
        obtain ⟨v, hk, hr⟩ := ldT_keep (G := Bar V w) (fun w' hw ad' v hb hc => hw.cell (by rw [hb]; exact hv) hc) hl
        exact val (loadVar t ad) v (by simp [execOp, ho, hp, Instr.loadAt, Instr.sureAddr]) hr hk
    · exact h.elim
  · rename_i x ho
    split at h
    · rename_i p hp
      cases p with
      | none => exact h.elim
      | some ad => exact val (pure (.pointer (some ad))) _ (by simp [execOp, ho, hp]) (fun w' _ => rfl) h
    · exact h.elim
  · rename_i t x ix ho
    obtain ⟨v, hr, hk⟩ := exV_out _ _ h
    exact val (Instr.indexAt t (a.eval x) (a.eval ix)) v (by simp [execOp, ho]) (fun w' _ => hr w') hk
  · rename_i t x lo hi mx ho
    obtain ⟨v, hr, hk⟩ := exV_out _ _ h
    exact val (Instr.sliceAt t (a.eval x) (lo.map a.eval) (hi.map a.eval) (mx.map a.eval)) v (by simp [execOp, ho]) (fun w' _ => hr w') hk
  · exact h.elim
  · split at h
    · rename_i v hv
      exact ⟨v, fun w' _ => pureRun_run w' _ _ hv, h⟩
    · exact h.elim

def waitsOf (o : Oper) : List Nat := o.after.toList.filterMap fun e => match Region.binds .any e with
  | true => some e.on
  | false => none
def hasN (l : List Nat) (i : Nat) : Bool := match l with
  | [] => false
  | j :: l => match Nat.beq j i with
    | true => true
    | false => hasN l i
def readyN (rem : List Nat) (ws : List Nat) : Bool := match ws with
  | [] => true
  | j :: ws => match hasN rem j with
    | true => false
    | false => readyN rem ws
def pickN (its : List (Nat × Bool × List Nat)) (rem : List Nat) : Option Nat := match its with
  | [] => none
  | (i, l, ws) :: its => match !l && hasN rem i && readyN rem ws with
    | true => some i
    | false => pickN its rem
def loudN (its : List (Nat × Bool × List Nat)) (rem : List Nat) : List Nat := match its with
  | [] => []
  | (i, l, ws) :: its => match l && hasN rem i && readyN rem ws with
    | true => i :: loudN its rem
    | false => loudN its rem
def dropN (l : List Nat) (i : Nat) : List Nat := match l with
  | [] => []
  | j :: l => match Nat.beq j i with
    | true => l
    | false => j :: dropN l i
def itemsOf : Nat → List Oper → List (Nat × Bool × List Nat)
  | _, [] => []
  | k, o :: l => (k, isLoud o.op, waitsOf o) :: itemsOf (k + 1) l
def forkN (l : List Nat) (K : Nat → Prop) : Prop := match l with
  | [] => False
  | i :: l => match l with
    | [] => K i
    | _ :: _ => K i ∧ forkN l K
theorem forkN_mem {K : Nat → Prop} : ∀ {l : List Nat}, forkN l K → ∀ i ∈ l, K i
  | [], h, _, _ => h.elim
  | [i], h, j, hj => by
    have : j = i := by simpa using hj
    subst this; exact h
  | i :: k :: l, h, j, hj => by
    obtain ⟨h1, h2⟩ := h
    rcases List.mem_cons.1 hj with rfl | hj
    · exact h1
    · exact forkN_mem h2 j hj

/-- What is asked behind a loud operation. -/
def needK (G : Nat → World → World → Prop) (w w' : World) (p : Prop) : List Nat → Prop
  | [] => p
  | q :: l => G q w w' ∧ needK G w w' p l
theorem needK_out {G : Nat → World → World → Prop} {w w' : World} {p : Prop} : ∀ {l : List Nat}, needK G w w' p l → (∀ q ∈ l, G q w w') ∧ p
  | [], h => ⟨fun q hq => (by cases hq), h⟩
  | q :: l, h => by
    refine ⟨fun q' hq => ?_, (needK_out h.2).2⟩
    rcases List.mem_cons.1 hq with rfl | hq
    · exact h.1
    · exact (needK_out h.2).1 q' hq

def vcT (P : Program) (G : Nat → World → World → Prop) (need : Nat → List Nat) (Lq : Nat → Oper → Act → World → (Act → Prop) → Prop) (ops : Array Oper) (its : List (Nat × Bool × List Nat)) (Q : Act → World → Prop) : Nat → List Nat → Act → World → Prop
  | 0, _, a, w => Q a w
  | f + 1, rem, a, w => match pickN its rem with
    | some i => match ops[i]? with
      | none => False
      | some o => vcG ops o (fun a => Lq i o a w (fun a' => vcT P G need Lq ops its Q f (dropN rem i) a' w)) (fun a => vcT P G need Lq ops its Q f (dropN rem i) a w) a
    | none => forkN (loudN its rem) fun i => match ops[i]? with
      | none => False
      | some o => vcG ops o (fun a => vcOp P o a (fun a' w' => needK G w w' (vcT P G need Lq ops its Q f (dropN rem i) a' w') (need i)) w) (fun a => vcT P G need Lq ops its Q f (dropN rem i) a w) a

def addN (l : List Nat) (i : Nat) : List Nat := match hasN l i with
  | true => l
  | false => i :: l
def unionN (l : List Nat) : List Nat → List Nat
  | [] => l
  | i :: m => unionN (addN l i) m
def nthN : List (List Nat) → Nat → List Nat
  | [], _ => []
  | x :: _, 0 => x
  | _ :: l, i + 1 => nthN l i
def closE (acc : List (List Nat)) : List Nat → List Nat
  | [] => []
  | i :: ws => unionN (addN (closE acc ws) i) (nthN acc i)
def closN : List Oper → List (List Nat) → List (List Nat)
  | [], acc => acc
  | o :: l, acc => closN l (acc ++ [closE acc (waitsOf o)])
def preOf (ops : Array Oper) (j q : Nat) : Bool := hasN (nthN (closN ops.toList []) j) q
def isLd : Op → Bool
  | .load .. => true
  | _ => false
def memAt (ops : Array Oper) (q : Nat) : Bool := match ops[q]? with
  | some o => isLd o.op
  | none => false
def keepN (ops : Array Oper) (pre : List Nat) : List Nat → List Nat
  | [] => []
  | q :: l => match memAt ops q && !hasN pre q with
    | true => q :: keepN ops pre l
    | false => keepN ops pre l
/-- The loads that may come behind the operation. -/
def needOf (ops : Array Oper) (j : Nat) : List Nat := keepN ops (nthN (closN ops.toList []) j) (List.range ops.size)
theorem hasN_mem {l : List Nat} {i : Nat} : hasN l i = true ↔ i ∈ l := by
  induction l with
  | nil => simp [hasN]
  | cons j l ih =>
    unfold hasN
    cases hb : Nat.beq j i with
    | true => have := Nat.eq_of_beq_eq_true hb; subst this; simp
    | false =>
      have hne : ¬ i = j := fun e => by subst e; rw [Nat.beq_refl] at hb; cases hb
      simp [ih, hne]
theorem addN_mem {l : List Nat} {i q : Nat} (h : q ∈ addN l i) : q = i ∨ q ∈ l := by
  unfold addN at h
  split at h
  · exact .inr h
  · exact List.mem_cons.1 h
theorem unionN_mem : ∀ {m l : List Nat} {q : Nat}, q ∈ unionN l m → q ∈ l ∨ q ∈ m
  | [], _, _, h => .inl h
  | i :: m, l, q, h => by
    rcases unionN_mem (m := m) h with h | h
    · rcases addN_mem h with rfl | h
      · exact .inr (by simp)
      · exact .inl h
    · exact .inr (by simp [h])
theorem closE_mem {acc : List (List Nat)} : ∀ {ws : List Nat} {q : Nat}, q ∈ closE acc ws → ∃ i ∈ ws, q = i ∨ q ∈ nthN acc i
  | [], _, h => by cases h
  | i :: ws, q, h => by
    rcases unionN_mem h with h | h
    · rcases addN_mem h with rfl | h
      · exact ⟨q, by simp, .inl rfl⟩
      · obtain ⟨k, hk, hq⟩ := closE_mem h
        exact ⟨k, by simp [hk], hq⟩
    · exact ⟨i, by simp, .inr h⟩
theorem nthN_append {l : List (List Nat)} {x : List Nat} {j : Nat} : nthN (l ++ [x]) j = if j < l.length then nthN l j else if j = l.length then x else [] := by
  induction l generalizing j with
  | nil => cases j <;> simp [nthN]
  | cons y l ih =>
    cases j with
    | zero => simp [nthN]
    | succ j => simp [nthN, ih]
theorem waitsOf_mem {o : Oper} {i : Nat} (h : i ∈ waitsOf o) : ∃ e ∈ o.after, Region.binds .any e = true ∧ e.on = i := by
  unfold waitsOf at h
  rw [List.mem_filterMap] at h
  obtain ⟨e, he, hb⟩ := h
  split at hb
  · rename_i h1
    exact ⟨e, by simpa using he, h1, Option.some.inj hb⟩
  · cases hb
/-- All that these operations wait for has come. -/
def Met (ops : Array Oper) (listed : Array Bool) (j : Nat) : Prop := ∀ o, ops[j]? = some o → ∀ e ∈ o.after, Region.binds .any e = true → listed.getD e.on false = true
theorem closN_spec {ops : Array Oper} {n : Nat} {listed : Array Bool} (inv : HeadInv .any ops n listed) : ∀ (l : List Oper) (acc : List (List Nat)), (∀ k, l[k]? = ops[acc.length + k]?) →
    (∀ j q, q ∈ nthN acc j → Met ops listed j → listed.getD q false = true) → ∀ j q, q ∈ nthN (closN l acc) j → Met ops listed j → listed.getD q false = true
  | [], acc, _, h => h
  | o :: l, acc, hl, h => by
    refine closN_spec inv l _ (fun k => ?_) (fun j q hq hm => ?_)
    · have := hl (k + 1)
      simp only [List.getElem?_cons_succ] at this
      rw [this, List.length_append, List.length_singleton]
      congr 1; omega
    · rw [nthN_append] at hq
      split at hq
      · exact h j q hq hm
      · split at hq
        · rename_i h1 h2
          subst h2
          have ho : ops[acc.length]? = some o := by simpa using (hl 0).symm
          obtain ⟨i, hi, hqi⟩ := closE_mem hq
          obtain ⟨e, he, hb, rfl⟩ := waitsOf_mem hi
          have hle := hm o ho e he hb
          rcases hqi with rfl | hqi
          · exact hle
          · refine h _ q hqi fun o' ho' e' he' hb' => ?_
            exact inv.closed _ o' ho' hle e' he' hb'
        · cases hq
theorem preOf_listed {ops : Array Oper} {n : Nat} {listed : Array Bool} (inv : HeadInv .any ops n listed) {j q : Nat} (hj : j ∈ Region.ready .any ops listed) (hq : listed.getD q true = false) : preOf ops j q = false := by
  cases hp : preOf ops j q with
  | false => rfl
  | true =>
    obtain ⟨_, o, ho, hall⟩ := mem_ready.1 hj
    have := closN_spec inv ops.toList [] (fun k => by simp) (fun j q hq => by cases hq) j q (hasN_mem.1 hp) (fun o' ho' e he hb => by
      rw [ho] at ho'; obtain rfl := Option.some.inj ho'
      exact hall e he hb)
    rw [getD_both hq] at this
    cases this
theorem needOf_mem {ops : Array Oper} {j q : Nat} (hm : memAt ops q = true) (hp : preOf ops j q = false) : q ∈ needOf ops j := by
  have hlt : q < ops.size := by
    unfold memAt at hm
    split at hm
    · rename_i o ho; exact (Array.getElem?_eq_some_iff.1 ho).1
    · cases hm
  have key : ∀ l : List Nat, q ∈ l → q ∈ keepN ops (nthN (closN ops.toList []) j) l := by
    intro l
    induction l with
    | nil => intro h; cases h
    | cons k l ih =>
      intro h
      unfold keepN
      rcases List.mem_cons.1 h with rfl | h
      · have hp' : hasN (nthN (closN ops.toList []) j) q = false := hp
        rw [hm, hp']
        simp
      · split
        · exact List.mem_cons_of_mem _ (ih h)
        · exact ih h
  exact key _ (by simpa using hlt)

/-- May the operations come so? -/
def heldT (md : Region.Mode) (ops : Array Oper) (n : Nat) (its : List (Nat × Bool × List Nat)) : Nat → List Nat → Array Bool → Bool
  | 0, _, listed => Region.seqB md ops (ops.size - n) n listed
  | f + 1, rem, listed => match pickN its rem with
    | some i => Nat.blt i n && (match ops[i]? with
      | none => false
      | some o => !isLoud o.op && ((Region.ready md ops listed).contains i && Region.free md ops listed i)) && heldT md ops n its f (dropN rem i) (listed.setIfInBounds i true)
    | none => !(loudN its rem).isEmpty && decide (Region.ready md ops listed = loudN its rem) && (loudN its rem).all fun i => Nat.blt i n && (match ops[i]? with
      | none => false
      | some o => isLoud o.op) && heldT md ops n its f (dropN rem i) (listed.setIfInBounds i true)

theorem isCall_of_quiet {o : Op} (h : isLoud o = false) : isCall o = false := by
  cases hc : isCall o with
  | false => rfl
  | true =>
    unfold isCall at hc
    split at hc
    · simp [isLoud] at h
    · cases hc

def loudAt (ops : Array Oper) (j : Nat) : Bool := match ops[j]? with
  | some o => isLoud o.op
  | none => false
/-- What a step tells of the worlds before and behind it. -/
def StepT (ops : Array Oper) (G : Nat → World → World → Prop) (j : Nat) (w w' : World) : Prop :=
  (loudAt ops j = true → ∀ q, preOf ops j q = false → G q w w') ∧ (loudAt ops j = false → w' = w)

theorem vcT_sound {P : Program} {ops : Array Oper} {Q : Exit → Act → World → Prop} {n : Nat} {its : List (Nat × Bool × List Nat)} {G GV : Nat → World → World → Prop} {need : Nat → List Nat} {Lq : Nat → Oper → Act → World → (Act → Prop) → Prop}
    (gr : ∀ q w, G q w w) (gt : ∀ {q a b c}, G q a b → G q b c → G q a c)
    (hL : ∀ {i o a w K}, ops[i]? = some o → isLoud o.op = false → Lq i o a w K → ∃ v, (∀ w', G i w w' → (execOp a.eval o).run P w' = .ok (.value v) w') ∧ K (a.put o.dst v))
    (hneed : ∀ j w w', (∀ q ∈ need j, GV q w w') → ∀ q, preOf ops j q = false → G q w w')
    (hn : n ≤ ops.size) (hsel : Region.noSelect ops = true) (hQ : ∀ c a w, ¬ Q (.panic c) a w) (hT : WaitsT .any ops n) :
    ∀ (f : Nat) (rem : List Nat) (listed : Array Bool) (a : Act) (w : World), HeadInv .any ops n listed → heldT .any ops n its f rem listed = true →
      vcT P GV need Lq ops its (fun a' w' => vcOps P ops Q (ops.toList.drop n) a' w') f rem a w → wpAnyT P .any ops Q n (StepT ops G) (f + (ops.size - n)) listed a w
  | 0, rem, listed, a, w, inv, hB, h => by
    have hlen : (ops.toList.drop n).length = ops.size - n := by simp
    have := wpAnyT_of_seq (md := .any) (n := n) (S := StepT ops G) (ops.toList.drop n) n listed a w (Nat.le_refl _) (fun j => by simp [List.getElem?_drop]) (by rw [hlen]; exact hB) (vcOps_sound _ _ _ h)
    rw [hlen] at this
    simpa using this
  | f + 1, rem, listed, a, w, inv, hB, h => by
    rw [show f + 1 + (ops.size - n) = (f + (ops.size - n)) + 1 by omega]
    rw [vcT] at h
    rw [heldT] at hB
    cases hp : pickN its rem with
    | some i =>
      rw [hp] at h hB
      simp only [Bool.and_eq_true] at h hB
      obtain ⟨⟨hin, hkind⟩, hB'⟩ := hB
      have hin' : i < n := by simpa [Nat.blt_eq] using hin
      cases ho : ops[i]? with
      | none => rw [ho] at h; exact h.elim
      | some o =>
        rw [ho] at h hkind
        simp only [Bool.and_eq_true, Bool.not_eq_true'] at h hkind
        obtain ⟨hl, hmem, hfree⟩ := hkind
        have hmem : i ∈ Region.ready .any ops listed := by simpa using hmem
        have hli : loudAt ops i = false := by unfold loudAt; rw [ho]; exact hl
        have ih := fun a w h => vcT_sound (P := P) gr gt hL hneed hn hsel hQ hT f (dropN rem i) (listed.setIfInBounds i true) a w (inv.set hmem hin') hB' h
        have fin : ∀ v, YieldsIf P ops (G i w) o v a → vcT P GV need Lq ops its (fun a' w' => vcOps P ops Q (ops.toList.drop n) a' w') f (dropN rem i) (a.put o.dst v) w → _ := fun v hy h =>
          wpAnyT_first (C := StepT ops G) ho hin' (Region.noSelect_spec hsel) hQ hT (fun w => ⟨fun h => (by rw [hli] at h; cases h), fun _ => rfl⟩)
            (fun listed' inv' hun j hj w1 w2 hc hs => by
              cases hlj : loudAt ops j with
              | true => exact gt hs (hc.1 hlj i (preOf_listed inv' hj hun))
              | false => rw [hc.2 hlj]; exact hs) _ listed a w inv (Region.free_spec ho hfree) hmem hy (gr _ _) (ih _ _ h)
        rcases vcG_out h with ⟨hw, h⟩ | ⟨hw, h⟩
        · obtain ⟨v, hv, hk⟩ := hL ho hl h
          exact fin v (.inl ⟨hw, hv⟩) hk
        · exact fin undef (.inr ⟨hw, rfl⟩) h
    | none =>
      rw [hp] at h hB
      simp only [Bool.and_eq_true, decide_eq_true_eq] at h hB
      obtain ⟨⟨hne, hready⟩, hall⟩ := hB
      refine ⟨fun h0 => ?_, fun i hi => ?_⟩
      · rw [hready] at h0; rw [h0] at hne; simp at hne
      · have hi' : i ∈ loudN its rem := by rw [← hready]; exact hi
        have h1 := forkN_mem h i hi'
        have h2 := List.all_eq_true.1 hall i hi'
        simp only [Bool.and_eq_true] at h1 h2
        obtain ⟨⟨hin, hkind⟩, hB'⟩ := h2
        have hin' : i < n := by simpa [Nat.blt_eq] using hin
        cases ho : ops[i]? with
        | none => rw [ho] at h1; exact h1.elim
        | some o =>
          rw [ho] at h1 hkind
          simp only at h1 hkind
          have hli : loudAt ops i = true := by unfold loudAt; rw [ho]; exact hkind
          have ih := fun a w h => vcT_sound (P := P) gr gt hL hneed hn hsel hQ hT f (dropN rem i) (listed.setIfInBounds i true) a w (inv.set hi hin') hB' h
          unfold wpOp
          simp only [ho]
          rcases vcG_out h1 with ⟨hw, h⟩ | ⟨hw, h⟩
          · rw [if_pos hw]
            exact .inl (Oper.wp_mono (fun a' w' hh => ⟨fun _ => ⟨fun _ => hneed i w w' (needK_out hh).1, fun h => (by rw [hli] at h; cases h)⟩, ih a' w' (needK_out hh).2⟩) (vcOp_sound h))
          · rw [if_neg (by simp [hw])]
            exact ⟨fun _ => ⟨fun _ q _ => gr q w, fun _ => rfl⟩, ih _ _ h⟩

def headN (ops : Array Oper) : Nat := match ops.toList.findIdx? fun o => match o.op with
    | .store .. => true
    | _ => false with
  | some n => n
  | none => ops.size
def planOf (ops : Array Oper) : List (Nat × Bool × List Nat) := itemsOf 0 (ops.toList.take (headN ops))
def heldAllB (ops : Array Oper) (n : Nat) (its : List (Nat × Bool × List Nat)) : Bool :=
  Region.noSelect ops && (Nat.beq n ops.size || (Nat.blt n ops.size && Region.sinkB .any ops n && Region.chainB .any ops n)) && heldT .any ops n its n (List.range n) (Array.replicate ops.size false)

theorem region_held {P : Program} {id : Nat} {ops : Array Oper} {Q : Exit → Act → World → Prop} {a : Act} {w : World} (n : Nat) (its : List (Nat × Bool × List Nat)) {G GV : Nat → World → World → Prop} {need : Nat → List Nat} {Lq : Nat → Oper → Act → World → (Act → Prop) → Prop}
    (gr : ∀ q w, G q w w) (gt : ∀ {q a b c}, G q a b → G q b c → G q a c) (hL : ∀ {i o a w K}, ops[i]? = some o → isLoud o.op = false → Lq i o a w K → ∃ v, (∀ w', G i w w' → (execOp a.eval o).run P w' = .ok (.value v) w') ∧ K (a.put o.dst v))
    (hneed : ∀ j w w', (∀ q ∈ need j, GV q w w') → ∀ q, preOf ops j q = false → G q w w')
    (hm : P.follows .mixedOrders = true) (hB : heldAllB ops n its = true)
    (h : vcT P GV need Lq ops its (fun a' w' => vcOps P ops Q (ops.toList.drop n) a' w') n (List.range n) a w.drew) : (Code.region id ops true).wp P Q a w := by
  simp only [heldAllB, Bool.and_eq_true, Bool.or_eq_true, Nat.beq_eq, Nat.blt_eq] at hB
  obtain ⟨⟨hsel, hn⟩, hB⟩ := hB
  have hn' : n ≤ ops.size := by omega
  have hT : WaitsT .any ops n := fun listed inv i hi hu t ht => by
    rcases hn with hn | ⟨⟨h1, h2⟩, h3⟩
    · intro hr
      obtain ⟨_, o, ho, _⟩ := mem_ready.1 hr
      have := (Array.getElem?_eq_some_iff.1 ho).1
      omega
    · exact tail_waits h2 h3 h1 inv _ i rfl hi hu t ht
  have inv0 : HeadInv .any ops n (Array.replicate ops.size false) :=
    ⟨by simp, fun j oj _ hl => (by rw [getD_replicate_false] at hl; cases hl), fun t _ ht => getD_in (by simpa using ht) (getD_replicate_false _ _)⟩
  let Q' : Exit → Act → World → Prop := fun e a w => match e with | .normal => Q .normal a w | _ => False
  have hq : ∀ e a w, Q' e a w → Q e a w := fun e a w h => by cases e <;> first | exact h | exact h.elim
  have heq : ∀ l : List Oper, vcOps P ops Q l = vcOps P ops Q' l := by
    intro l
    induction l with
    | nil => rfl
    | cons o l ih => funext a w; simp only [vcOps, ih]
  rw [heq] at h
  have := vcT_sound (Q := Q') gr gt hL hneed hn' hsel (fun c a w h => h) hT n (List.range n) _ a w.drew inv0 hB h
  rw [show n + (ops.size - n) = ops.size by omega] at this
  exact wp_mono (wp_region_any hm (wpAny_of_T _ _ _ _ this)) hq

theorem vcVOp_any {P : Program} {V : Nat → Prop} {o : Oper} {a : Act} {w : World} {K : Act → Prop} (hn : isLd o.op = false) (h : vcVOp P V o a w K) :
    ∃ v, (∀ w', (execOp a.eval o).run P w' = .ok (.value v) w') ∧ K (a.put o.dst v) := by
  have val : ∀ (e : Sem Value) (v : Value), execOp a.eval o = (do pure (.value (← e))) → (∀ w', e.run P w' = .ok v w') → K (a.put o.dst v) →
      ∃ v, (∀ w', (execOp a.eval o).run P w' = .ok (.value v) w') ∧ K (a.put o.dst v) := by
    intro e v he hr hk
    refine ⟨v, fun w' => ?_, hk⟩
    rw [he]
    simp [Sem.run_bind, hr w', Result.andThen]
  unfold vcVOp at h
  split at h
  · rename_i c x y ho
    split at h
    · rename_i b hb
      refine val (pure (if b = true then a.eval x else a.eval y)) _ (by simp [execOp, ho, hb, asBool]) (fun w' => rfl) ?_
      cases b <;> exact h
    · exact h.elim
  · rename_i t x ho
    rw [ho] at hn; cases hn
  · rename_i x ho
    split at h
    · rename_i p hp
      cases p with
      | none => exact h.elim
      | some ad => exact val (pure (.pointer (some ad))) _ (by simp [execOp, ho, hp]) (fun w' => rfl) h
    · exact h.elim
  · rename_i t x ix ho
    obtain ⟨v, hr, hk⟩ := exV_out _ _ h
    exact val (Instr.indexAt t (a.eval x) (a.eval ix)) v (by simp [execOp, ho]) (fun w' => hr w') hk
  · rename_i t x lo hi mx ho
    obtain ⟨v, hr, hk⟩ := exV_out _ _ h
    exact val (Instr.sliceAt t (a.eval x) (lo.map a.eval) (hi.map a.eval) (mx.map a.eval)) v (by simp [execOp, ho]) (fun w' => hr w') hk
  · exact h.elim
  · split at h
    · rename_i v hv
      exact ⟨v, fun w' => pureRun_run w' _ _ hv, h⟩
    · exact h.elim
/-- Each load's own blocks stay; the others read nothing. -/
def GMem (ops : Array Oper) (V : Nat → Nat → Prop) (q : Nat) (w w' : World) : Prop := match memAt ops q with
  | true => Bar (V q) w w'
  | false => True
theorem GMem.refl {ops : Array Oper} {V : Nat → Nat → Prop} {q : Nat} (w : World) : GMem ops V q w w := by
  unfold GMem; split
  · exact Bar.refl _ _
  · trivial
theorem GMem.trans {ops : Array Oper} {V : Nat → Nat → Prop} {q : Nat} {a b c : World} (h : GMem ops V q a b) (k : GMem ops V q b c) : GMem ops V q a c := by
  unfold GMem at *; split
  · rename_i hq; rw [hq] at h k; exact Bar.trans h k
  · trivial
theorem vcVOp_mem {P : Program} {ops : Array Oper} {V : Nat → Nat → Prop} {i : Nat} {o : Oper} {a : Act} {w : World} {K : Act → Prop} (hi : ops[i]? = some o) (h : vcVOp P (V i) o a w K) :
    ∃ v, (∀ w', GMem ops V i w w' → (execOp a.eval o).run P w' = .ok (.value v) w') ∧ K (a.put o.dst v) := by
  have hm : memAt ops i = isLd o.op := by unfold memAt; rw [hi]
  cases hb : isLd o.op with
  | true =>
    obtain ⟨v, h1, h2⟩ := vcVOp_val h
    refine ⟨v, fun w' hg => h1 w' ?_, h2⟩
    unfold GMem at hg; rw [hm, hb] at hg; exact hg
  | false =>
    obtain ⟨v, h1, h2⟩ := vcVOp_any hb h
    exact ⟨v, fun w' _ => h1 w', h2⟩

def isAl (o : Oper) : Bool := match o.op with
  | .alloc _ => true
  | _ => false
def alAt (ops : Array Oper) (j : Nat) : Bool := match ops[j]? with
  | some o => isAl o
  | none => false
def mainL0 (ops : Array Oper) (n : Nat) : List Nat := (List.range n).filter fun j => !alAt ops j
/-- Does an operation wait for none of the pending ones? -/
def rdyB (ops : Array Oper) (pend : List Nat) (loud : Bool) (i : Nat) : Bool := match ops[i]? with
  | some o => (loud || !isLoud o.op) && o.after.toList.all fun e => !Region.binds .any e || !hasN pend e.on
  | none => false
/-- The order in which the operations of a head are walked: quiet ones as early as they can. -/
def ordL (ops : Array Oper) : Nat → List Nat → List Nat
  | 0, _ => []
  | f+1, pend => match pend.find? (rdyB ops pend false) with
    | some i => i :: ordL ops f (pend.erase i)
    | none => match pend.find? (rdyB ops pend true) with
      | some i => i :: ordL ops f (pend.erase i)
      | none => match pend with
        | [] => []
        | i :: r => i :: ordL ops f r
def mainL (ops : Array Oper) (n : Nat) : List Nat := ordL ops n (mainL0 ops n)
theorem ordL_perm (ops : Array Oper) : ∀ (f : Nat) (p : List Nat), p.length ≤ f → (ordL ops f p).Perm p
  | 0, p, h => by
    have : p = [] := List.eq_nil_of_length_eq_zero (by omega)
    subst this
    exact List.Perm.refl _
  | f+1, p, h => by
    have key : ∀ i ∈ p, (i :: ordL ops f (p.erase i)).Perm p := fun i hi => by
      have hp := List.perm_cons_erase hi
      have hl := hp.length_eq
      simp at hl
      exact ((ordL_perm ops f (p.erase i) (by omega)).cons i).trans hp.symm
    unfold ordL
    split
    · rename_i i hi; exact key i (List.mem_of_find?_eq_some hi)
    · split
      · rename_i i hi; exact key i (List.mem_of_find?_eq_some hi)
      · cases p with
        | nil => exact List.Perm.refl _
        | cons i r => exact (ordL_perm ops f r (by simp at h; omega)).cons i
def alL (ops : Array Oper) (n : Nat) : List Nat := (List.range n).filter fun j => alAt ops j
/-- A new cell's contents. -/
def zc (P : Program) (t : TypeId) : Option (Array Value) := match P.info? t with
  | some i => match i.zero with
    | some v => some v.cells
    | none => none
  | none => none
def vcF (P : Program) (ops : Array Oper) (fin : Act → World → Prop) : List Nat → Act → World → Prop
  | [], a, w => ∀ w', Ahead w w' → fin a w'
  | i :: r, a, w => match ops[i]? with
    | some o => match isLoud o.op with
      | true => ∀ w1, Ahead w w1 → vcOp P o a (fun a' w' => Ahead w1 w' ∧ vcF P ops fin r a' w') w1
      | false => vcQOp P o a w fun a' => vcF P ops fin r a' w
    | none => False
/-- A new block. -/
def NewB (w0 : World) (used : List Nat) (w : World) (b : Nat) (cs : Array Value) (t : TypeId) : Prop := w0.heap.size ≤ b ∧ (∀ k ∈ used, b ≠ k) ∧ w.heap[b]? = some (.cells cs t (0, 0))
def vcA (P : Program) (ops : Array Oper) (w0 : World) (fin : Act → World → Prop) : List Nat → List Nat → Act → World → Prop
  | [], _, a, w => fin a w
  | i :: r, used, a, w => match ops[i]? with
    | some o => match o.op with
      | .alloc t => match zc P t with
        | some cs => ∀ b, NewB w0 used w b cs t → vcA P ops w0 fin r (b :: used) (a.put o.dst (.pointer (some ⟨b, 0, none⟩))) w
        | none => False
      | _ => False
    | none => False
def apAll (ops : Array Oper) (als : List Nat) (j0 : Nat) (o : Oper) : Bool := als.all fun j => Nat.beq j j0 || (match ops[j]? with
  | some oa => oa.apart ops o
  | none => false)
def fB (ops : Array Oper) (n : Nat) (als : List Nat) : List Nat → Bool
  | [] => true
  | i :: r => (match ops[i]? with
    | none => false
    | some o => Nat.blt i n && o.guard.isNone && apAll ops als ops.size o && (o.after.toList.all fun e => !Region.binds .any e || (Nat.blt e.on n && !hasN (i :: r) e.on && !hasN als e.on)) &&
      (match isLoud o.op with
       | true => r.all fun j => match ops[j]? with
         | some oj => oj.after.toList.any fun e => Region.binds .any e && hasN (i :: r) e.on
         | none => false
       | false => !isCall o.op && (List.range ops.size).all fun j => Nat.beq j i || (Nat.blt j n && !hasN r j && !hasN als j) || (match ops[j]? with
         | some oj => (oj.after.toList.any fun e => Region.binds .any e && Nat.beq e.on i) || o.apart ops oj
         | none => true))) && fB ops n als r
def aB (P : Program) (ops : Array Oper) (n : Nat) (als : List Nat) : Bool := als.all fun j => Nat.blt j n && (match ops[j]? with
  | some o => (match o.op with
    | .alloc t => (zc P t).isSome
    | _ => false) && o.guard.isNone && (o.after.toList.all fun e => !Region.binds .any e) && apAll ops als j o
  | none => false)
def fullA (ops : Array Oper) (n : Nat) : Array Bool := (List.replicate n true ++ List.replicate (ops.size - n) false).toArray
def floatB (P : Program) (ops : Array Oper) : Bool := Region.noSelect ops && (Nat.beq (headN ops) ops.size || (Nat.blt (headN ops) ops.size && Region.sinkB .any ops (headN ops) && Region.chainB .any ops (headN ops))) &&
  (aB P ops (headN ops) (alL ops (headN ops)) && fB ops (headN ops) (alL ops (headN ops)) (mainL ops (headN ops)) && Region.seqB .any ops (ops.size - headN ops) (headN ops) (fullA ops (headN ops)))

def dstOf (ops : Array Oper) (j : Nat) : Option Tmp := (ops[j]?).bind (·.dst)
/-- The cells that came, put where they belong. -/
def putB (ops : Array Oper) (β : Nat → Option Nat) : List Nat → Act → Act
  | [], a => a
  | j :: r, a => putB ops β r (match β j with
    | some b => a.put (dstOf ops j) (.pointer (some ⟨b, 0, none⟩))
    | none => a)
theorem hasN_false {l : List Nat} {i : Nat} (h : hasN l i = false) : i ∉ l := fun hm => by rw [hasN_mem.2 hm] at h; cases h
theorem putB_put {ops : Array Oper} {β : Nat → Option Nat} {x : Option Tmp} {v : Value} : ∀ (als : List Nat) (a : Act), (∀ j ∈ als, ∀ d, x = some d → dstOf ops j ≠ some d) → putB ops β als (a.put x v) = (putB ops β als a).put x v
  | [], a, _ => rfl
  | j :: r, a, h => by
    unfold putB
    have hr := fun k hk => h k (List.mem_cons_of_mem _ hk)
    cases hb : β j with
    | none => exact putB_put r a hr
    | some b =>
      show putB ops β r ((a.put x v).put _ _) = (putB ops β r (a.put _ _)).put x v
      rw [Act.put_comm a v _ (h j (by simp)), putB_put r _ hr]
theorem putB_ext {ops : Array Oper} {β γ : Nat → Option Nat} : ∀ (als : List Nat) (a : Act), (∀ j ∈ als, β j = γ j) → putB ops β als a = putB ops γ als a
  | [], a, _ => rfl
  | j :: r, a, h => by
    unfold putB
    rw [h j (by simp)]
    exact putB_ext r _ fun k hk => h k (List.mem_cons_of_mem _ hk)
def upB (β : Nat → Option Nat) (j b : Nat) : Nat → Option Nat := fun k => if k = j then some b else β k
theorem putB_up {ops : Array Oper} {β : Nat → Option Nat} {j b : Nat} : ∀ (als : List Nat) (a : Act), als.Nodup → j ∈ als → β j = none → (∀ k ∈ als, k ≠ j → ∀ d, dstOf ops j = some d → dstOf ops k ≠ some d) →
    putB ops (upB β j b) als a = (putB ops β als a).put (dstOf ops j) (.pointer (some ⟨b, 0, none⟩))
  | [], a, _, hj, _, _ => by cases hj
  | k :: r, a, hn, hj, hb, hd => by
    have hkr := (List.nodup_cons.1 hn).1
    have hnr := (List.nodup_cons.1 hn).2
    unfold putB
    by_cases hk : k = j
    · subst hk
      simp only [upB, if_pos, hb]
      rw [putB_ext (γ := β) r _ (fun i hi => by unfold upB; rw [if_neg (show ¬ i = k from fun e => hkr (e ▸ hi))])]
      exact putB_put r a fun i hi d hd' => hd i (List.mem_cons_of_mem _ hi) (fun e => hkr (e ▸ hi)) d hd'
    · have hjr : j ∈ r := by
        rcases List.mem_cons.1 hj with h | h
        · exact absurd h.symm hk
        · exact h
      have e1 : upB β j b k = β k := if_neg hk
      rw [e1]
      exact putB_up r _ hnr hjr hb fun i hi => hd i (List.mem_cons_of_mem _ hi)
/-- What the cells' places leave alone. -/
structure Free (ops : Array Oper) (als : List Nat) (o : Oper) : Prop where
  look : ∀ j ∈ als, ∀ d, dstOf ops j = some d → d ∉ o.looksAt ops
  dst : ∀ j ∈ als, ∀ d, o.dst = some d → dstOf ops j ≠ some d
theorem apAll_free {ops : Array Oper} {als : List Nat} {o : Oper} {j0 : Nat} (h : apAll ops als j0 o = true) (h0 : j0 ∉ als) : Free ops als o := by
  have key : ∀ j ∈ als, ∃ oa, ops[j]? = some oa ∧ oa.apart ops o = true := fun j hj => by
    have := List.all_eq_true.1 h j hj
    rw [Bool.or_eq_true] at this
    rcases this with h1 | h1
    · exact absurd (Nat.eq_of_beq_eq_true h1 ▸ hj) h0
    · split at h1
      · exact ⟨_, by assumption, h1⟩
      · cases h1
  refine ⟨fun j hj d hd => ?_, fun j hj d hd hj2 => ?_⟩
  · obtain ⟨oa, h1, h2⟩ := key j hj
    exact (Oper.apart_spec h2).1 d (by simpa [dstOf, h1] using hd)
  · obtain ⟨oa, h1, h2⟩ := key j hj
    exact (Oper.apart_spec h2).2.1 d (by simpa [dstOf, h1] using hj2) hd
theorem exec_putB {ops : Array Oper} {β : Nat → Option Nat} {o : Oper} (hs : ∀ cs b, o.op ≠ .select cs b) : ∀ (als : List Nat) (a : Act), (∀ j ∈ als, ∀ d, dstOf ops j = some d → d ∉ o.looksAt ops) → execOp (putB ops β als a).eval o = execOp a.eval o
  | [], a, _ => rfl
  | j :: r, a, h => by
    unfold putB
    rw [exec_putB hs r _ fun k hk => h k (List.mem_cons_of_mem _ hk)]
    cases hb : β j with
    | none => rfl
    | some b => exact execOp_put o hs a _ _ (h j (by simp))
theorem wp_putB {P : Program} {ops : Array Oper} {β : Nat → Option Nat} {als : List Nat} {o : Oper} {a : Act} {w : World} {K : Act → World → Prop} {Q : Exit → Act → World → Prop} (hs : ∀ cs b, o.op ≠ .select cs b) (hf : Free ops als o)
    (h : o.wp P a w K (fun _ _ _ => False)) : o.wp P (putB ops β als a) w (fun a' w' => ∃ a0, a' = putB ops β als a0 ∧ K a0 w') Q := by
  have hput : ∀ (a : Act) (v : Value), (putB ops β als a).put o.dst v = putB ops β als (a.put o.dst v) := fun a v => (putB_put als a hf.dst).symm
  have hdef : ∀ (als : List Nat) (a : Act) (d : Deferred), ({ putB ops β als a with defers := d :: (putB ops β als a).defers } : Act) = putB ops β als { a with defers := d :: a.defers } := by
    intro als
    induction als with
    | nil => intro a d; rfl
    | cons j r ih =>
      intro a d
      unfold putB
      rw [ih]
      cases β j with
      | none => rfl
      | some b => simp only; rw [Act.put_defers]
  unfold Oper.wp at *
  rw [exec_putB hs als a hf.look]
  generalize (execOp a.eval o).run P w = r at *
  cases r with
  | ok n w' =>
    cases n <;> simp only [Oper.upon] at h ⊢
    case value u => exact ⟨_, hput a u, h⟩
    case skip => exact ⟨_, hput a _, h⟩
    case defer d => exact ⟨_, by rw [hdef, hput], h⟩
    case enter f args =>
      refine Calls.mono h fun e w'' he => ?_
      cases e with
      | returned u => exact ⟨_, hput a u, he⟩
      | panicked c => exact he.elim
      | outgrown => obtain ⟨_, _, h⟩ := he; exact h.elim
    case row row args => exact Rows.mono h fun u w'' he => ⟨_, hput a u, he⟩
  | halt x w' =>
    cases x <;> simp only [Oper.upon] at h ⊢
theorem run_al {P : Program} {o : Oper} {t : TypeId} {cs : Array Value} (ho : o.op = .alloc t) (hz : zc P t = some cs) (ρ : Operand → Value) (w : World) :
    (execOp ρ o).run P w = .ok (.value (.pointer (some ⟨w.heap.size, 0, none⟩))) (w.alloc (.cells cs t (0, 0))) := by
  unfold zc at hz
  split at hz
  · rename_i i hi
    split at hz
    · rename_i v hv
      obtain rfl := Option.some.inj hz
      simp [execOp, ho, Instr.alloc, newVar, newRow, newObj, zeroValue, typeInfo, program, Sem.run_bind, Sem.run, Result.andThen, hi, hv]
    · cases hz
  · cases hz
theorem fB_cons {ops : Array Oper} {n : Nat} {als : List Nat} {i : Nat} {r : List Nat} (h : fB ops n als (i :: r) = true) : ∃ o, ops[i]? = some o ∧ i < n ∧ o.guard = none ∧ apAll ops als ops.size o = true ∧
    (∀ e ∈ o.after, Region.binds .any e = true → e.on < n ∧ e.on ∉ i :: r ∧ e.on ∉ als) ∧
    ((isLoud o.op = true ∧ ∀ j ∈ r, ∃ oj, ops[j]? = some oj ∧ ∃ e ∈ oj.after, Region.binds .any e = true ∧ e.on ∈ i :: r) ∨
      (isLoud o.op = false ∧ isCall o.op = false ∧ ∀ j oj, ops[j]? = some oj → j ≠ i → (j ∈ r ∨ j ∈ als ∨ n ≤ j) → (∀ e ∈ oj.after, Region.binds .any e = true → e.on ≠ i) → o.apart ops oj = true)) ∧ fB ops n als r = true := by
  unfold fB at h
  rw [Bool.and_eq_true] at h
  obtain ⟨h, hr⟩ := h
  split at h
  · cases h
  · rename_i o ho
    simp only [Bool.and_eq_true] at h
    obtain ⟨⟨⟨⟨h1, h2⟩, h3⟩, h4⟩, h5⟩ := h
    refine ⟨o, ho, by simpa [Nat.blt_eq] using h1, by simpa using h2, h3, fun e he hb => ?_, ?_, hr⟩
    · have := List.all_eq_true.1 h4 e (by simpa using he)
      simp only [hb, Bool.not_true, Bool.false_or, Bool.and_eq_true, Bool.not_eq_true', Nat.blt_eq] at this
      exact ⟨this.1.1, hasN_false this.1.2, hasN_false this.2⟩
    · split at h5
      · rename_i hl
        refine .inl ⟨hl, fun j hj => ?_⟩
        have := List.all_eq_true.1 h5 j hj
        split at this
        · rename_i oj hoj
          obtain ⟨e, he, hb⟩ := List.any_eq_true.1 this
          rw [Bool.and_eq_true] at hb
          exact ⟨oj, hoj, e, by simpa using he, hb.1, hasN_mem.1 hb.2⟩
        · cases this
      · rename_i hl
        rw [Bool.and_eq_true] at h5
        refine .inr ⟨hl, by simpa using h5.1, fun j oj hoj hji hj hno => ?_⟩
        have hjs : j < ops.size := (Array.getElem?_eq_some_iff.1 hoj).1
        have := List.all_eq_true.1 h5.2 j (by simpa using hjs)
        simp only [Bool.or_eq_true, Bool.and_eq_true, Bool.not_eq_true', hoj, Nat.blt_eq] at this
        rcases this with (h | ⟨⟨h1, h2⟩, h3⟩) | h | h
        · exact absurd (Nat.eq_of_beq_eq_true h) hji
        · rcases hj with hj | hj | hj
          · exact absurd hj (hasN_false h2)
          · exact absurd hj (hasN_false h3)
          · omega
        · obtain ⟨e, he, hb⟩ := List.any_eq_true.1 h
          rw [Bool.and_eq_true] at hb
          exact absurd (Nat.eq_of_beq_eq_true hb.2) (hno e (by simpa using he) hb.1)
        · exact h
theorem aB_out {P : Program} {ops : Array Oper} {n : Nat} {als : List Nat} (h : aB P ops n als = true) {j : Nat} (hj : j ∈ als) : j < n ∧ ∃ o t cs, ops[j]? = some o ∧ o.op = .alloc t ∧ zc P t = some cs ∧ o.guard = none ∧ (∀ e ∈ o.after, Region.binds .any e = false) ∧ apAll ops als j o = true := by
  have := List.all_eq_true.1 h j hj
  rw [Bool.and_eq_true] at this
  obtain ⟨h1, h2⟩ := this
  refine ⟨by simpa [Nat.blt_eq] using h1, ?_⟩
  split at h2
  · rename_i o ho
    simp only [Bool.and_eq_true] at h2
    obtain ⟨⟨⟨h2, h3⟩, h4⟩, h5⟩ := h2
    split at h2
    · rename_i t hop
      obtain ⟨cs, hcs⟩ := Option.isSome_iff_exists.1 h2
      refine ⟨o, t, cs, ho, hop, hcs, by simpa using h3, fun e he => ?_, h5⟩
      simpa using List.all_eq_true.1 h4 e (by simpa using he)
    · cases h2
  · cases h2
theorem vcA_fin {P : Program} {ops : Array Oper} {w0 w : World} {β : Nat → Option Nat} {fin : Act → World → Prop} : ∀ (r used : List Nat) (a : Act), r.Nodup →
    (∀ j ∈ r, ∃ b o t cs, β j = some b ∧ ops[j]? = some o ∧ o.op = .alloc t ∧ zc P t = some cs ∧ w0.heap.size ≤ b ∧ w.heap[b]? = some (.cells cs t (0, 0)) ∧ ∀ k ∈ used, b ≠ k) →
    (∀ j ∈ r, ∀ k ∈ r, ∀ b, β j = some b → β k = some b → j = k) → vcA P ops w0 fin r used a w → fin (putB ops β r a) w
  | [], _, _, _, _, _, h => h
  | j :: r, used, a, hn, hb, hi, h => by
    obtain ⟨b, o, t, cs, e1, e2, e3, e4, h1, h2, h3⟩ := hb j (by simp)
    unfold vcA at h
    simp only [e2, e3, e4] at h
    unfold putB
    simp only [e1]
    have hd : dstOf ops j = o.dst := by simp [dstOf, e2]
    rw [hd]
    refine vcA_fin r (b :: used) _ (List.nodup_cons.1 hn).2 (fun k hk => ?_) (fun x hx y hy => hi x (List.mem_cons_of_mem _ hx) y (List.mem_cons_of_mem _ hy)) (h b ⟨h1, h3, h2⟩)
    obtain ⟨b', o', t', cs', f1, f2, f3, f4, g1, g2, g3⟩ := hb k (List.mem_cons_of_mem _ hk)
    refine ⟨b', o', t', cs', f1, f2, f3, f4, g1, g2, fun x hx => ?_⟩
    rcases List.mem_cons.1 hx with rfl | hx
    · intro he
      subst he
      have := hi j (by simp) k (List.mem_cons_of_mem _ hk) _ e1 f1
      exact (List.nodup_cons.1 hn).1 (this ▸ hk)
    · exact g3 x hx
theorem cnt_up {β : Nat → Option Nat} {j b : Nat} : ∀ (als : List Nat), als.Nodup → j ∈ als → β j = none → (als.filter fun k => (β k).isNone).length = (als.filter fun k => (upB β j b k).isNone).length + 1
  | [], _, hj, _ => by cases hj
  | k :: r, hn, hj, hb => by
    by_cases hk : k = j
    · subst hk
      have e : r.filter (fun i => (upB β k b i).isNone) = r.filter fun i => (β i).isNone := List.filter_congr fun i hi => by
        unfold upB; rw [if_neg (show ¬ i = k from fun e => (List.nodup_cons.1 hn).1 (e ▸ hi))]
      have u : upB β k b k = some b := if_pos rfl
      simp [List.filter_cons, hb, u, e]
    · have hjr : j ∈ r := by
        rcases List.mem_cons.1 hj with h | h
        · exact absurd h.symm hk
        · exact h
      have := cnt_up (b := b) r (List.nodup_cons.1 hn).2 hjr hb
      have e1 : upB β j b k = β k := if_neg hk
      cases h : β k <;> simp [List.filter_cons, e1, h, this]
structure FSt (P : Program) (ops : Array Oper) (n : Nat) (als : List Nat) (w0 : World) (M : List Nat) (listed : Array Bool) (β : Nat → Option Nat) (a0 a : Act) (w1 w : World) : Prop where
  inv : HeadInv .any ops n listed
  mem : ∀ j, j < n → (listed.getD j false = false ↔ (j ∈ M ∨ (j ∈ als ∧ β j = none)))
  act : a = putB ops β als a0
  ah : Ahead w1 w
  ah0 : w0.heap.size ≤ w.heap.size
  blk : ∀ j ∈ als, ∀ b, β j = some b → ∃ o t cs, ops[j]? = some o ∧ o.op = .alloc t ∧ zc P t = some cs ∧ w0.heap.size ≤ b ∧ w.heap[b]? = some (.cells cs t (0, 0))
  inj : ∀ j ∈ als, ∀ k ∈ als, ∀ b, β j = some b → β k = some b → j = k
theorem wanted_none {ops : Array Oper} {o : Oper} {a : Act} (h : o.guard = none) : Region.wanted o (yielded ops a.tmps) = true := by simp [Region.wanted, h]
theorem float_go {P : Program} {ops : Array Oper} {Q : Exit → Act → World → Prop} {n : Nat} {als : List Nat} {w0 : World} (hA : aB P ops n als = true) (hnd : als.Nodup) (hsel : Region.noSelect ops = true) (hQ : ∀ c a w, ¬ Q (.panic c) a w)
    (hT : WaitsT .any ops n) (hn : n ≤ ops.size) (hseq : Region.seqB .any ops (ops.size - n) n (fullA ops n) = true) :
    ∀ (f : Nat) (M : List Nat) (listed : Array Bool) (β : Nat → Option Nat) (a0 a : Act) (w1 w : World), f = M.length + (als.filter fun j => (β j).isNone).length → FSt P ops n als w0 M listed β a0 a w1 w → fB ops n als M = true → M.Nodup → (∀ j ∈ M, j ∉ als) →
      vcF P ops (fun a' w' => vcA P ops w0 (fun a2 w2 => vcOps P ops Q (ops.toList.drop n) a2 w2) als [] a' w') M a0 w1 → wpAnyT P .any ops Q n (fun _ => Ahead) (f + (ops.size - n)) listed a w := by
  have hals : ops.size ∉ als := fun h => by have := (aB_out hA h).1; omega
  intro f
  induction f with
  | zero =>
    intro M listed β a0 a w1 w hc S hB hM hMa h
    have hM0 : M = [] := List.eq_nil_of_length_eq_zero (by omega)
    subst hM0
    have hall : ∀ j ∈ als, ∃ b, β j = some b := fun j hj => by
      cases hb : β j with
      | some b => exact ⟨b, rfl⟩
      | none =>
        have : j ∈ als.filter fun j => (β j).isNone := List.mem_filter.2 ⟨hj, by simp [hb]⟩
        have := List.length_pos_of_mem this
        simp at hc
        omega
    have hfin := vcA_fin (β := β) als [] a0 hnd (fun j hj => by
      obtain ⟨b, hb⟩ := hall j hj
      obtain ⟨o, t, cs, e2, e3, e4, h1, h2⟩ := S.blk j hj b hb
      exact ⟨b, o, t, cs, hb, e2, e3, e4, h1, h2, fun k hk => by cases hk⟩) S.inj (h w S.ah)
    rw [← S.act] at hfin
    have hfull : listed = fullA ops n := by
      apply Array.ext
      · rw [S.inv.size]; simp [fullA]; omega
      · intro i h1 h2
        have hs := S.inv.size
        by_cases hi : i < n
        · have : listed.getD i false = true := by
            cases hl : listed.getD i false with
            | true => rfl
            | false =>
              rcases (S.mem i hi).1 hl with h | ⟨h, h'⟩
              · cases h
              · obtain ⟨b, hb⟩ := hall i h; rw [hb] at h'; cases h'
          have e1 : listed[i] = true := by simpa [h1] using this
          rw [e1]
          simp [fullA, List.getElem_append, hi]
        · have := S.inv.tail i (by omega) (by omega)
          have e1 : listed[i] = false := by simpa [h1] using this
          rw [e1]
          simp [fullA, List.getElem_append, hi]
    have hlen : (ops.toList.drop n).length = ops.size - n := by simp
    have := wpAnyT_of_seq (P := P) (Q := Q) (md := .any) (n := n) (S := fun _ => Ahead) (ops.toList.drop n) n listed a w (Nat.le_refl _) (fun j => by simp [List.getElem?_drop]) (by rw [hlen, hfull]; exact hseq) (vcOps_sound _ _ _ hfin)
    rw [hlen] at this
    simpa using this
  | succ f ih =>
    intro M listed β a0 a w1 w hc S hB hM hMa h
    rw [show f + 1 + (ops.size - n) = (f + (ops.size - n)) + 1 by omega]
    have lis : ∀ {j : Nat}, j < n → j ∉ M → j ∉ als → listed.getD j false = true := fun {j} hj h1 h2 => by
      cases hl : listed.getD j false with
      | true => rfl
      | false =>
        rcases (S.mem j hj).1 hl with h | ⟨h, _⟩
        · exact absurd h h1
        · exact absurd h h2
    have unl : ∀ {j : Nat}, j < n → (j ∈ M ∨ (j ∈ als ∧ β j = none)) → listed.getD j true = false := fun {j} hj h => getD_in (by rw [S.inv.size]; omega) ((S.mem j hj).2 h)
    have memOf : ∀ {j : Nat}, j < n → listed.getD j true = false → j ∈ M ∨ (j ∈ als ∧ β j = none) := fun {j} hj h => (S.mem j hj).1 (getD_both h)
    -- a step of the main list
    have stepMem : ∀ {i : Nat} {r : List Nat}, M = i :: r → i < n → ∀ j, j < n → ((listed.setIfInBounds i true).getD j false = false ↔ (j ∈ r ∨ (j ∈ als ∧ β j = none))) := by
      intro i r hMe hin j hj
      subst hMe
      by_cases hij : i = j
      · subst hij
        have hlt : i < listed.size := by rw [S.inv.size]; omega
        constructor
        · intro h; simp [hlt] at h
        · rintro (h | ⟨h, _⟩)
          · exact absurd h (List.nodup_cons.1 hM).1
          · exact absurd h (hMa i (by simp))
      · rw [getD_set_ne false hij, S.mem j hj]
        simp [Ne.symm hij]
    by_cases hq : ∃ i r o, M = i :: r ∧ ops[i]? = some o ∧ isLoud o.op = false
    · obtain ⟨i, r, o, rfl, ho, hl⟩ := hq
      obtain ⟨o', ho', hin, hg, hap, haf, hk, hBr⟩ := fB_cons hB
      rw [ho] at ho'
      obtain rfl := Option.some.inj ho'
      rcases hk with ⟨hl', _⟩ | ⟨_, hcall, hfree⟩
      · rw [hl] at hl'; cases hl'
      have hFr := apAll_free hap hals
      unfold vcF at h
      simp only [ho, hl] at h
      obtain ⟨v, hv, hkk⟩ := vcQOp_val hcall h
      have hready : i ∈ Region.ready .any ops listed := mem_ready.2 ⟨unl hin (.inl (by simp)), o, ho, fun e he hb => by obtain ⟨h1, h2, h3⟩ := haf e he hb; exact lis h1 h2 h3⟩
      refine wpAnyT_first (C := fun _ => Ahead) (S := Ahead w1) (v := v) ho hin (Region.noSelect_spec hsel) hQ hT (fun w => Ahead.refl w) (fun _ _ _ j _ x y hc hs => hs.trans hc) _ listed a w S.inv ?_ hready (.inl ⟨wanted_none hg, fun w' hS => ?_⟩) S.ah ?_
      · intro j oj hoj hji hun hno
        refine hfree j oj hoj hji ?_ hno
        rcases Nat.lt_or_ge j n with hjn | hjn
        · rcases memOf hjn hun with h | h
          · rcases List.mem_cons.1 h with h | h
            · exact absurd h hji
            · exact .inl h
          · exact .inr (.inl h.1)
        · exact .inr (.inr hjn)
      · rw [S.act, exec_putB (Region.noSelect_spec hsel i o · · ho) als a0 hFr.look]; exact hv w' hS
      · refine ih r _ β (a0.put o.dst v) _ w1 w (by simp at hc; omega) ⟨S.inv.set hready hin, stepMem rfl hin, by rw [S.act, putB_put als a0 hFr.dst], S.ah, S.ah0, S.blk, S.inj⟩ hBr (List.nodup_cons.1 hM).2 (fun j hj => hMa j (List.mem_cons_of_mem _ hj)) hkk
    · -- something is ready, and it is no quiet operation
      have hex : ∃ j, j < n ∧ listed.getD j true = false ∧ j ∈ Region.ready .any ops listed := by
        cases M with
        | cons i r =>
          obtain ⟨o, ho, hin, hg, hap, haf, hk, hBr⟩ := fB_cons hB
          exact ⟨i, hin, unl hin (.inl (by simp)), mem_ready.2 ⟨unl hin (.inl (by simp)), o, ho, fun e he hb => by obtain ⟨h1, h2, h3⟩ := haf e he hb; exact lis h1 h2 h3⟩⟩
        | nil =>
          have hpos : 0 < (als.filter fun j => (β j).isNone).length := by simp at hc; omega
          obtain ⟨j, hj⟩ := List.exists_mem_of_length_pos hpos
          obtain ⟨hja, hjb⟩ := List.mem_filter.1 hj
          obtain ⟨hjn, o, t, cs, ho, _, _, _, haf, _⟩ := aB_out hA hja
          have hu := unl hjn (.inr ⟨hja, by simpa using hjb⟩)
          exact ⟨j, hjn, hu, mem_ready.2 ⟨hu, o, ho, fun e he hb => by rw [haf e he] at hb; cases hb⟩⟩
      obtain ⟨j0, hj0, hu0, hr0⟩ := hex
      refine ⟨fun h0 => absurd (h0 ▸ hr0) (by simp), fun i hi => ?_⟩
      have hin : i < n := by
        rcases Nat.lt_or_ge i n with h | h
        · exact h
        · exact absurd hi (hT listed S.inv j0 hj0 hu0 i h)
      obtain ⟨hiu, oi, hoi, hall⟩ := mem_ready.1 hi
      rcases memOf hin hiu with hiM | ⟨hia, hib⟩
      · cases M with
        | nil => cases hiM
        | cons i0 r =>
          obtain ⟨o, ho, hin0, hg, hap, haf, hk, hBr⟩ := fB_cons hB
          rcases hk with ⟨hl, hdep⟩ | ⟨hl, _, _⟩
          · have hii : i = i0 := by
              rcases List.mem_cons.1 hiM with h | h
              · exact h
              · obtain ⟨oj, hoj, e, he, hb, hon⟩ := hdep i h
                rw [hoi] at hoj
                obtain rfl := Option.some.inj hoj
                have h1 := hall e he hb
                have hlt : e.on < n := by
                  rcases List.mem_cons.1 hon with h | h
                  · rw [h]; exact hin0
                  · rcases Nat.lt_or_ge e.on n with h2 | h2
                    · exact h2
                    · rcases Nat.lt_or_ge e.on ops.size with h3 | h3
                      · have := getD_both (S.inv.tail _ h2 h3); rw [this] at h1; cases h1
                      · rw [Array.getD_eq_getD_getElem?, Array.getElem?_eq_none (by rw [S.inv.size]; exact h3)] at h1; cases h1
                rw [getD_both (unl hlt (.inl hon))] at h1
                cases h1
            subst hii
            rw [hoi] at ho
            obtain rfl := Option.some.inj ho
            unfold vcF at h
            simp only [hoi, hl] at h
            have hFr := apAll_free hap hals
            have hw := wp_putB (β := β) (Q := Q) (Region.noSelect_spec hsel i oi · · hoi) hFr (vcOp_sound (h w S.ah))
            rw [← S.act] at hw
            unfold wpOp
            simp only [hoi]
            rw [if_pos (wanted_none hg)]
            refine .inl (Oper.wp_mono (fun a' w' ⟨a0', ea, hA', hK⟩ => ⟨fun _ => hA', ?_⟩) hw)
            refine ih r _ β a0' a' w' w' (by simp at hc; omega) ⟨S.inv.set hi hin, stepMem rfl hin, ea, Ahead.refl _, Nat.le_trans S.ah0 (Below.size hA'), fun j hj b hb => ?_, S.inj⟩ hBr (List.nodup_cons.1 hM).2 (fun j hj => hMa j (List.mem_cons_of_mem _ hj)) hK
            obtain ⟨o, t, cs, e2, e3, e4, h1, h2⟩ := S.blk j hj b hb
            exact ⟨o, t, cs, e2, e3, e4, h1, by rw [Below.block hA' b (Array.getElem?_eq_some_iff.1 h2).1]; exact h2⟩
          · exact absurd ⟨i0, r, o, rfl, ho, hl⟩ hq
      · obtain ⟨_, o, t, cs, ho, hop, hz, hg, haf, hap⟩ := aB_out hA hia
        rw [hoi] at ho
        obtain rfl := Option.some.inj ho
        unfold wpOp
        simp only [hoi]
        rw [if_pos (wanted_none hg)]
        refine .inl ?_
        unfold Oper.wp
        rw [run_al hop hz]
        have hdst : dstOf ops i = oi.dst := by simp [dstOf, hoi]
        have hal : Ahead w (w.alloc (.cells cs t (0, 0))) := Below.alloc (Below.refl _ _) (Nat.le_refl _) _
        have hsz : (w.alloc (.cells cs t (0, 0))).heap.size = w.heap.size + 1 := by show (w.heap.push _).size = _; simp
        have hget : (w.alloc (.cells cs t (0, 0))).heap[w.heap.size]? = some (.cells cs t (0, 0)) := by show (w.heap.push _)[w.heap.size]? = _; simp
        have hdd : ∀ k ∈ als, k ≠ i → ∀ d, dstOf ops i = some d → dstOf ops k ≠ some d := fun k hk hki d hd hd2 => by
          have := List.all_eq_true.1 hap k hk
          rw [Bool.or_eq_true] at this
          rcases this with h1 | h1
          · exact hki (Nat.eq_of_beq_eq_true h1)
          · obtain ⟨_, ok, _, _, hok, _⟩ := aB_out hA hk
            simp only [hok] at h1
            exact (Oper.apart_spec h1).2.1 d (by simpa [dstOf, hok] using hd2) (by rw [← hdst]; exact hd)
        refine ⟨fun _ => hal, ih M _ (upB β i w.heap.size) a0 _ w1 _ (by have := cnt_up (b := w.heap.size) als hnd hia hib; omega) ⟨S.inv.set hi hin, fun j hj => ?_, ?_, S.ah.trans hal, Nat.le_trans S.ah0 (Below.size hal), fun j hj b hb => ?_, fun j hj k hk b h1 h2 => ?_⟩ hB hM hMa h⟩
        · by_cases hij : i = j
          · subst hij
            have hlt : i < listed.size := by rw [S.inv.size]; omega
            have u : upB β i w.heap.size i = some w.heap.size := if_pos rfl
            constructor
            · intro h; simp [hlt] at h
            · rintro (h | ⟨_, h⟩)
              · exact absurd hia (hMa i h)
              · rw [u] at h; cases h
          · have u : upB β i w.heap.size j = β j := if_neg (Ne.symm hij)
            rw [getD_set_ne false hij, S.mem j hj, u]
        · rw [S.act, putB_up als a0 hnd hia hib hdd, hdst]
        · by_cases hji : j = i
          · subst hji
            have u : upB β j w.heap.size j = some w.heap.size := if_pos rfl
            rw [u] at hb
            obtain rfl := Option.some.inj hb
            exact ⟨oi, t, cs, hoi, hop, hz, S.ah0, hget⟩
          · have u : upB β i w.heap.size j = β j := if_neg hji
            rw [u] at hb
            obtain ⟨o, t', cs', e2, e3, e4, h1, h2⟩ := S.blk j hj b hb
            exact ⟨o, t', cs', e2, e3, e4, h1, by rw [Below.block hal b (Array.getElem?_eq_some_iff.1 h2).1]; exact h2⟩
        · have lt : ∀ j ∈ als, ∀ b, β j = some b → b < w.heap.size := fun j hj b hb => by
            obtain ⟨o, t', cs', _, _, _, _, h2⟩ := S.blk j hj b hb
            exact (Array.getElem?_eq_some_iff.1 h2).1
          by_cases hji : j = i <;> by_cases hki : k = i
          · rw [hji, hki]
          · have u1 : upB β i w.heap.size j = some w.heap.size := if_pos hji
            have u2 : upB β i w.heap.size k = β k := if_neg hki
            rw [u1] at h1; rw [u2] at h2
            have := lt k hk b h2
            have := Option.some.inj h1
            omega
          · have u1 : upB β i w.heap.size j = β j := if_neg hji
            have u2 : upB β i w.heap.size k = some w.heap.size := if_pos hki
            rw [u1] at h1; rw [u2] at h2
            have := lt j hj b h1
            have := Option.some.inj h2
            omega
          · have u1 : upB β i w.heap.size j = β j := if_neg hji
            have u2 : upB β i w.heap.size k = β k := if_neg hki
            rw [u1] at h1; rw [u2] at h2
            exact S.inj j hj k hk b h1 h2
theorem region_float {P : Program} {id : Nat} {ops : Array Oper} {Q : Exit → Act → World → Prop} {a : Act} {w : World} (hm : P.follows .mixedOrders = true) (hB : floatB P ops = true)
    (h : vcF P ops (fun a1 w1 => vcA P ops w.drew (fun a2 w2 => vcOps P ops Q (ops.toList.drop (headN ops)) a2 w2) (alL ops (headN ops)) [] a1 w1) (mainL ops (headN ops)) a w.drew) : (Code.region id ops true).wp P Q a w := by
  simp only [floatB, Bool.and_eq_true, Bool.or_eq_true, Nat.beq_eq, Nat.blt_eq] at hB
  obtain ⟨⟨hsel, hn⟩, ⟨hA, hF⟩, hseq⟩ := hB
  generalize hnn : headN ops = n at *
  have hn' : n ≤ ops.size := by omega
  have hT : WaitsT .any ops n := fun listed inv i hi hu t ht => by
    rcases hn with hn | ⟨⟨h1, h2⟩, h3⟩
    · intro hr
      obtain ⟨_, o, ho, _⟩ := mem_ready.1 hr
      have := (Array.getElem?_eq_some_iff.1 ho).1
      omega
    · exact tail_waits h2 h3 h1 inv _ i rfl hi hu t ht
  have inv0 : HeadInv .any ops n (Array.replicate ops.size false) :=
    ⟨by simp, fun j oj _ hl => (by rw [getD_replicate_false] at hl; cases hl), fun t _ ht => getD_in (by simpa using ht) (getD_replicate_false _ _)⟩
  let Q' : Exit → Act → World → Prop := fun e a w => match e with | .normal => Q .normal a w | _ => False
  have hq : ∀ e a w, Q' e a w → Q e a w := fun e a w h => by cases e <;> first | exact h | exact h.elim
  have heq : ∀ l : List Oper, vcOps P ops Q l = vcOps P ops Q' l := by
    intro l
    induction l with
    | nil => rfl
    | cons o l ih => funext a w; simp only [vcOps, ih]
  rw [heq] at h
  have hnodup : (List.range n).Nodup := List.nodup_range
  have hlen0 : (mainL0 ops n).length ≤ n := by
    have := List.length_filter_le (fun j => !alAt ops j) (List.range n)
    rw [List.length_range] at this
    exact this
  have hperm : (mainL ops n).Perm (mainL0 ops n) := ordL_perm ops n _ hlen0
  have := float_go (Q := Q') (w0 := w.drew) hA (hnodup.filter _) hsel (fun c a w h => h) hT hn' hseq n (mainL ops n) (Array.replicate ops.size false) (fun _ => none) a a w.drew w.drew ?_ ⟨inv0, fun j hj => ?_, ?_, Ahead.refl _, Nat.le_refl _, fun j _ b hb => (by cases hb), fun j _ k _ b hb => (by cases hb)⟩ hF (hperm.nodup_iff.2 (hnodup.filter _)) (fun j hj hj' => ?_) h
  · rw [show n + (ops.size - n) = ops.size by omega] at this
    exact wp_mono (wp_region_any hm (wpAny_of_T _ _ _ _ this)) hq
  · have e1 : (alL ops n).filter (fun j => ((fun _ => none : Nat → Option Nat) j).isNone) = alL ops n := by simp
    rw [e1, hperm.length_eq, mainL0, alL]
    have : ∀ l : List Nat, l.length = (l.filter fun j => !alAt ops j).length + (l.filter fun j => alAt ops j).length := by
      intro l
      induction l with
      | nil => rfl
      | cons x l ih => cases hx : alAt ops x <;> simp [List.filter_cons, hx] <;> omega
    have := this (List.range n)
    rw [List.length_range] at this
    exact this
  · rw [getD_replicate_false]
    simp only [true_iff]
    cases hx : alAt ops j
    · exact .inl (hperm.mem_iff.2 (List.mem_filter.2 ⟨by simpa using hj, by simp [hx]⟩))
    · exact .inr ⟨List.mem_filter.2 ⟨by simpa using hj, hx⟩, by trivial⟩
  · have : ∀ (l : List Nat) (a : Act), putB ops (fun _ => none) l a = a := by
      intro l
      induction l with
      | nil => intro a; rfl
      | cons x l ih => intro a; exact ih a
    exact (this _ _).symm
  · have h1 := (List.mem_filter.1 (hperm.mem_iff.1 hj)).2
    have h2 := (List.mem_filter.1 hj').2
    rw [h2] at h1; cases h1

/-- Regions that are walked with blocks that may change: marks for 'cut'. -/
def marks (ids : List Nat) (cut : Nat → Option ((Act → World → Prop) × (Act → World → Nat))) : Nat → Option ((Act → World → Prop) × (Act → World → Nat)) := fun i => match hasN ids i with
  | true => some (fun _ _ => True, fun _ _ => 0)
  | false => cut i

/-- A statement that nobody is to open by mistake. -/
structure Hold (p : Prop) : Prop where
  out : p
theorem kcast {A : Prop} (h : A) {B : Prop} (e : A = B) : Hold B := ⟨e ▸ h⟩
def tailAt (ops : Array Oper) : Option Nat := ops.toList.findIdx? fun o => match o.op with
  | .store .. => true
  | _ => false

/-- Is the region to be walked so? -/
def heldAt (ops : Array Oper) : Bool := (ops.toList.take (headN ops)).any fun o => isLoud o.op

/-- The first region's number, and one; or 0. -/
def entry : Code → Nat
  | .region id _ _ => id + 1
  | .seq x y => match entry x with
    | 0 => entry y
    | n + 1 => n + 1
  | .cond _ x y => match entry x with
    | 0 => entry y
    | n + 1 => n + 1
  | .block _ c => entry c
  | .loop c => entry c
  | _ => 0

def notDefer (o : Oper) : Bool := match o.op with
  | .defer _ => false
  | _ => true
theorem notDefer_spec {o : Oper} (h : notDefer o = true) : ∀ c, o.op ≠ .defer c := fun c e => by simp [notDefer, e] at h
/-- Any world of frames, one round or none. -/
abbrev rd (l : Nat) : Fence := Fence.wide.inRound l
theorem rows_in {l n : Nat} {P : Program} {row : String} {args : Array Value} {w : World} {R : Value → World → Prop} (h : Rows P row args w R) : RowsIn (rd l) n P row args w R :=
  fun c cs _ => let ⟨v, w', r, s⟩ := h c cs; ⟨v, w', r, stepsIn_wide.2 s⟩
theorem oper_in {l n : Nat} {P : Program} {o : Oper} {a : Act} {w : World} {next : Act → World → Prop} {Q : Exit → Act → World → Prop} (hd : notDefer o = true) (h : o.wp P a w next Q) : o.wpIn (rd l) n P a w next Q := by
  refine ⟨fun f _ => trivial, ?_⟩
  show o.uponIn (rd l) n P a next Q ((o.semAt (some l) a.eval).run P w)
  rw [Oper.semAt_some l _ _ (notDefer_spec hd)]
  unfold Oper.wp at h
  generalize (execOp a.eval o).run P w = r at h
  cases r with
  | halt x w' => cases x <;> exact h
  | ok nx w' =>
    cases nx <;> simp only [Oper.upon] at h
    case enter f args => exact ⟨fun hh => (by cases hh), CallsIn.inRound l (callsIn_wide.2 h)⟩
    case row row args => exact ⟨fun hh => (by cases hh), rows_in h⟩
    all_goals exact h
theorem ops_in {l n : Nat} {P : Program} {ops : Array Oper} {Q : Exit → Act → World → Prop} : ∀ (L : List Oper) (i : Nat) (a : Act) (w : World), (∀ j, L[j]? = ops[i + j]?) → L.all notDefer = true → vcOps P ops Q L a w → wpOpsIn (rd l) n P ops Q (List.range' i L.length) a w
  | [], _, _, _, _, _, h => h
  | o :: rest, i, a, w, hL, hn, h => by
    have h0 : ops[i]? = some o := by simpa using (hL 0).symm
    simp only [List.all_cons, Bool.and_eq_true] at hn
    have ih := fun a w => ops_in (l := l) (n := n) (P := P) (ops := ops) (Q := Q) rest (i + 1) a w (fun j => by have := hL (j + 1); simpa [Nat.add_assoc, Nat.add_comm 1 j] using this) hn.2
    have hK : ∀ a w, vcOp P o a (vcOps P ops Q rest) w → o.wpIn (rd l) n P a w (wpOpsIn (rd l) n P ops Q (List.range' (i + 1) rest.length)) Q := fun a w h =>
      oper_in hn.1 (Oper.wp_mono (fun a w h => ih a w h) (vcOp_sound (Q := Q) h))
    rw [List.length_cons, List.range'_succ]
    unfold wpOpsIn
    simp only [h0]
    rw [vcOps] at h
    have hskip : ∀ a : Act, Region.wanted o (yielded ops a.tmps) = false → vcOps P ops Q rest (a.put o.dst undef) w → (if Region.wanted o (yielded ops a.tmps) then o.wpIn (rd l) n P a w (wpOpsIn (rd l) n P ops Q (List.range' (i + 1) rest.length)) Q else (∀ f, o.about P w a.eval = some f → (rd l).fn f) ∧ wpOpsIn (rd l) n P ops Q (List.range' (i + 1) rest.length) (a.put o.dst undef) w) := by
      intro a hw h
      rw [if_neg (by simp [hw])]
      exact ⟨fun _ _ => trivial, ih _ _ h⟩
    split at h
    · rename_i hg
      rw [if_pos (by simp [Region.wanted, hg])]
      exact hK _ _ h
    · rename_i j want hg
      split at h
      · rename_i d hd
        split at h
        · rename_i b hb
          have hy : yielded ops a.tmps j = some b := by simp [yielded, hd, hb]
          have hwant : Region.wanted o (yielded ops a.tmps) = (b == want) := by simp [Region.wanted, hg, hy]
          cases b
          · rw [br, put_same hb] at h
            cases want
            · rw [if_pos (by simp [hwant])]
              exact hK _ _ h
            · exact hskip a (by simp [hwant]) h
          · rw [br, put_same hb] at h
            cases want
            · exact hskip a (by simp [hwant]) h
            · rw [if_pos (by simp [hwant])]
              exact hK _ _ h
        · rename_i hb
          refine hskip a ?_ h
          have hy : yielded ops a.tmps j = none := by
            simp only [yielded, hd, Option.bind_some]
            all_goals
              generalize a.tmps[d]? = v at hb
              cases v with
              | none => rfl
              | some v => cases v <;> first | rfl | exact absurd rfl (hb _)
          simp [Region.wanted, hg, hy]
      · rename_i hd
        refine hskip a ?_ h
        have hy : yielded ops a.tmps j = none := by simp [yielded, hd]
        simp [Region.wanted, hg, hy]

/-- Code that a round may hold: no draw, no loop, nothing deferred. -/
def roundB : Code → Bool
  | .skip => true
  | .region _ ops draw => !draw && ops.toList.all notDefer
  | .seq x y => roundB x && roundB y
  | .cond _ x y => roundB x && roundB y
  | .block _ c => roundB c
  | .exit _ => true
  | .label _ => true
  | .ret => true
  | _ => false
/-- A round's assignment to the loop's variables, carried out. -/
def asgOps : List Oper → Act → Option Act
  | [], a => some a
  | o :: r, a => match o.guard with
    | none => match o.op with
      | .assign x => asgOps r (a.put o.dst (a.eval x))
      | .move x => asgOps r (a.put o.dst (a.eval x))
      | _ => none
    | some _ => none
def asgA : Code → Act → Option Act
  | .region _ ops draw, a => match draw with
    | false => asgOps ops.toList a
    | true => none
  | .seq x y, a => match asgA x a with
    | some a1 => asgA y a1
    | none => none
  | .skip, a => some a
  | _, _ => none
def exitsOf : Code → List Nat
  | .seq x y => exitsOf x ++ exitsOf y
  | .cond _ x y => exitsOf x ++ exitsOf y
  | .block id c => (exitsOf c).filter fun i => !Nat.beq i id
  | .exit i => [i]
  | _ => []
abbrev pI (p : Int × Int) : Array Value := #[.int .i64 p.1, .int .i64 p.2]
def exP {α : Type} (f : α → Prop) : List α → Prop
  | [] => True
  | i :: r => f i ∧ exP f r
theorem exP_mem {α : Type} {f : α → Prop} {i : α} : ∀ {l : List α}, exP f l → i ∈ l → f i
  | [], _, h => by cases h
  | j :: r, h, hm => by
    rcases List.mem_cons.1 hm with e | e
    · rw [e]; exact h.1
    · exact exP_mem h.2 e
/-- What is known of an iterator of pairs of whole numbers. -/
structure IterP (P : Program) (gf : Nat) (lb : Array Value) (Kp : World → World → Prop) (S Sp : List (Int × Int) → Prop) (N : Nat) (w : World) : Prop where
  seq : SeqStopsK Fence.wide 4 P gf lb pI Kp S Sp N w
  enters : ∀ args w, (callFunc gf args).run P w = .ok (.enter gf args) w
  trans : ∀ {A B C : World}, Kp A B → Kp B C → Kp A C
  obj : ∀ (W : World) (l : Nat) (o o' : Obj), w.heap.size ≤ l → W.heap[l]? = some o → o.isCells = false → o.isWalk = false → Kp W (W.putObj l o')
/-- A loop over such an iterator: the round's body, all have come, a round has returned, a round has left. -/
def rangeP (P : Program) (gv : Value) (w : World) (asg : Int → Int → Bool) (body : Int → Int → World → (World → Prop) → (World → Prop) → (Nat → World → Prop) → Prop) (done ret : Nat → World → Prop) (exs : List (Nat × (Nat → World → Prop))) : Prop :=
  ∃ (gf : Nat) (lb : Array Value) (Kp : World → World → Prop) (S Sp : List (Int × Int) → Prop) (N : Nat) (I Xr : List (Int × Int) → World → Prop) (Xe : Nat → List (Int × Int) → World → Prop),
    gv = .func (.func gf) #[] lb ∧ IterP P gf lb Kp S Sp N w ∧ (∀ x y, asg x y = true) ∧ OwnFrom w.heap.size I ∧ OwnFrom w.heap.size Xr ∧ (∀ i, OwnFrom w.heap.size (Xe i)) ∧ I [] w ∧
    (∀ (pre : List (Int × Int)) (x y : Int) (W : World), I pre W → pre.length < N → body x y W (fun W2 => KeepsFrom w.heap.size W W2 ∧ Kp W W2 ∧ I (pre ++ [(x, y)]) W2) (fun W2 => KeepsFrom w.heap.size W W2 ∧ Xr (pre ++ [(x, y)]) W2) (fun i W2 => i ∈ exs.map (·.1) ∧ KeepsFrom w.heap.size W W2 ∧ Xe i (pre ++ [(x, y)]) W2)) ∧
    (∀ (D : Nat) (xs : List (Int × Int)) (W : World), w.heap.size ≤ D → S xs → I xs W → W.heap[D]? = some (.deferred (some [])) → done D W) ∧
    (∀ (D : Nat) (pre : List (Int × Int)) (W : World), w.heap.size ≤ D → Sp pre → Xr pre W → W.heap[D]? = some (.deferred (some [])) → ret D W) ∧
    exP (fun p => ∀ (D : Nat) (pre : List (Int × Int)) (W : World), w.heap.size ≤ D → Sp pre → Xe p.1 pre W → W.heap[D]? = some (.deferred (some [])) → p.2 D W) exs
def markOf (D : Nat) : Deferred := { target := .collected D, args := #[] }
def roundAct (ps : Array Tmp) (a : Act) (x y : Int) : Act := { tmps := (ps.zip (pI (x, y))).foldl (fun t (p, v) => t.setIfInBounds p v) a.tmps, defers := [] }

/-- The verification condition of a piece of code, up to the loops, whose relations 'cut' tells by their blocks' numbers. -/
def vc (P : Program) (cut : Nat → Option ((Act → World → Prop) × (Act → World → Nat))) : Code → (Exit → Act → World → Prop) → Act → World → Prop
  | .skip, Q, a, w => Q .normal a w
  | .region id ops draw, Q, a, w => match draw with
    | false => vcOps P ops Q ops.toList a w
    | true => match cut (4000000 + id) with
      | some _ => vcF P ops (fun a1 w1 => vcA P ops w.drew (fun a2 w2 => vcOps P ops Q (ops.toList.drop (headN ops)) a2 w2) (alL ops (headN ops)) [] a1 w1) (mainL ops (headN ops)) a w.drew
      | none => match cut (2000000 + id) with
      | some _ => ∃ V : Nat → Nat → Prop, vcT P (fun q => Bar (V q)) (needOf ops) (fun q => vcVOp P (V q)) ops (itemsOf 0 ops.toList) (fun a' w' => vcOps P ops Q (ops.toList.drop ops.size) a' w') ops.size (List.range ops.size) a w.drew
      | none => match heldAt ops with
        | true => match cut (1000000 + id) with
          | none => vcT P (fun _ => Ahead) (fun _ => [0]) (fun _ => vcQOp P) ops (planOf ops) (fun a' w' => vcOps P ops Q (ops.toList.drop (headN ops)) a' w') (headN ops) (List.range (headN ops)) a w.drew
          | some _ => ∃ V : Nat → Prop, vcT P (fun _ => Bar V) (fun _ => [0]) (fun _ => vcVOp P V) ops (planOf ops) (fun a' w' => vcOps P ops Q (ops.toList.drop (headN ops)) a' w') (headN ops) (List.range (headN ops)) a w.drew
        | false => match tailAt ops with
          | none => vcQ P ops w (fun a' => ∀ w', Ahead w w' → Q .normal a' w') ops.toList a
          | some n => vcQ P ops w (fun a' => vcOps P ops Q (ops.toList.drop n) a' w.drew) (ops.toList.take n) a
  | .seq x y, Q, a, w => match cut (3000000 + entry y) with
    | some L => vc P cut x (Exit.then (fun a w => L.1 a w) Q) a w
    | none => vc P cut x (Exit.then (vc P cut y Q) Q) a w
  | .cond c x y, Q, a, w => match c with
    | .tmp d => match a.tmps[d]? with
      | some (.bool b) => br b (vc P cut x Q (a.put (some d) (.bool true)) w) (vc P cut y Q (a.put (some d) (.bool false)) w)
      | _ => False
    | _ => False
  | .block id c, Q, a, w => match cut id with
    | some L => L.1 a w
    | none => vc P cut c (Exit.inBlock id Q) a w
  | .exit id, Q, a, w => Q (.exit id) a w
  | .label _, Q, a, w => Q .normal a w
  | .ret, Q, a, w => Q .ret a w
  | .rangeFunc g ps ag body, Q, a, w => rangeP P (a.eval g) w (fun x y => (asgA ag (roundAct ps a x y)).isSome)
      (fun x y W Kn Kr Ke => match asgA ag (roundAct ps a x y) with
        | some a1 => vc P (fun _ => none) body (fun e _ W2 => match e with
          | .normal => Kn W2
          | .ret => Kr W2
          | .exit i => Ke i W2
          | _ => False) a1 W
        | none => False)
      (fun D W => Q .normal { a with defers := markOf D :: a.defers } W) (fun D W => Q .ret { a with defers := markOf D :: a.defers } W) ((exitsOf body).map fun i => (i, fun D W => Q (.exit i) { a with defers := markOf D :: a.defers } W))
  | _, _, _, _ => False

/-- What is owed besides: each loop's round; each open order's Bool. -/
def obl (P : Program) (cut : Nat → Option ((Act → World → Prop) × (Act → World → Nat))) : Code → (Exit → Act → World → Prop) → Prop → Prop
  | .region id ops draw, _, rest => match draw with
    | false => rest
    | true => match cut (4000000 + id) with
      | some _ => floatB P ops = true ∧ rest
      | none => match cut (2000000 + id) with
      | some _ => heldAllB ops ops.size (itemsOf 0 ops.toList) = true ∧ rest
      | none => match heldAt ops with
        | true => heldAllB ops (headN ops) (planOf ops) = true ∧ rest
        | false => match tailAt ops with
          | none => Region.lexB .any ops = true ∧ rest
          | some n => (Region.lexTailB .any ops n = true ∧ (ops.toList.take n).all (fun o => !isCall o.op) = true) ∧ rest
  | .seq x y, Q, rest => match cut (3000000 + entry y) with
    | some L => obl P cut x (Exit.then (fun a w => L.1 a w) Q) ((∀ a w, L.1 a w → ∃ cut' : Nat → Option ((Act → World → Prop) × (Act → World → Nat)), vc P cut' y Q a w ∧ obl P cut' y Q True) ∧ rest)
    | none => obl P cut x (Exit.then (vc P cut y Q) Q) (obl P cut y Q rest)
  | .cond _ x y, Q, rest => obl P cut x Q (obl P cut y Q rest)
  | .block id c, Q, rest => match cut id with
    | some L => match c with
      | .loop body => (∀ a w, L.1 a w → ∃ cut' : Nat → Option ((Act → World → Prop) × (Act → World → Nat)), vc P cut' body (Exit.then (fun a' w' => L.1 a' w' ∧ L.2 a' w' < L.2 a w) (Exit.inBlock id Q)) a w ∧
          obl P cut' body (Exit.then (fun a' w' => L.1 a' w' ∧ L.2 a' w' < L.2 a w) (Exit.inBlock id Q)) True) ∧ rest
      | _ => False
    | none => obl P cut c (Exit.inBlock id Q) rest
  | .rangeFunc _ ps ag body, _, rest => ((roundB ag && roundB body) && Nat.beq ps.size 2) = true ∧ rest
  | _, _, rest => rest

theorem obl_rest {P : Program} {cut : Nat → Option ((Act → World → Prop) × (Act → World → Nat))} : ∀ (c : Code) (Q : Exit → Act → World → Prop) (rest : Prop), obl P cut c Q rest → rest
  | .skip, _, _, h => h
  | .region _ ops draw, _, _, h => by
    unfold obl at h
    split at h
    · exact h
    · split at h
      · exact h.2
      · split at h
        · exact h.2
        · split at h
          · exact h.2
          · split at h <;> exact h.2
  | .seq x y, Q, rest, h => by
    unfold obl at h
    split at h
    · exact (obl_rest x _ _ h).2
    · exact obl_rest y _ _ (obl_rest x _ _ h)
  | .cond _ x y, Q, rest, h => by unfold obl at h; exact obl_rest y _ _ (obl_rest x _ _ h)
  | .block id c, Q, rest, h => by
    unfold obl at h
    split at h
    · split at h
      · exact h.2
      · exact h.elim
    · exact obl_rest c _ _ h
  | .loop _, _, _, h => h
  | .rangeFunc .., _, _, h => h.2
  | .exit _, _, _, h => h
  | .scope _, _, _, h => h
  | .label _, _, _, h => h
  | .goto _, _, _, h => h
  | .ret, _, _, h => h
  | .refuse _, _, _, h => h

theorem obl_mono {P : Program} {cut : Nat → Option ((Act → World → Prop) × (Act → World → Nat))} : ∀ (c : Code) (Q : Exit → Act → World → Prop) (r r' : Prop), (r → r') → obl P cut c Q r → obl P cut c Q r'
  | .skip, _, _, _, hr, h => hr h
  | .region _ ops draw, _, _, _, hr, h => by
    unfold obl at h ⊢
    split at h
    · exact hr h
    · split at h
      · exact ⟨h.1, hr h.2⟩
      · split at h
        · exact ⟨h.1, hr h.2⟩
        · split at h
          · exact ⟨h.1, hr h.2⟩
          · split at h <;> exact ⟨h.1, hr h.2⟩
  | .seq x y, Q, r, r', hr, h => by
    unfold obl at h ⊢
    split at h
    · exact obl_mono x _ _ _ (fun h => ⟨h.1, hr h.2⟩) h
    · exact obl_mono x _ _ _ (obl_mono y _ _ _ hr) h
  | .cond _ x y, Q, r, r', hr, h => by unfold obl at h ⊢; exact obl_mono x _ _ _ (obl_mono y _ _ _ hr) h
  | .block id c, Q, r, r', hr, h => by
    unfold obl at h ⊢
    split at h
    · split at h
      · exact ⟨h.1, hr h.2⟩
      · exact h.elim
    · exact obl_mono c _ _ _ hr h
  | .loop _, _, _, _, hr, h => hr h
  | .rangeFunc .., _, _, _, hr, h => ⟨h.1, hr h.2⟩
  | .exit _, _, _, _, hr, h => hr h
  | .scope _, _, _, _, hr, h => hr h
  | .label _, _, _, _, hr, h => hr h
  | .goto _, _, _, _, hr, h => hr h
  | .ret, _, _, _, hr, h => hr h
  | .refuse _, _, _, _, hr, h => hr h

theorem obl_first {P : Program} {cut : Nat → Option ((Act → World → Prop) × (Act → World → Nat))} (c : Code) (Q : Exit → Act → World → Prop) {r : Prop} (h : obl P cut c Q r) : obl P cut c Q True := obl_mono c Q _ _ (fun _ => trivial) h

theorem vc_in {l n : Nat} {P : Program} : ∀ (c : Code) (Q : Exit → Act → World → Prop) (a : Act) (w : World), roundB c = true → vc P (fun _ => none) c Q a w → c.wpIn (rd l) n P Q a w
  | .skip, Q, a, w, _, h => wpIn_skip h
  | .region id ops draw, Q, a, w, hr, h => by
    simp only [roundB, Bool.and_eq_true, Bool.not_eq_true'] at hr
    obtain ⟨rfl, hn⟩ := hr
    unfold vc at h
    refine wpIn_region ?_
    have := ops_in (l := l) (n := n) ops.toList 0 a w (fun j => by simp) hn h
    rwa [← List.range_eq_range', Array.length_toList] at this
  | .seq x y, Q, a, w, hr, h => by
    simp only [roundB, Bool.and_eq_true] at hr
    unfold vc at h
    refine wpIn_seq (wpIn_mono (vc_in x _ a w hr.1 h) fun e a w he => ?_)
    cases e <;> first | exact vc_in y Q a w hr.2 he | exact he
  | .cond c x y, Q, a, w, hr, h => by
    simp only [roundB, Bool.and_eq_true] at hr
    unfold vc at h
    split at h
    · rename_i d
      split at h
      · rename_i b hb
        have he : a.eval (.tmp d) = .bool b := by simp [Act.eval, Array.getD_eq_getD_getElem?, hb]
        cases b
        · rw [br, put_same hb] at h
          exact wpIn_cond_false he (vc_in y Q a w hr.2 h)
        · rw [br, put_same hb] at h
          exact wpIn_cond_true he (vc_in x Q a w hr.1 h)
      · exact h.elim
    · exact h.elim
  | .block id c, Q, a, w, hr, h => by
    unfold vc at h
    exact wpIn_block (vc_in c _ a w hr h)
  | .loop _, _, _, _, hr, _ => by cases hr
  | .rangeFunc .., _, _, _, hr, _ => by cases hr
  | .exit _, _, _, _, _, h => wpIn_exit h
  | .scope _, _, _, _, hr, _ => by cases hr
  | .label _, _, _, _, _, h => wpIn_label h
  | .goto _, _, _, _, hr, _ => by cases hr
  | .ret, _, _, _, _, h => wpIn_ret h
  | .refuse _, _, _, _, hr, _ => by cases hr
theorem asgOpsSound {P : Program} {ops : Array Oper} {Q : Exit → Act → World → Prop} {w : World} : ∀ (l : List Oper) (a a1 : Act), asgOps l a = some a1 → Q .normal a1 w → vcOps P ops Q l a w
  | [], a, a1, h, hQ => by cases h; exact hQ
  | o :: r, a, a1, h, hQ => by
    unfold asgOps at h
    rw [vcOps]
    split at h
    · rename_i hg
      rw [hg]
      simp only
      unfold vcOp
      split at h
      · rename_i x ho
        simp only [ho]
        exact asgOpsSound r _ a1 h hQ
      · rename_i x ho
        simp only [ho]
        exact asgOpsSound r _ a1 h hQ
      · cases h
    · cases h
theorem asgSound {P : Program} {w : World} : ∀ (c : Code) (Q : Exit → Act → World → Prop) (a a1 : Act), asgA c a = some a1 → Q .normal a1 w → vc P (fun _ => none) c Q a w
  | .skip, Q, a, a1, h, hQ => by cases h; exact hQ
  | .region _ ops draw, Q, a, a1, h, hQ => by
    unfold asgA at h
    cases draw
    · exact asgOpsSound _ _ _ h hQ
    · cases h
  | .seq x y, Q, a, a1, h, hQ => by
    unfold asgA at h
    unfold vc
    simp only
    split at h
    · rename_i a2 h2
      exact asgSound x _ a a2 h2 (asgSound y Q a2 a1 h hQ)
    · cases h
  | .cond .., _, _, _, h, _ => by cases h
  | .block .., _, _, _, h, _ => by cases h
  | .loop .., _, _, _, h, _ => by cases h
  | .rangeFunc .., _, _, _, h, _ => by cases h
  | .exit .., _, _, _, h, _ => by cases h
  | .scope .., _, _, _, h, _ => by cases h
  | .label .., _, _, _, h, _ => by cases h
  | .goto .., _, _, _, h, _ => by cases h
  | .ret, _, _, _, h, _ => by cases h
  | .refuse .., _, _, _, h, _ => by cases h
theorem rangeP_sound {P : Program} {g : Operand} {ps : Array Tmp} {ag body : Code} {Q : Exit → Act → World → Prop} {a : Act} {w : World} (ha : roundB ag = true) (hb : roundB body = true) (hp : ps.size = 2)
    (h : vc P (fun _ => none) (.rangeFunc g ps ag body) Q a w) : (Code.rangeFunc g ps ag body).wp P Q a w := by
  unfold vc at h
  obtain ⟨gf, lb, Kp, S, Sp, N, I, Xr, Xe, hg, hit, hasg, hI, hXr, hXe, h0, hbody, hdone, hret, hex⟩ := h
  have hsome : ∀ x y, ∃ a1, asgA ag (roundAct ps a x y) = some a1 := fun x y => Option.isSome_iff_exists.1 (hasg x y)
  refine wpIn_wide.1 (wpIn_rangeFunc_ownG (F := Fence.wide) (n := 5) rfl (by omega) hg trivial hit.enters (encs := pI) hit.seq (fun h k => hit.trans h k) hit.obj (Below.refl _ _) (fun _ => hp.symm) I
    (fun c pre W => match c with
      | .ret => Xr pre W
      | .exit i => i ∈ exitsOf body ∧ Xe i pre W
      | _ => False) hI (fun c => ?_) h0 (fun x => (asgA ag (roundAct ps a x.1 x.2)).getD a) ?_ ?_ ?_ ?_)
  · intro s A B row hs hg hr
    cases c <;> first | exact hXr s A B row hs hg hr | exact ⟨hs.1, hXe _ s A B row hs.2 hg hr⟩ | exact hs
  · intro l x W K hK
    obtain ⟨a1, h1⟩ := hsome x.1 x.2
    rw [h1] at hK
    exact vc_in (l := l) ag _ _ W ha (asgSound ag _ _ a1 h1 hK)
  · intro l pre x W hi hlen
    obtain ⟨a1, h1⟩ := hsome x.1 x.2
    have := hbody pre x.1 x.2 W hi hlen
    simp only [h1] at this ⊢
    refine wpIn_mono (vc_in (l := l) body _ a1 W hb this) fun e a2 W2 he => ?_
    cases e <;> first | exact he | exact ⟨he.2.1, by simpa using he.1, he.2.2⟩ | exact he.elim
  · intro D xs W hD hs hi hd
    exact hdone D xs W hD hs hi hd
  · intro D c pre W hD hs hx hd
    cases c <;> first | exact hx.elim | skip
    · rename_i i
      exact wpIn_exit (exP_mem hex (List.mem_map.2 ⟨i, hx.1, rfl⟩) D pre W hD hs hx.2 hd)
    · exact wpIn_ret (hret D pre W hD hs hx hd)

theorem vc_sound {P : Program} (hm : P.follows .mixedOrders = true) : ∀ (c : Code) {cut : Nat → Option ((Act → World → Prop) × (Act → World → Nat))} (Q : Exit → Act → World → Prop) (a : Act) (w : World),
    obl P cut c Q True → vc P cut c Q a w → c.wp P Q a w
  | .skip, _, Q, a, w, _, h => wp_skip h
  | .region id ops draw, _, Q, a, w, ho, h => by
    unfold obl at ho
    unfold vc at h
    cases draw
    · exact wp_region_list (vcOps_sound _ _ _ h)
    · simp only at ho h
      split at ho
      · rename_i h4
        rw [h4] at h
        exact region_float hm ho.1 h
      rename_i h4
      rw [h4] at h
      simp only at h
      split at ho
      · rename_i hs
        rw [hs] at h
        obtain ⟨V, h⟩ := h
        refine region_held (G := fun q => GMem ops V q) _ _ (fun q w => GMem.refl w) (fun h k => GMem.trans h k) (fun hi _ h => vcVOp_mem hi h) (fun j w w' hh q hp => ?_) hm ho.1 h
        unfold GMem
        split
        · rename_i hq; exact hh q (needOf_mem hq hp)
        · trivial
      rename_i hs
      rw [hs] at h
      simp only at h
      split at ho
      · rename_i hh
        rw [hh] at h
        simp only at h
        split at h
        · exact region_held (G := fun _ => Ahead) _ _ (fun _ _ => Ahead.refl _) (fun h k => Ahead.trans h k) (fun _ hl h => vcQOp_val (isCall_of_quiet hl) h) (fun j w w' hh q _ => hh 0 (by simp)) hm ho.1 h
        · obtain ⟨V, h⟩ := h
          exact region_held (G := fun _ => Bar V) _ _ (fun _ _ => Bar.refl _ _) (fun h k => Bar.trans h k) (fun _ _ h => vcVOp_val h) (fun j w w' hh q _ => hh 0 (by simp)) hm ho.1 h
      · rename_i hh
        rw [hh] at h
        simp only at h
        split at ho
        · rename_i ht
          rw [ht] at h
          exact region_quiet hm ho.1 h
        · rename_i n ht
          rw [ht] at h
          exact region_tail n hm ho.1.1 ho.1.2 h
  | .seq x y, _, Q, a, w, ho, h => by
    unfold obl at ho
    unfold vc at h
    split at ho
    · rename_i L hL
      rw [hL] at h
      have hx := vc_sound hm x _ a w (obl_first _ _ ho) h
      have hoy := (obl_rest _ _ _ ho).1
      refine wp_seq (wp_mono hx fun e a w he => ?_)
      cases e
      case normal =>
        obtain ⟨cut', h1, h2⟩ := hoy a w he
        exact vc_sound hm y Q a w h2 h1
      all_goals exact he
    · rename_i hL
      rw [hL] at h
      have hx := vc_sound hm x _ a w (obl_first _ _ ho) h
      have hoy := obl_rest _ _ _ ho
      refine wp_seq (wp_mono hx fun e a w he => ?_)
      cases e <;> first | exact vc_sound hm y Q a w hoy he | exact he
  | .cond c x y, _, Q, a, w, ho, h => by
    unfold obl at ho
    unfold vc at h
    split at h
    · rename_i d
      split at h
      · rename_i b hb
        have he : a.eval (.tmp d) = .bool b := by simp [Act.eval, Array.getD_eq_getD_getElem?, hb]
        cases b
        · rw [br, put_same hb] at h
          exact wp_cond_false he (vc_sound hm y Q a w (obl_first _ _ (obl_rest _ _ _ ho)) h)
        · rw [br, put_same hb] at h
          exact wp_cond_true he (vc_sound hm x Q a w (obl_first _ _ ho) h)
      · exact h.elim
    · exact h.elim
  | .block id c, _, Q, a, w, ho, h => by
    unfold obl at ho
    unfold vc at h
    split at ho
    · rename_i L hL
      rw [hL] at h
      split at ho
      · rename_i body
        refine wp_block (wp_loop L.1 L.2 h fun a w hI => ?_)
        obtain ⟨cut', h1, h2⟩ := ho.1 a w hI
        exact vc_sound hm body _ a w h2 h1
      · exact ho.elim
    · rename_i hL
      rw [hL] at h
      exact wp_block (vc_sound hm c _ a w ho h)
  | .loop _, _, _, _, _, _, h => by unfold vc at h; exact h.elim
  | .rangeFunc g ps ag body, _, Q, a, w, ho, h => by
    unfold obl at ho
    simp only [Bool.and_eq_true] at ho
    refine rangeP_sound ho.1.1.1 ho.1.1.2 (Nat.eq_of_beq_eq_true ho.1.2) ?_
    unfold vc at h ⊢
    exact h
  | .exit _, _, _, _, _, _, h => wp_exit h
  | .scope _, _, _, _, _, _, h => by unfold vc at h; exact h.elim
  | .label _, _, _, _, _, _, h => wp_label h
  | .goto _, _, _, _, _, _, h => by unfold vc at h; exact h.elim
  | .ret, _, _, _, _, _, h => wp_ret h
  | .refuse _, _, _, _, _, _, h => by unfold vc at h; exact h.elim

def resC (P : Program) (tmps : Array Value) (w : World) : List ResultVar → (List Value → Prop) → Prop
  | [], k => k []
  | .tmp t :: r, k => resC P tmps w r fun vs => k (tmps.getD t undef :: vs)
  | .cell p t :: r, k => match tmps.getD p undef with
    | .pointer q => onSome q fun ad => ldT P t ad w fun v => resC P tmps w r fun vs => k (v :: vs)
    | _ => False

def resV : List Value → Value
  | [v] => v
  | vs => .tuple vs.toArray

/-- The end of a function: the loops' marks, and the results. -/
def endM (P : Program) (fn : Func) (R : Ending → World → Prop) (tmps : Array Value) : List Deferred → World → Prop
  | [], w => resC P tmps w fn.results.toList fun vs => R (.returned (resV vs)) w
  | d :: ds, w => match d.target with
    | .collected r => w.heap[r]? = some (.deferred (some [])) ∧ endM P fn R tmps ds (w.putObj r (.deferred none))
    | _ => False
def vcPost (P : Program) (fn : Func) (R : Ending → World → Prop) : Exit → Act → World → Prop
  | .normal, a, w => endM P fn R a.tmps a.defers w
  | .ret, a, w => endM P fn R a.tmps a.defers w
  | _, _, _ => False

theorem resC_run {P : Program} {tmps : Array Value} {w : World} :
    ∀ (rs : List ResultVar) (k : List Value → Prop), resC P tmps w rs k → ∃ vs, k vs ∧
      ∀ f : ResultVar → Sem Value, (∀ u, f (.tmp u) = pure (tmps.getD u undef)) → (∀ a t, f (.cell a t) = (do loadVar t (← asAddr (tmps.getD a undef)))) → (rs.mapM f).run P w = .ok vs w
  | [], k, h => ⟨[], h, by simp⟩
  | .tmp t :: r, k, h => by
    unfold resC at h
    obtain ⟨vs, hk, hr⟩ := resC_run r _ h
    exact ⟨_, hk, fun f hf hc => by rw [List.mapM_cons, hf]; simp [hr f hf hc, Result.andThen]⟩
  | .cell p t :: r, k, h => by
    unfold resC at h
    split at h
    · rename_i q hq
      cases q with
      | none => exact h.elim
      | some ad =>
        obtain ⟨v, hk, hv⟩ := ldT_run (show ldT P t ad w (fun v => resC P tmps w r fun vs => k (v :: vs)) from h)
        obtain ⟨vs, hk, hr⟩ := resC_run r _ hk
        exact ⟨_, hk, fun f hf hc => by rw [List.mapM_cons, hc, hq]; simp [asAddr, hv, hr f hf hc, Result.andThen]⟩
    · exact h.elim

theorem resC_leaves {P : Program} {fn : Func} {R : Ending → World → Prop} {tmps : Array Value} {w : World} (h : resC P tmps w fn.results.toList fun vs => R (.returned (resV vs)) w) : ∃ v, (results fn tmps).run P w = .ok v w ∧ R (.returned v) w := by
  obtain ⟨vs, hk, hr⟩ := resC_run _ _ h
  refine ⟨resV vs, ?_, hk⟩
  generalize hrs : fn.results.toList = rs at hr
  have hrs' : fn.results = rs.toArray := by rw [← hrs]
  unfold results
  rw [hrs', List.mapM_toArray]
  simp only [Sem.run_bind, Sem.run_map]
  rw [hr _ (fun _ => rfl) (fun _ _ => rfl)]
  match vs with
  | [] => simp [resV]
  | [v] => simp [resV]
  | v :: v' :: vs => simp [resV]
theorem endM_sound {P : Program} {fn : Func} {R : Ending → World → Prop} {tmps : Array Value} {n : Nat} : ∀ (ds : List Deferred) (w : World), endM P fn R tmps ds w → LeavesInM Fence.wide n P fn tmps R ds .returning w
  | [], w, h => by
    obtain ⟨v, h1, h2⟩ := resC_leaves h
    exact ⟨v, h1, h2⟩
  | d :: ds, w, h => by
    unfold endM at h
    split at h
    · rename_i r hr
      exact ⟨by simp, .inl ⟨r, _, hr, run_takeDeferred h.1, endM_sound ds _ h.2⟩⟩
    · exact h.elim
theorem vcPost_sound {P : Program} {fn : Func} {R : Ending → World → Prop} {e : Exit} {a : Act} {w : World} (h : vcPost P fn R e a w) : bodyPostM Fence.wide 5 P fn R e a w := by
  cases e <;> first | exact endM_sound _ _ h | exact False.elim h

theorem calls_of_vc {P : Program} {f : FuncId} {fn : Func} {c : Code} {args : Array Value} {w : World} {R : Ending → World → Prop}
    (cut : Nat → Option ((Act → World → Prop) × (Act → World → Nat))) (hm : P.follows .mixedOrders = true)
    (hf : P.funcs[f]? = some fn) (hb : fn.body = some c)
    (h : Hold (vc P cut c (vcPost P fn R) { tmps := args ++ Array.replicate (fn.ntmps - args.size) undef, defers := [] } w))
    (ho : obl P cut c (vcPost P fn R) True) : Calls P f args w R :=
  callsIn_wide.1 (callsIn_of_wp_marks (F := Fence.wide) (n := 5) hf hb trivial (wpIn_wide.2 (wp_mono (vc_sound hm c _ _ _ ho h.out) fun _ _ _ h => vcPost_sound h)))

def semS (P : Program) (e : Sem Value) (w : World) (K : Slc → World → Prop) : Prop := e.wp P (fun v w' => ∃ x : Slc, v = x.v ∧ K x w') (fun _ _ => False) w
def semI (P : Program) (k : IntKind) (e : Sem Value) (w : World) (K : Int → World → Prop) : Prop := e.wp P (fun v w' => ∃ x : Int, v = .int k x ∧ K x w') (fun _ _ => False) w
def semA (P : Program) (e : Sem Value) (w : World) (K : Addr → World → Prop) : Prop := e.wp P (fun v w' => ∃ x : Addr, v = .pointer (some x) ∧ K x w') (fun _ _ => False) w
def fixI (P : Program) (k : IntKind) (e : Sem Value) (w : World) (K : Int → Prop) : Prop := ∃ x : Int, (∀ w', Ahead w w' → e.run P w' = .ok (.int k x) w') ∧ K x
def anyA (P : Program) (e : Sem Value) (K : Addr → Prop) : Prop := ∃ x : Addr, (∀ w', e.run P w' = .ok (.pointer (some x)) w') ∧ K x
def fixA (P : Program) (e : Sem Value) (w : World) (K : Addr → Prop) : Prop := ∃ x : Addr, (∀ w', Ahead w w' → e.run P w' = .ok (.pointer (some x)) w') ∧ K x
def ldI (k : IntKind) (ad : Addr) (w : World) (K : Int → Prop) : Prop := ∃ x : Int, w.cell? ad = some (.int k x) ∧ K x
def ldS (ad : Addr) (w : World) (K : Slc → Prop) : Prop := ∃ x : Slc, w.cell? ad = some x.v ∧ K x
def ldB (ad : Addr) (w : World) (K : Bool → Prop) : Prop := ∃ x : Bool, w.cell? ad = some (.bool x) ∧ K x
/-- A store of one cell. -/
def stC (ad : Addr) (v : Value) (w : World) (K : World → Prop) : Prop := (∃ u, w.cell? ad = some u) ∧ w.frozen? ad = false ∧ K (w.setCell ad v)

/-- A new block. -/
def newC (w : World) (c : Array Value) (t : TypeId) (K : Addr → World → Prop) : Prop := K ⟨w.heap.size, 0, none⟩ (w.alloc (.cells c t))
def andI (k : IntKind) (x y : Int) : Int := k.wrap (BitVec.ofInt k.bits x &&& BitVec.ofInt k.bits y).toNat
def orI (k : IntKind) (x y : Int) : Int := k.wrap (BitVec.ofInt k.bits x ||| BitVec.ofInt k.bits y).toNat
def maxI (x y : Int) : Int := if y > x then y else x
def minI (x y : Int) : Int := if y < x then y else x

def atS (a : Act) (d : Nat) (K : Slc → Prop) : Prop := match a.tmps[d]? with | some (.slice A n c) => K ⟨A, n, c⟩ | _ => False
def atI (k : IntKind) (a : Act) (d : Nat) (K : Int → Prop) : Prop := match a.tmps[d]? with | some (.int k' x) => (match k == k' with | true => K x | false => False) | _ => False
def atA (a : Act) (d : Nat) (K : Addr → Prop) : Prop := match a.tmps[d]? with | some (.pointer (some x)) => K x | _ => False
def atSz (a : Act) (n : Nat) (K : Prop) : Prop := match a.tmps.size == n with | true => (match a.defers with | [] => K | _ => False) | false => False
def mS (a : Act) (d : Nat) (K : Slc → Nat) : Nat := match a.tmps[d]? with | some (.slice A n c) => K ⟨A, n, c⟩ | _ => 0
def mI (a : Act) (d : Nat) (K : Int → Nat) : Nat := match a.tmps[d]? with | some (.int _ x) => K x | _ => 0
def mA (a : Act) (d : Nat) (K : Addr → Nat) : Nat := match a.tmps[d]? with | some (.pointer (some x)) => K x | _ => 0

theorem atS_out {a : Act} {d : Nat} {K : Slc → Prop} (h : atS a d K) : ∃ x : Slc, a.tmps[d]? = some x.v ∧ K x := by
  unfold atS at h; split at h
  · rename_i A n c hh; exact ⟨⟨A, n, c⟩, hh, h⟩
  · exact h.elim
theorem atI_out {k : IntKind} {a : Act} {d : Nat} {K : Int → Prop} (h : atI k a d K) : ∃ x : Int, a.tmps[d]? = some (.int k x) ∧ K x := by
  unfold atI at h; split at h
  · rename_i k' x hh
    split at h
    · rename_i hk; rw [beq_iff_eq] at hk; subst hk; exact ⟨x, hh, h⟩
    · exact h.elim
  · exact h.elim
theorem atA_out {a : Act} {d : Nat} {K : Addr → Prop} (h : atA a d K) : ∃ x : Addr, a.tmps[d]? = some (.pointer (some x)) ∧ K x := by
  unfold atA at h; split at h
  · rename_i x hh; exact ⟨x, hh, h⟩
  · exact h.elim
theorem atSz_out {a : Act} {n : Nat} {K : Prop} (h : atSz a n K) : a.tmps.size = n ∧ a.defers = [] ∧ K := by
  unfold atSz at h; split at h
  · rename_i hn
    split at h
    · rename_i hd; exact ⟨by simpa using hn, hd, h⟩
    · exact h.elim
  · exact h.elim

def look : List (Nat × Value) → Nat → Value → Value
  | [], _, d => d
  | (j, v) :: r, i, d => match i == j with | true => v | false => look r i d
/-- A frame of n slots: the ones in 'sel' as told, the others whatever they are. -/
def Fr (n : Nat) (sel : List (Nat × Value)) (g : Nat → Value) : Act := { tmps := ((List.range n).map fun i => look sel i (g i)).toArray, defers := [] }

theorem look_spec {sel : List (Nat × Value)} {a : Array Value} (h : ∀ p ∈ sel, a[p.1]? = some p.2) (i : Nat) (hi : i < a.size) : a[i]? = some (look sel i (a.getD i undef)) := by
  induction sel with
  | nil => simp [look, hi]
  | cons p r ih =>
    obtain ⟨j, v⟩ := p
    unfold look
    split
    · rename_i e; rw [beq_iff_eq] at e; subst e; exact h (i, v) (by simp)
    · exact ih fun p hp => h p (by simp [hp])

theorem sel_nil {a : Array Value} : ∀ p ∈ ([] : List (Nat × Value)), a[p.1]? = some p.2 := fun _ h => by cases h
theorem sel_cons {a : Array Value} {d : Nat} {v : Value} {r : List (Nat × Value)} (h : a[d]? = some v) (hr : ∀ p ∈ r, a[p.1]? = some p.2) : ∀ p ∈ (d, v) :: r, a[p.1]? = some p.2 := by
  intro p hp
  rcases List.mem_cons.1 hp with rfl | hp
  · exact h
  · exact hr p hp

theorem fr_of {a : Act} {n : Nat} (hs : a.tmps.size = n) (hd : a.defers = []) (sel : List (Nat × Value)) (h : ∀ p ∈ sel, a.tmps[p.1]? = some p.2) :
    a = Fr n sel fun i => a.tmps.getD i undef := by
  obtain ⟨t, ds⟩ := a
  simp only at hs hd h ⊢
  subst hd
  unfold Fr
  congr 1
  apply Array.ext_getElem?
  intro i
  by_cases hi : i < n
  · rw [look_spec h i (by omega)]
    simp [hi]
  · rw [Array.getElem?_eq_none (by omega), Array.getElem?_eq_none (by simp; omega)]

section
variable {P : Program} {cut : Nat → Option ((Act → World → Prop) × (Act → World → Nat))} {Q : Exit → Act → World → Prop} {rest : Prop} {x y c : Code} {i : Nat} {ops : Array Oper}
theorem obl_seq (hc : cut (3000000 + entry y) = none) (h : obl P cut x (Exit.then (vc P cut y Q) Q) (obl P cut y Q rest)) : obl P cut (.seq x y) Q rest := by
  unfold obl; simp only [hc]; exact h
theorem obl_join (L : (Act → World → Prop) × (Act → World → Nat)) (hc : cut (3000000 + entry y) = some L) (h : obl P cut x (Exit.then (fun a w => L.1 a w) Q) rest)
    (h1 : ∀ a w, L.1 a w → ∃ cut' : Nat → Option ((Act → World → Prop) × (Act → World → Nat)), Hold (vc P cut' y Q a w) ∧ obl P cut' y Q True) : obl P cut (.seq x y) Q rest := by
  unfold obl; simp only [hc]
  exact obl_mono x _ _ _ (fun hr => ⟨fun a w hl => by obtain ⟨cut', h2, h3⟩ := h1 a w hl; exact ⟨cut', h2.out, h3⟩, hr⟩) h
theorem obl_reg (h : rest) : obl P cut (.region i ops false) Q rest := h
theorem obl_held (hc0 : cut (2000000 + i) = none) (hh : heldAt ops = true) (hl : heldAllB ops (headN ops) (planOf ops) = true) (h : rest) (hc4 : cut (4000000 + i) = none := by kernel_rfl) : obl P cut (.region i ops true) Q rest := by
  unfold obl; simp only [hc4, hc0, hh]; exact ⟨hl, h⟩
theorem obl_store (L : (Act → World → Prop) × (Act → World → Nat)) (hc0 : cut (2000000 + i) = some L) (hl : heldAllB ops ops.size (itemsOf 0 ops.toList) = true) (h : rest) (hc4 : cut (4000000 + i) = none := by kernel_rfl) : obl P cut (.region i ops true) Q rest := by
  unfold obl; simp only [hc4, hc0]; exact ⟨hl, h⟩
theorem obl_quiet (hc0 : cut (2000000 + i) = none) (hh : heldAt ops = false) (ht : tailAt ops = none) (hl : Region.lexB .any ops = true) (h : rest) (hc4 : cut (4000000 + i) = none := by kernel_rfl) : obl P cut (.region i ops true) Q rest := by
  unfold obl; simp only [hc4, hc0, hh, ht]; exact ⟨hl, h⟩
theorem obl_tail (n : Nat) (hc0 : cut (2000000 + i) = none) (hh : heldAt ops = false) (ht : tailAt ops = some n) (hl : Region.lexTailB .any ops n = true) (hc : (ops.toList.take n).all (fun o => !isCall o.op) = true) (h : rest) (hc4 : cut (4000000 + i) = none := by kernel_rfl) : obl P cut (.region i ops true) Q rest := by
  unfold obl; simp only [hc4, hc0, hh, ht]; exact ⟨⟨hl, hc⟩, h⟩
theorem obl_cond {t : Operand} (h : obl P cut x Q (obl P cut y Q rest)) : obl P cut (.cond t x y) Q rest := h
theorem obl_blk (hc : cut i = none) (h : obl P cut c (Exit.inBlock i Q) rest) : obl P cut (.block i c) Q rest := by
  unfold obl; simp only [hc]; exact h
theorem obl_loop (L : (Act → World → Prop) × (Act → World → Nat)) (hc : cut i = some L) (h1 : ∀ a w, L.1 a w → ∃ cut' : Nat → Option ((Act → World → Prop) × (Act → World → Nat)), Hold (vc P cut' x (Exit.then (fun a' w' => L.1 a' w' ∧ L.2 a' w' < L.2 a w) (Exit.inBlock i Q)) a w) ∧
    obl P cut' x (Exit.then (fun a' w' => L.1 a' w' ∧ L.2 a' w' < L.2 a w) (Exit.inBlock i Q)) True) (h : rest) : obl P cut (.block i (.loop x)) Q rest := by
  unfold obl; simp only [hc]
  exact ⟨fun a w hl => by obtain ⟨cut', h2, h3⟩ := h1 a w hl; exact ⟨cut', h2.out, h3⟩, h⟩
theorem obl_skip (h : rest) : obl P cut .skip Q rest := h
theorem obl_exit (h : rest) : obl P cut (.exit i) Q rest := h
theorem obl_ret (h : rest) : obl P cut .ret Q rest := h
end

end Eng
end Go.Proofs.YtahbekmnphkiiaaDoor
namespace Go.Proofs.YtahbekmnphkiiaaDoor
open Go Go.RowKit Eng
set_option linter.unusedVariables false
set_option linter.unusedSimpArgs false
namespace Sp

def ints (k : IntKind) (l : List Int) : List Value := l.map (Value.int k)
theorem ints_get {k : IntKind} {l : List Int} {i : Nat} (h : i < l.length) : (ints k l)[i]? = some (.int k (l.getD i 0)) := by
  simp [ints, h]
/-- The slice reads as these numbers. -/
structure Rd (k : IntKind) (w : World) (s : Slc) (l : List Int) : Prop where
  n : s.n = l.length
  c : s.n ≤ s.c
  get : ∀ i, i < l.length → ∃ ad, s.A = some ad ∧ w.cell? (ad.add i) = some (.int k (l.getD i 0))

theorem Rd.ahead {k : IntKind} {w w' : World} {s : Slc} {l : List Int} (h : Rd k w s l) (ha : Ahead w w') : Rd k w' s l :=
  ⟨h.n, h.c, fun i hi => by obtain ⟨ad, e, hc⟩ := h.get i hi; exact ⟨ad, e, ha.cell hc⟩⟩
theorem Rd.nil {k : IntKind} {w : World} {A : Option Addr} {c : Nat} : Rd k w ⟨A, 0, c⟩ [] := ⟨rfl, Nat.zero_le _, fun i hi => by simp at hi⟩

/-- A block of the call's own, from its first cell on: these numbers, then spare ones. -/
structure Owr (k : IntKind) (t : TypeId) (w : World) (s : Slc) (l : List Int) (b : Nat) : Prop where
  hd : s = ⟨some ⟨b, 0, none⟩, l.length, s.c⟩
  mem : ∃ sp : List Value, s.c = l.length + sp.length ∧ w.heap[b]? = some (.cells (ints k l ++ sp).toArray t (0, 0))

theorem add_off {b i : Nat} : (⟨b, 0, none⟩ : Addr).add i = ⟨b, i, none⟩ := by
  unfold Addr.add; split
  · rename_i h; subst h; rfl
  · simp

theorem Owr.n {k : IntKind} {t : TypeId} {w : World} {s : Slc} {l : List Int} {b : Nat} (h : Owr k t w s l b) : s.n = l.length := by rw [h.hd]
theorem Owr.A {k : IntKind} {t : TypeId} {w : World} {s : Slc} {l : List Int} {b : Nat} (h : Owr k t w s l b) : s.A = some ⟨b, 0, none⟩ := by rw [h.hd]
theorem Owr.lt {k : IntKind} {t : TypeId} {w : World} {s : Slc} {l : List Int} {b : Nat} (h : Owr k t w s l b) : b < w.heap.size := by
  obtain ⟨sp, _, hm⟩ := h.mem
  exact (Array.getElem?_eq_some_iff.1 hm).1
theorem Owr.cell {k : IntKind} {t : TypeId} {w : World} {s : Slc} {l : List Int} {b : Nat} (h : Owr k t w s l b) {i : Nat} (hi : i < l.length) : w.cell? ⟨b, i, none⟩ = some (.int k (l.getD i 0)) := by
  obtain ⟨sp, _, hm⟩ := h.mem
  simp [World.cell?, hm, ints, List.getElem?_append, hi]
theorem Owr.rd {k : IntKind} {t : TypeId} {w : World} {s : Slc} {l : List Int} {b : Nat} (h : Owr k t w s l b) : Rd k w s l := by
  refine ⟨h.n, ?_, fun i hi => ⟨_, h.A, by rw [add_off]; exact h.cell hi⟩⟩
  obtain ⟨sp, hc, _⟩ := h.mem
  rw [h.n]; omega
theorem Owr.ahead {k : IntKind} {t : TypeId} {w w' : World} {s : Slc} {l : List Int} {b : Nat} (h : Owr k t w s l b) (ha : Ahead w w') : Owr k t w' s l b := by
  obtain ⟨sp, hc, hm⟩ := h.mem
  refine ⟨h.hd, sp, hc, ?_⟩
  have := ha.block b h.lt
  rw [this]; exact hm
theorem Owr.frozen {k : IntKind} {t : TypeId} {w : World} {s : Slc} {l : List Int} {b : Nat} (h : Owr k t w s l b) (i : Nat) : w.frozen? ⟨b, i, none⟩ = false := by
  obtain ⟨sp, _, hm⟩ := h.mem
  simp [World.frozen?, hm]

theorem Ahead.setCell {w0 w : World} {ad : Addr} {v : Value} (h : Ahead w0 w) (hb : w0.heap.size ≤ ad.block) : Ahead w0 (w.setCell ad v) :=
  Below.trans h ⟨rfl, rfl, rfl, by simp [World.setCell], fun k hk => Below.heap_setCell _ _ _ _ (by omega)⟩
theorem size_alloc (w : World) (o : Obj) : (w.alloc o).heap.size = w.heap.size + 1 := by show (w.heap.push o).size = _; simp
theorem get_alloc (w : World) (o : Obj) : (w.alloc o).heap[w.heap.size]? = some o := by show (w.heap.push o)[w.heap.size]? = _; simp
theorem Ahead.alloc (w : World) (o : Obj) : Ahead w (w.alloc o) := Below.alloc (Below.refl _ _) (Nat.le_refl _) o
theorem Ahead.drew (w : World) : Ahead w w.drew := (Below.refl _ w).drew
theorem Ahead.size {w w' : World} (h : Ahead w w') : w.heap.size ≤ w'.heap.size := Below.size h

/-- A store into an own block. -/
theorem Owr.set {k : IntKind} {t : TypeId} {w : World} {s : Slc} {l : List Int} {b : Nat} (h : Owr k t w s l b) {i : Nat} (hi : i < l.length) (x : Int) :
    Owr k t (w.setCell ⟨b, i, none⟩ (.int k x)) s (l.set i x) b := by
  obtain ⟨sp, hc, hm⟩ := h.mem
  refine ⟨by rw [h.hd]; simp, sp, by simpa using hc, ?_⟩
  simp only [World.setCell, Array.getElem?_modify]
  simp [hm, ints, List.set_append, hi, List.map_set]

/-- Is it a type of slices of this kind of number? -/
def isSl (P : Program) (t : TypeId) (k : IntKind) : Option TypeId := match P.underlying t with
  | some (.slice e) => match P.info? e with
    | some i => match i.size, i.bytes, i.zero, P.underlying e with
      | 1, 8, some (.int k' 0), some (.int k'') => if k = k' ∧ k = k'' then some e else none
      | _, _, _, _ => none
    | none => none
  | _ => none
theorem isSl_out {P : Program} {t : TypeId} {k : IntKind} {e : TypeId} (h : isSl P t k = some e) :
    P.underlying t = some (.slice e) ∧ P.underlying e = some (.int k) ∧ ∃ i, P.info? e = some i ∧ i.size = 1 ∧ i.bytes = 8 ∧ i.zero = some (.int k 0) := by
  unfold isSl at h
  split at h
  · rename_i e' hu
    split at h
    · rename_i i hi
      split at h
      · rename_i k' k'' h1 h2 h3 h4
        split at h
        · rename_i hk
          obtain ⟨rfl, rfl⟩ := hk
          obtain rfl := Option.some.inj h
          exact ⟨hu, h4, i, hi, h1, h2, h3⟩
        · cases h
      · cases h
    · cases h
  · cases h

section
variable {P : Program} {t e : TypeId} {k : IntKind}

theorem run_indexAt (hT : isSl P t k = some e) (w : World) (s : Slc) (i : Int) (ad : Addr) (hA : s.A = some ad) (h0 : 0 ≤ i) (h1 : i < s.n) :
    (Instr.indexAt t s.v (.int .i64 i)).run P w = .ok (.pointer (some (ad.add i.toNat))) w := by
  obtain ⟨hu, _, inf, hi, hs, _⟩ := isSl_out hT
  obtain ⟨A, n, c⟩ := s
  simp only at hA h1
  subst hA
  simp only [Instr.indexAt, asIntOf, Slc.v, underlying, program, Sem.run_bind, Sem.run, Result.andThen, hu, Sem.run_pure]
  simp [h0, h1, sizeOf, typeInfo, program, Sem.run, hi, hs, hu]

/-- An element read. -/
theorem ix_ld (hT : isSl P t k = some e) {w : World} {s : Slc} {l : List Int} (h : Rd k w s l) {i : Int} (h0 : 0 ≤ i) (h1 : i < l.length) {K : Int → World → Prop}
    (hk : K (l.getD i.toNat 0) w) : semA P (Instr.indexAt t s.v (.int .i64 i)) w fun ad w1 => ldI k ad w1 fun x => K x w1 := by
  obtain ⟨ad, hA, hc⟩ := h.get i.toNat (by omega)
  unfold semA
  rw [Sem.wp_iff_run, run_indexAt hT w s i ad hA h0 (by rw [h.n]; exact h1)]
  exact ⟨_, rfl, _, hc, hk⟩

/-- An element read, in a region that draws. -/
theorem ix_fix (hT : isSl P t k = some e) {w : World} {s : Slc} {l : List Int} (h : Rd k w s l) {i : Int} (h0 : 0 ≤ i) (h1 : i < l.length) {K : Int → Prop}
    (hk : K (l.getD i.toNat 0)) : fixA P (Instr.indexAt t s.v (.int .i64 i)) w fun ad => ldI k ad w fun x => K x := by
  obtain ⟨ad, hA, hc⟩ := h.get i.toNat (by omega)
  exact ⟨_, fun w' _ => run_indexAt hT w' s i ad hA h0 (by rw [h.n]; exact h1), _, hc, hk⟩

/-- An element written. -/
theorem ix_st (hT : isSl P t k = some e) {w : World} {s : Slc} {l : List Int} {b : Nat} (h : Owr k e w s l b) {i : Int} (h0 : 0 ≤ i) (h1 : i < l.length) {x : Int} {K : World → Prop}
    (hk : ∀ w', Owr k e w' s (l.set i.toNat x) b → (∀ w0, Ahead w0 w → w0.heap.size ≤ b → Ahead w0 w') → w'.heap.size = w.heap.size → K w') :
    semA P (Instr.indexAt t s.v (.int .i64 i)) w fun ad w1 => stC ad (.int k x) w1 fun w2 => K w2 := by
  unfold semA
  rw [Sem.wp_iff_run, run_indexAt hT w s i _ h.A h0 (by rw [h.n]; exact h1)]
  refine ⟨_, rfl, ?_⟩
  rw [add_off]
  refine ⟨⟨_, h.cell (by omega)⟩, h.frozen _, hk _ (h.set (by omega) x) (fun w0 ha hb => ?_) (by simp [World.setCell])⟩
  exact Ahead.setCell ha hb

theorem run_newRow (w : World) (c : Array Value) : (newRow e c).run P w = .ok ⟨w.heap.size, 0, none⟩ (w.alloc (.cells c e)) := by
  simp [newRow, newObj, Sem.run]

theorem run_makeSlice (hT : isSl P t k = some e) (w : World) (n c : Nat) (hnc : n ≤ c) (hn : c * 8 ≤ 2 ^ 48) :
    (Instr.makeSlice t (.int .i64 n) (.int .i64 c)).run P w = .ok (.slice (some ⟨w.heap.size, 0, none⟩) n c) (w.alloc (.cells (ints k (List.replicate c 0)).toArray e (0, 0))) := by
  obtain ⟨hu, he, inf, hi, hs, hb, hz⟩ := isSl_out hT
  have hw : IntKind.i64.wrap (n : Int) = n := by unfold IntKind.wrap; simp [IntKind.bits, IntKind.signed]; omega
  have hwc : IntKind.i64.wrap (c : Int) = c := by unfold IntKind.wrap; simp [IntKind.bits, IntKind.signed]; omega
  have hzero : (zeroValue e).run P w = .ok (.int k 0) w := by simp [zeroValue, typeInfo, program, Sem.run, hi, hz]
  have hcells : (Array.range c).map (fun i => (#[Value.int k 0] : Array Value)[i % 1]!) = (ints k (List.replicate c 0)).toArray := by
    apply Array.ext
    · simp [ints]
    · intro i h1 h2; simp [ints, Nat.mod_one]
  have c1 : (decide ((c : Int) < 0) || decide (((8 : Nat) : Int) * (c : Int) > 2 ^ 48)) = false := by
    simp only [Bool.or_eq_false_iff, decide_eq_false_iff_not]; omega
  have c2 : decide ((n : Int) < 0) = false := by simp only [decide_eq_false_iff_not]; omega
  have c3 : decide ((n : Int) > (c : Int)) = false := by simp only [decide_eq_false_iff_not]; omega
  have hti : (typeInfo e).run P w = .ok inf w := by simp [typeInfo, program, Sem.run, hi]
  have hsz : (sizeOf e).run P w = .ok 1 w := by simp [sizeOf, hti, hs]
  have hul : (underlying t).run P w = .ok (.slice e) w := by simp [underlying, program, Sem.run, hu]
  unfold Instr.makeSlice
  simp only [Sem.run_bind, hul, Result.andThen, asInt, asIntOf, Sem.run_pure, hti, hb, hw, hwc, c1, c2, c3, Bool.or_self, if_false, Bool.false_eq_true, Int.toNat_natCast, run_askRoom, hsz, Nat.mul_one]
  by_cases h0 : c = 0
  · subst h0
    simp only [if_true, Sem.run_pure, Sem.run_bind, Result.andThen, run_newRow]
    have hr : ∀ f : Nat → Value, (Array.range 0).map f = #[] := fun f => Array.eq_empty_of_size_eq_zero (by simp)
    simp [ints, hr]
  · simp only [h0, if_false, hzero, Sem.run_bind, Result.andThen, Sem.run_pure, Value.cells, List.size_toArray, List.length_cons, List.length_nil, Nat.zero_add, hcells, run_newRow]

/-- make. -/
theorem mk (hT : isSl P t k = some e) {w : World} {n c : Int} (h0 : 0 ≤ n) (hnc : n ≤ c) (hn : c * 8 ≤ 2 ^ 48) {K : Slc → World → Prop}
    (hk : ∀ s w', s.c = c.toNat → Owr k e w' s (List.replicate n.toNat 0) w.heap.size → Ahead w w' → w'.heap.size = w.heap.size + 1 → K s w') :
    semS P (Instr.makeSlice t (.int .i64 n) (.int .i64 c)) w fun s w' => K s w' := by
  obtain ⟨n, rfl⟩ := Int.eq_ofNat_of_zero_le h0
  obtain ⟨c, rfl⟩ := Int.eq_ofNat_of_zero_le (Int.le_trans h0 hnc)
  unfold semS
  rw [Sem.wp_iff_run, run_makeSlice hT w n c (by omega) (by omega)]
  refine ⟨⟨_, _, _⟩, rfl, hk _ _ (by simp) ⟨by simp, ints k (List.replicate (c - n) 0), by simp [ints]; omega, ?_⟩ (Ahead.alloc _ _) (size_alloc _ _)⟩
  rw [get_alloc, Int.toNat_natCast]
  unfold ints
  rw [← List.map_append, List.replicate_append_replicate, show n + (c - n) = c by omega]

theorem map_add_zero (A : Option Addr) : A.map (fun a => a.add 0) = A := by cases A <;> simp [Addr.add]
theorem run_slice_hi (hT : isSl P t k = some e) (w : World) (s : Slc) {h : Int} (h0 : 0 ≤ h) (h1 : h ≤ s.c) :
    (Instr.sliceAt t s.v none (some (.int .i64 h)) none).run P w = .ok (Slc.v ⟨s.A, h.toNat, s.c⟩) w := by
  obtain ⟨hu, he, inf, hi, hs, hb, hz⟩ := isSl_out hT
  simp [Instr.sliceAt, Instr.slice, Instr.sliceBounds, Instr.sliceBound, run_underlying hu, asIntOf, h0, h1, sizeOf, typeInfo, hi, hs, Slc.v, map_add_zero]
theorem run_slice_both (hT : isSl P t k = some e) (w : World) (s : Slc) {l h : Int} (l0 : 0 ≤ l) (l1 : l ≤ h) (h1 : h ≤ s.c) :
    (Instr.sliceAt t s.v (some (.int .i64 l)) (some (.int .i64 h)) none).run P w = .ok (Slc.v ⟨if s.c = l.toNat then s.A else s.A.map (·.add l.toNat), h.toNat - l.toNat, s.c - l.toNat⟩) w := by
  obtain ⟨hu, he, inf, hi, hs, hb, hz⟩ := isSl_out hT
  have h0 : 0 ≤ h := by omega
  have h2 : l ≤ max h 0 := by omega
  simp [Instr.sliceAt, Instr.slice, Instr.sliceBounds, Instr.sliceBound, run_underlying hu, asIntOf, h0, h1, h2, l0, sizeOf, typeInfo, hi, hs, Slc.v]
theorem run_slice_cap (hT : isSl P t k = some e) (w : World) (s : Slc) {h : Int} (h0 : 0 ≤ h) (h1 : h ≤ s.c) :
    (Instr.sliceAt t s.v none (some (.int .i64 h)) (some (.int .i64 h))).run P w = .ok (Slc.v ⟨s.A, h.toNat, h.toNat⟩) w := by
  obtain ⟨hu, he, inf, hi, hs, hb, hz⟩ := isSl_out hT
  have h2 : h ≤ max h 0 := by omega
  simp [Instr.sliceAt, Instr.slice, Instr.sliceBounds, Instr.sliceBound, run_underlying hu, asIntOf, h0, h1, h2, sizeOf, typeInfo, hi, hs, Slc.v, map_add_zero]

theorem Rd.take {w : World} {s : Slc} {l : List Int} (h : Rd k w s l) {m c : Nat} (hm : m ≤ l.length) (hc : m ≤ c) : Rd k w ⟨s.A, m, c⟩ (l.take m) :=
  ⟨by simp; omega, hc, fun i hi => by
    have hi' : i < m := by simp at hi; omega
    obtain ⟨ad, e, hh⟩ := h.get i (by omega)
    refine ⟨ad, e, ?_⟩
    rw [hh]; simp [List.getElem?_take, hi']⟩
theorem add_add (a : Addr) (i j : Nat) : (a.add i).add j = a.add (i + j) := by
  by_cases h : i = 0
  · subst h; simp [Addr.add]
  · by_cases h' : j = 0
    · subst h'; simp [Addr.add, h]
    · have : ¬ (i + j = 0) := by omega
      simp only [Addr.add, h, h', this, if_false]
      congr 1; omega
theorem Rd.drop {w : World} {s : Slc} {l : List Int} (h : Rd k w s l) {m : Nat} (hm : m ≤ l.length) :
    Rd k w ⟨if s.c = m then s.A else s.A.map (·.add m), s.n - m, s.c - m⟩ (l.drop m) :=
  ⟨by simp [h.n], by have := h.c; simp; omega, fun i hi => by
    simp at hi
    obtain ⟨ad, e, hh⟩ := h.get (m + i) (by omega)
    have := h.c
    have := h.n
    refine ⟨ad.add m, ?_, ?_⟩
    · simp only; rw [if_neg (by omega), e]; rfl
    · rw [add_add, hh]; simp⟩
theorem Owr.take {w : World} {s : Slc} {l : List Int} {b : Nat} (h : Owr k e w s l b) {m : Nat} (hm : m ≤ l.length) : Owr k e w ⟨s.A, m, s.c⟩ (l.take m) b := by
  obtain ⟨sp, hc, hh⟩ := h.mem
  refine ⟨by rw [h.A]; simp; omega, ints k (l.drop m) ++ sp, by simp [ints]; omega, ?_⟩
  rw [hh]; unfold ints
  rw [← List.append_assoc, ← List.map_append, List.take_append_drop]

theorem Owr.ownsRow {w : World} {s : Slc} {l : List Int} {b : Nat} (h : Owr k e w s l b) {base : Nat} (hb : base ≤ b) (hc : s.c ≤ maxLen) : w.ownsRow base e 1 s.v l.length (ints k l) := by
  obtain ⟨sp, hc', hh⟩ := h.mem
  refine ⟨by simp [ints], .inr ⟨b, s.c, _, by rw [Slc.v, h.A, h.n], hb, hh, by omega, hc, by simp [ints]; omega, ?_⟩⟩
  simp [ints]
theorem own_of_row {w : World} {base : Nat} {v : Value} {l : List Int} (h : w.ownsRow base e 1 v l.length (ints k l)) (hn : v ≠ .slice none 0 0) :
    ∃ s b, v = Slc.v s ∧ base ≤ b ∧ s.c ≤ maxLen ∧ Owr k e w s l b := by
  obtain ⟨_, ⟨hv, _⟩ | ⟨g, cap, cur, hv, hg, hh, hn, hc, hs, ht⟩⟩ := h
  · exact absurd hv hn
  · refine ⟨⟨_, _, _⟩, g, hv, hg, hc, rfl, cur.toList.drop l.length, by simp; omega, ?_⟩
    rw [Nat.mul_one] at ht
    rw [hh, ← ht, List.take_append_drop]

/-- append of what reads as ys, onto a slice of the call's own, or onto nil. -/
theorem app (hT : isSl P t k = some e) {w : World} {s x : Slc} {l ys : List Int} {ty : TypeId} {base : Nat} (hx : Rd k w x ys) (hy : 0 < ys.length)
    (hs : (s = ⟨none, 0, 0⟩ ∧ l = []) ∨ ∃ b, base ≤ b ∧ s.c ≤ maxLen ∧ Owr k e w s l b) (hb : base ≤ w.heap.size) (hsz : (l.length + ys.length) * 8 ≤ 2 ^ 47) {K : Slc → World → Prop}
    (hk : ∀ s' w' b', base ≤ b' → s'.c ≤ maxLen → Owr k e w' s' (l ++ ys) b' → Below base w w' → (∀ w0, Ahead w0 w → (∀ b, s.A = some ⟨b, 0, none⟩ → w0.heap.size ≤ b) → Ahead w0 w') → K s' w') :
    semS P (Builtin.append_ #[t, t] ty #[s.v, x.v]) w fun s' w' => K s' w' := by
  obtain ⟨hu, he, inf, hi, hs1, hb8, hz⟩ := isSl_out hT
  obtain ⟨ad, hA, _⟩ := hx.get 0 hy
  have hrow : w.ownsRow base e 1 s.v l.length (ints k l) := by
    rcases hs with ⟨rfl, rfl⟩ | ⟨b, h1, h2, h3⟩
    · exact ⟨rfl, .inl ⟨rfl, rfl⟩⟩
    · exact h3.ownsRow h1 h2
  obtain ⟨v', w', hr, ho, hg, hn⟩ := run_append_own (P := P) (ty := ty) w base t e inf (.int k 0) 1 8 hu hi hz hs1 hb8 rfl (by omega) s.v l.length (ints k l) hrow ad ys.length x.c (ints k ys) (by simp [ints])
    (fun j u hj => by
      have hj' : j < ys.length := by
        have := (List.getElem?_eq_some_iff.1 hj).1
        simpa [ints] using this
      obtain ⟨ad', e', hc⟩ := hx.get j hj'
      rw [hA] at e'
      obtain rfl := Option.some.inj e'
      rw [ints_get hj'] at hj
      obtain rfl := Option.some.inj hj
      exact hc) (by simp [ints, Value.oneCell']) (by unfold maxLen; omega) (by omega) hb
  have hne : v' ≠ .slice none 0 0 := fun h => by have := hn.1 h; omega
  have ho' : w'.ownsRow base e 1 v' (l ++ ys).length (ints k (l ++ ys)) := by
    simp only [ints, List.map_append, List.length_append]; exact ho
  obtain ⟨s', b', rfl, hb', hc', hown⟩ := own_of_row ho' hne
  unfold semS
  have hxv : x.v = .slice (some ad) ys.length x.c := by rw [Slc.v, hA, hx.n]
  rw [Sem.wp_iff_run, hxv, hr]
  have hblk : ∀ b, s.v.ownBlock = some b → (s = ⟨none, 0, 0⟩ ∧ l = []) ∨ (s.A = some ⟨b, 0, none⟩ ∧ base ≤ b) := by
    intro b hb2
    rcases hs with h | ⟨b0, h1, h2, h3⟩
    · exact .inl h
    · right
      rw [Slc.v, h3.A] at hb2
      simp [Value.ownBlock] at hb2
      subst hb2
      exact ⟨h3.A, h1⟩
  refine ⟨s', rfl, hk s' w' b' hb' hc' hown ?_ ?_⟩
  · refine Below.grown (Below.refl _ _) hg hb fun k hk => ?_
    rcases hblk k hk with ⟨h, _⟩ | h
    · rw [h] at hk; simp [Slc.v, Value.ownBlock] at hk
    · exact h.2
  · intro w0 ha hlow
    refine Below.grown ha hg ha.size fun k hk => ?_
    rcases hblk k hk with ⟨h, _⟩ | h
    · rw [h] at hk; simp [Slc.v, Value.ownBlock] at hk
    · exact hlow k h.1

/-- append of nothing onto nil. -/
theorem app0 (hT : isSl P t k = some e) {w : World} {x : Slc} {ty : TypeId} (hx : x.n = 0) {K : Slc → World → Prop} (hk : K ⟨none, 0, 0⟩ w) :
    semS P (Builtin.append_ #[t, t] ty #[Slc.v ⟨none, 0, 0⟩, x.v]) w fun s' w' => K s' w' := by
  obtain ⟨hu, he, inf, hi, hs1, hb8, hz⟩ := isSl_out hT
  unfold semS
  rw [Sem.wp_iff_run]
  have hr : (Builtin.append_ #[t, t] ty #[Slc.v ⟨none, 0, 0⟩, x.v]).run P w = .ok (.slice none 0 0) w := by
    obtain ⟨A, n, c⟩ := x
    simp only at hx
    subst hx
    cases A <;> simp [Builtin.append_, Slc.v, run_underlying hu, sizeOf, typeInfo, hi, hs1, Builtin.lenOf, Builtin.firstCells, loadCells, loadCellsFrom]
  rw [hr]
  exact ⟨⟨none, 0, 0⟩, rfl, hk⟩
end
end Sp
end Go.Proofs.YtahbekmnphkiiaaDoor
namespace Go.Proofs.YtahbekmnphkiiaaDoor
set_option linter.unusedVariables false
set_option linter.unusedSimpArgs false
namespace Dg
def B64 : Nat := 18446744073709551616
def B32 : Nat := 4294967296
theorem B64v : B64 = 18446744073709551616 := rfl
theorem B32v : B32 = 4294967296 := rfl
theorem two64 : 2 ≤ B64 := by decide
theorem two32 : 2 ≤ B32 := by decide
theorem getD_lt {α : Type} (l : List α) (d : α) {i : Nat} (h : i < l.length) : l.getD i d = l[i] := by simp [List.getD_eq_getElem?_getD, h]
theorem getD_ge {α : Type} (l : List α) (d : α) {i : Nat} (h : l.length ≤ i) : l.getD i d = d := by simp [List.getD_eq_getElem?_getD, h]

def val (B : Nat) : List Nat → Nat
  | [] => 0
  | x :: l => x + B * val B l
def ok (B : Nat) (l : List Nat) : Prop := ∀ x ∈ l, x < B
def digs (B n : Nat) : List Nat := if h : 2 ≤ B ∧ n ≠ 0 then n % B :: digs B (n / B) else []
termination_by n
decreasing_by exact Nat.div_lt_self (by omega) (by omega)

section
variable {B : Nat}
theorem digs_zero : digs B 0 = [] := by unfold digs; simp
theorem digs_pos (hB : 2 ≤ B) {n : Nat} (hn : n ≠ 0) : digs B n = n % B :: digs B (n / B) := by
  rw [digs]; simp [hB, hn]
theorem val_digs (hB : 2 ≤ B) (n : Nat) : val B (digs B n) = n := by
  induction n using Nat.strongRecOn with
  | _ n ih =>
    by_cases hn : n = 0
    · subst hn; rw [digs_zero]; rfl
    · rw [digs_pos hB hn, val, ih _ (Nat.div_lt_self (by omega) (by omega))]
      have := Nat.mod_add_div n B
      omega
theorem ok_digs (hB : 2 ≤ B) (n : Nat) : ok B (digs B n) := by
  induction n using Nat.strongRecOn with
  | _ n ih =>
    by_cases hn : n = 0
    · subst hn; rw [digs_zero]; intro x hx; cases hx
    · rw [digs_pos hB hn]
      intro x hx
      rcases List.mem_cons.1 hx with rfl | hx
      · exact Nat.mod_lt _ (by omega)
      · exact ih _ (Nat.div_lt_self (by omega) (by omega)) x hx
theorem ok_nil : ok B [] := fun x h => by cases h
theorem ok_cons {x : Nat} {l : List Nat} : ok B (x :: l) ↔ x < B ∧ ok B l := by simp [ok]
theorem ok_append {l m : List Nat} : ok B (l ++ m) ↔ ok B l ∧ ok B m := by
  simp only [ok, List.mem_append]; exact ⟨fun h => ⟨fun x hx => h x (.inl hx), fun x hx => h x (.inr hx)⟩, fun h x hx => hx.elim (h.1 x) (h.2 x)⟩
theorem ok_take {l : List Nat} (h : ok B l) (m : Nat) : ok B (l.take m) := fun x hx => h x (List.mem_of_mem_take hx)
theorem ok_drop {l : List Nat} (h : ok B l) (m : Nat) : ok B (l.drop m) := fun x hx => h x (List.mem_of_mem_drop hx)
theorem ok_getD {l : List Nat} (h : ok B l) (hB : 0 < B) (i : Nat) : l.getD i 0 < B := by
  by_cases hi : i < l.length
  · rw [getD_lt _ _ hi]; exact h _ (List.getElem_mem hi)
  · rw [getD_ge _ _ (by omega)]; exact hB
theorem ok_replicate (hB : 0 < B) (n : Nat) : ok B (List.replicate n 0) := fun x hx => by rw [List.eq_of_mem_replicate hx]; exact hB
theorem ok_set {l : List Nat} (h : ok B l) {i x : Nat} (hx : x < B) : ok B (l.set i x) := fun y hy => by
  rcases List.mem_or_eq_of_mem_set hy with h1 | h1
  · exact h y h1
  · subst h1; exact hx

theorem val_append (l m : List Nat) : val B (l ++ m) = val B l + B ^ l.length * val B m := by
  induction l with
  | nil => simp [val]
  | cons x l ih =>
    simp only [List.cons_append, val, ih, List.length_cons, Nat.pow_succ]
    rw [Nat.mul_add, Nat.add_assoc, ← Nat.mul_assoc, Nat.mul_comm B (B ^ l.length)]
theorem val_replicate (n : Nat) : val B (List.replicate n 0) = 0 := by
  induction n with
  | zero => rfl
  | succ n ih => simp [List.replicate_succ, val, ih]
theorem val_lt {l : List Nat} (h : ok B l) : val B l < B ^ l.length := by
  induction l with
  | nil => simp [val]
  | cons x l ih =>
    obtain ⟨h1, h2⟩ := ok_cons.1 h
    have := ih h2
    simp only [val, List.length_cons, Nat.pow_succ]
    have h3 : B * (val B l + 1) ≤ B * B ^ l.length := Nat.mul_le_mul_left B this
    rw [Nat.mul_comm (B ^ l.length) B]
    rw [Nat.mul_add] at h3
    omega
theorem val_take_drop (l : List Nat) (m : Nat) (hm : m ≤ l.length) : val B l = val B (l.take m) + B ^ m * val B (l.drop m) := by
  conv => lhs; rw [← List.take_append_drop m l]
  rw [val_append, List.length_take, Nat.min_eq_left hm]
theorem val_take_succ (l : List Nat) (m : Nat) (hm : m < l.length) : val B (l.take (m + 1)) = val B (l.take m) + B ^ m * l.getD m 0 := by
  rw [List.take_succ_eq_append_getElem hm, val_append, List.length_take, Nat.min_eq_left (by omega), getD_lt _ _ hm]
  simp [val]

/-- The digits of a list's number are its front. -/
theorem digs_val {l : List Nat} (hB : 2 ≤ B) (h : ok B l) (hl : l = [] ∨ l.getD (l.length - 1) 0 ≠ 0) : digs B (val B l) = l := by
  induction l with
  | nil => rw [val, digs_zero]
  | cons x l ih =>
    obtain ⟨h1, h2⟩ := ok_cons.1 h
    have hpos : val B (x :: l) ≠ 0 := by
      rcases hl with hl | hl
      · cases hl
      · intro h0
        apply hl
        have key : ∀ (m : List Nat) (i : Nat), val B m = 0 → m.getD i 0 = 0 := by
          intro m
          induction m with
          | nil => intro i _; simp
          | cons y m ihm =>
            intro i hv
            simp only [val] at hv
            have hy : y = 0 := by omega
            have hm : B * val B m = 0 := by omega
            have hm' : val B m = 0 := by
              rcases Nat.mul_eq_zero.1 hm with h | h
              · omega
              · exact h
            cases i with
            | zero => simp [hy]
            | succ i => simpa using ihm i hm'
        exact key _ _ h0
    rw [digs_pos hB hpos]
    simp only [val]
    have e1 : (x + B * val B l) % B = x := by rw [Nat.add_mul_mod_self_left]; exact Nat.mod_eq_of_lt h1
    have e2 : (x + B * val B l) / B = val B l := by rw [Nat.add_mul_div_left _ _ (by omega), Nat.div_eq_of_lt h1]; omega
    rw [e1, e2]
    congr 1
    apply ih h2
    rcases hl with hl | hl
    · cases hl
    · cases l with
      | nil => exact .inl rfl
      | cons y l => right; simpa using hl
theorem val_zeros {l : List Nat} (h : ∀ i, i < l.length → l.getD i 0 = 0) : val B l = 0 := by
  induction l with
  | nil => rfl
  | cons x l ih =>
    have h0 := h 0 (by simp)
    simp at h0
    rw [val, h0, ih]
    · omega
    · intro i hi; have := h (i + 1) (by simp; omega); simpa using this
/-- A list whose tail from m on is nought. -/
theorem val_take_of_zeros {l : List Nat} {m : Nat} (hm : m ≤ l.length) (h : ∀ i, m ≤ i → i < l.length → l.getD i 0 = 0) : val B (l.take m) = val B l := by
  rw [val_take_drop l m hm, val_zeros (l := l.drop m)]
  · omega
  · intro i hi
    simp at hi
    have := h (m + i) (by omega) (by omega)
    simpa [List.getD_eq_getElem?_getD] using this
theorem digs_take {l : List Nat} (hB : 2 ≤ B) (h : ok B l) {m : Nat} (hm : m ≤ l.length) (hz : ∀ i, m ≤ i → i < l.length → l.getD i 0 = 0) (hl : m = 0 ∨ l.getD (m - 1) 0 ≠ 0) :
    digs B (val B l) = l.take m := by
  rw [← val_take_of_zeros hm hz]
  apply digs_val hB (ok_take h m)
  rcases hl with hl | hl
  · left; simp [hl]
  · by_cases h0 : m = 0
    · left; simp [h0]
    · right
      rw [List.length_take, Nat.min_eq_left hm]
      simp only [List.getD_eq_getElem?_getD] at hl ⊢
      rw [List.getElem?_take, if_pos (by omega)]
      exact hl
theorem digs_length_le (hB : 2 ≤ B) {n m : Nat} (h : n < B ^ m) : (digs B n).length ≤ m := by
  induction m generalizing n with
  | zero => simp at h; subst h; rw [digs_zero]; simp
  | succ m ih =>
    by_cases hn : n = 0
    · subst hn; rw [digs_zero]; simp
    · rw [digs_pos hB hn]
      simp only [List.length_cons]
      have : n / B < B ^ m := by rw [Nat.div_lt_iff_lt_mul (by omega)]; rw [Nat.pow_succ] at h; exact h
      have := ih this
      omega
theorem digs_last (hB : 2 ≤ B) {n : Nat} (hn : n ≠ 0) : (digs B n).getD ((digs B n).length - 1) 0 ≠ 0 := by
  induction n using Nat.strongRecOn with
  | _ n ih =>
    rw [digs_pos hB hn]
    by_cases h0 : n / B = 0
    · rw [h0, digs_zero]
      simp
      have := Nat.mod_add_div n B
      rw [h0] at this
      omega
    · have := ih (n / B) (Nat.div_lt_self (by omega) (by omega)) h0
      have hl : digs B (n / B) ≠ [] := by rw [digs_pos hB h0]; simp
      obtain ⟨y, l, e⟩ := List.exists_cons_of_ne_nil hl
      rw [e] at this ⊢
      simpa using this
theorem digs_ne_nil (hB : 2 ≤ B) {n : Nat} (hn : n ≠ 0) : digs B n ≠ [] := by rw [digs_pos hB hn]; simp
theorem digs_inj (hB : 2 ≤ B) {m n : Nat} (h : digs B m = digs B n) : m = n := by rw [← val_digs hB m, h, val_digs hB]
/-- How long a number's digits are. -/
theorem digs_length_bounds (hB : 2 ≤ B) {n : Nat} (hn : n ≠ 0) : B ^ ((digs B n).length - 1) ≤ n ∧ n < B ^ (digs B n).length := by
  constructor
  · have hl := digs_last hB hn
    have hne := digs_ne_nil hB hn
    have hpos : 0 < (digs B n).length := List.length_pos_iff.2 hne
    have h1 := val_take_drop (B := B) (digs B n) ((digs B n).length - 1) (by omega)
    rw [val_digs hB] at h1
    have h2 : (digs B n).drop ((digs B n).length - 1) = [(digs B n).getD ((digs B n).length - 1) 0] := by
      rw [List.drop_eq_getElem_cons (by omega), getD_lt _ _ (by omega), List.drop_eq_nil_of_le (by omega)]
    rw [h2] at h1
    simp only [val, Nat.mul_zero, Nat.add_zero] at h1
    have h3 : B ^ ((digs B n).length - 1) * 1 ≤ B ^ ((digs B n).length - 1) * (digs B n).getD ((digs B n).length - 1) 0 := Nat.mul_le_mul_left _ (by omega)
    omega
  · have := val_lt (ok_digs hB n)
    rwa [val_digs hB] at this
end

theorem getD_take (l : List Nat) {i m : Nat} (h : i < m) : (l.take m).getD i 0 = l.getD i 0 := by simp [List.getD_eq_getElem?_getD, List.getElem?_take, h]
theorem getD_drop (l : List Nat) (i m : Nat) : (l.drop m).getD i 0 = l.getD (m + i) 0 := by simp [List.getD_eq_getElem?_getD]
theorem getD_set (l : List Nat) (i j x : Nat) (h : i < l.length) : (l.set i x).getD j 0 = if i = j then x else l.getD j 0 := by
  simp only [List.getD_eq_getElem?_getD, List.getElem?_set]
  split
  · rename_i e; subst e; simp [h]
  · rfl
theorem take_set_self (l : List Nat) (i x : Nat) : (l.set i x).take i = l.take i := by rw [List.take_set_of_le (Nat.le_refl _)]
theorem val_take_set {B : Nat} (l : List Nat) (i x : Nat) (h : i < l.length) : val B ((l.set i x).take (i + 1)) = val B (l.take i) + B ^ i * x := by
  rw [val_take_succ _ _ (by simpa using h), take_set_self, getD_set _ _ _ _ h, if_pos rfl]
theorem val_take_succ' {B : Nat} (l : List Nat) (m : Nat) : val B (l.take (m + 1)) = val B (l.take m) + B ^ m * l.getD m 0 := by
  by_cases h : m < l.length
  · exact val_take_succ l m h
  · rw [List.take_of_length_le (by omega), List.take_of_length_le (by omega), getD_ge _ _ (by omega)]; omega
theorem val_take_all {B : Nat} (l : List Nat) {m : Nat} (h : l.length ≤ m) : val B (l.take m) = val B l := by rw [List.take_of_length_le h]

/-- How many binary digits. -/
def bl (n : Nat) : Nat := (digs 2 n).length
theorem bl_zero : bl 0 = 0 := by unfold bl; rw [digs_zero]; rfl
theorem bl_bounds {n : Nat} (hn : n ≠ 0) : 2 ^ (bl n - 1) ≤ n ∧ n < 2 ^ bl n := digs_length_bounds (by omega) hn
theorem bl_pos {n : Nat} (hn : n ≠ 0) : 0 < bl n := List.length_pos_iff.2 (digs_ne_nil (by omega) hn)
theorem lt_bl (n : Nat) : n < 2 ^ bl n := by
  by_cases hn : n = 0
  · subst hn; simp [bl_zero]
  · exact (bl_bounds hn).2
theorem bl_le {n k : Nat} (h : n < 2 ^ k) : bl n ≤ k := digs_length_le (by omega) h
theorem bl_eq {n k : Nat} (h1 : 2 ^ k ≤ n) (h2 : n < 2 ^ (k + 1)) : bl n = k + 1 := by
  have h3 := bl_le h2
  have hp : 0 < 2 ^ k := Nat.two_pow_pos k
  have h4 := lt_bl n
  rcases Nat.lt_or_ge (bl n) (k + 1) with h5 | h5
  · have : 2 ^ bl n ≤ 2 ^ k := Nat.pow_le_pow_right (by omega) (by omega)
    omega
  · omega
theorem bl_le_iff {n k : Nat} : bl n ≤ k ↔ n < 2 ^ k := by
  constructor
  · intro h
    have := lt_bl n
    have h2 : 2 ^ bl n ≤ 2 ^ k := Nat.pow_le_pow_right (by omega) h
    omega
  · exact bl_le
theorem bl_mono {m n : Nat} (h : m ≤ n) : bl m ≤ bl n := bl_le (by have := lt_bl n; omega)
theorem bitLen_eq {x : Nat} (h : x < B64) : Lib.bitLen x = bl x := by
  have key : ∀ f x, x < 2 ^ f → Lib.bitLenAux f x = bl x := by
    intro f
    induction f with
    | zero => intro x hx; simp at hx; subst hx; rw [bl_zero]; rfl
    | succ f ih =>
      intro x hx
      rw [Lib.bitLenAux]
      by_cases h0 : x = 0
      · subst h0; simp [bl_zero]
      · rw [if_neg h0, ih _ (by rw [Nat.pow_succ] at hx; omega)]
        unfold bl
        rw [digs_pos (by omega) h0, List.length_cons]; omega
  exact key 64 x h
theorem bl_add_pow {h t k : Nat} (hh : h ≠ 0) (ht : t < 2 ^ k) : bl (t + 2 ^ k * h) = k + bl h := by
  obtain ⟨h1, h2⟩ := bl_bounds hh
  have hp := bl_pos hh
  obtain ⟨m, hm⟩ : ∃ m, bl h = m + 1 := ⟨bl h - 1, by omega⟩
  rw [hm] at h1 h2 ⊢
  rw [Nat.add_sub_cancel] at h1
  rw [← Nat.add_assoc]
  apply bl_eq
  · rw [Nat.pow_add]
    have := Nat.mul_le_mul_left (2 ^ k) h1
    omega
  · rw [Nat.add_assoc, Nat.pow_add]
    have : 2 ^ k * (h + 1) ≤ 2 ^ k * 2 ^ (m + 1) := Nat.mul_le_mul_left _ h2
    rw [Nat.mul_add] at this
    omega
theorem b64_pow (m : Nat) : B64 ^ m = 2 ^ (64 * m) := by rw [show B64 = 2 ^ 64 from rfl, ← Nat.pow_mul]
theorem b32_pow (m : Nat) : B32 ^ m = 2 ^ (32 * m) := by rw [show B32 = 2 ^ 32 from rfl, ← Nat.pow_mul]
/-- The length of a number out of its top digit. -/
theorem bl_top {n m : Nat} (hm : (digs B64 n).length = m + 1) : bl n = 64 * m + bl ((digs B64 n).getD m 0) := by
  have hn : n ≠ 0 := fun h => by rw [h, digs_zero] at hm; cases hm
  have h1 := val_take_drop (B := B64) (digs B64 n) m (by omega)
  rw [val_digs two64] at h1
  have h2 : (digs B64 n).drop m = [(digs B64 n).getD m 0] := by
    rw [List.drop_eq_getElem_cons (by omega), getD_lt _ _ (by omega), List.drop_eq_nil_of_le (by omega)]
  rw [h2] at h1
  simp only [val, Nat.mul_zero, Nat.add_zero] at h1
  have h3 : val B64 ((digs B64 n).take m) < B64 ^ m := by
    have := val_lt (ok_take (ok_digs two64 n) m)
    rwa [List.length_take, Nat.min_eq_left (by omega)] at this
  have h4 : (digs B64 n).getD m 0 ≠ 0 := by have := digs_last two64 hn; rwa [hm, Nat.add_sub_cancel] at this
  rw [b64_pow] at h1 h3
  conv => lhs; rw [h1]
  exact bl_add_pow h4 h3

/-- The order of two numbers, as Go's functions tell it. -/
def cmpI (m n : Nat) : Int := if m < n then -1 else if n < m then 1 else 0
theorem cmpI_neg {m n : Nat} : cmpI m n < 0 ↔ m < n := by
  unfold cmpI; by_cases h : m < n <;> by_cases h2 : n < m <;> simp [h, h2]
theorem val_split3 {B : Nat} (l : List Nat) (i : Nat) (h : i < l.length) : val B l = val B (l.take i) + B ^ i * (l.getD i 0 + B * val B (l.drop (i + 1))) := by
  rw [val_take_drop l i (by omega), List.drop_eq_getElem_cons h, getD_lt _ _ h]; rfl
theorem val_lt_top {B : Nat} {a b : List Nat} {i : Nat} (ha : ok B a) (hi : i < a.length) (hj : i < b.length) (hd : a.drop (i + 1) = b.drop (i + 1)) (h : a.getD i 0 < b.getD i 0) : val B a < val B b := by
  rw [val_split3 a i hi, val_split3 b i hj, hd]
  have h1 : val B (a.take i) < B ^ i := by
    have := val_lt (ok_take ha i); rwa [List.length_take, Nat.min_eq_left (by omega)] at this
  have h2 : B ^ i * (a.getD i 0 + B * val B (b.drop (i + 1)) + 1) ≤ B ^ i * (b.getD i 0 + B * val B (b.drop (i + 1))) := Nat.mul_le_mul_left _ (by omega)
  rw [Nat.mul_add] at h2
  omega
theorem digs_len_lt {B : Nat} (hB : 2 ≤ B) {m n : Nat} (h : (digs B m).length < (digs B n).length) : m < n := by
  have hn : n ≠ 0 := fun e => by subst e; rw [digs_zero] at h; simp at h
  have h1 := (digs_length_bounds hB hn).1
  have h2 : m < B ^ (digs B m).length := by have := val_lt (ok_digs hB m); rwa [val_digs hB] at this
  have h3 : B ^ (digs B m).length ≤ B ^ ((digs B n).length - 1) := Nat.pow_le_pow_right (by omega) (by omega)
  omega
theorem add_step {V P A C x y c s c' B : Nat} (h : s + B * c' = x + y + c) (ih : V + c * P = A + C) : V + P * s + c' * (P * B) = (A + P * x) + (C + P * y) := by
  grind
theorem sub_step {V P A C x y c s c' B : Nat} (h : s + y + c = x + B * c') (ih : V + C = A + c * P) : V + P * s + (C + P * y) = (A + P * x) + c' * (P * B) := by
  grind

/-- Digits as the numbers in memory. -/
def nn (l : List Nat) : List Int := l.map fun x : Nat => (x : Int)
@[simp] theorem nn_length (l : List Nat) : (nn l).length = l.length := by simp [nn]
theorem nn_getD (l : List Nat) (i : Nat) : (nn l).getD i 0 = ((l.getD i 0 : Nat) : Int) := by
  simp only [nn, List.getD_eq_getElem?_getD, List.getElem?_map]
  cases l[i]? <;> simp
theorem nn_take (l : List Nat) (m : Nat) : (nn l).take m = nn (l.take m) := by simp [nn, List.map_take]
theorem nn_drop (l : List Nat) (m : Nat) : (nn l).drop m = nn (l.drop m) := by simp [nn, List.map_drop]
theorem nn_set (l : List Nat) (i x : Nat) : (nn l).set i (x : Int) = nn (l.set i x) := by simp [nn, List.map_set]
theorem nn_append (l m : List Nat) : nn (l ++ m) = nn l ++ nn m := by simp [nn]
theorem nn_replicate (n : Nat) : List.replicate n (0 : Int) = nn (List.replicate n 0) := by simp [nn]

theorem wrap_i64 {x : Int} (h0 : -9223372036854775808 ≤ x) (h1 : x ≤ 9223372036854775807) : IntKind.i64.wrap x = x := by
  unfold IntKind.wrap; simp [IntKind.bits, IntKind.signed]; omega
theorem wrap_u64 (x : Int) : IntKind.u64.wrap x = x % 18446744073709551616 := by
  unfold IntKind.wrap; simp [IntKind.bits, IntKind.signed]
theorem wrap_u64' {x : Int} (h0 : 0 ≤ x) (h1 : x < 18446744073709551616) : IntKind.u64.wrap x = x := by
  rw [wrap_u64]; omega

end Dg
end Go.Proofs.YtahbekmnphkiiaaDoor
namespace Go.Proofs.YtahbekmnphkiiaaDoor
open Go Go.RowKit Eng Sp Dg
set_option linter.unusedVariables false
set_option linter.unusedSimpArgs false

/-- A slice of numbers that came in. -/
def IsRow (k : IntKind) (w : World) (a : Option Addr) (len cap : Nat) (zs : List Int) : Prop :=
  (a = none ∧ len = 0 ∧ cap = 0 ∧ zs = []) ∨
  ∃ x, a = some x ∧ len ≤ cap ∧ cap ≤ maxLen ∧ zs.length = cap ∧ (∀ i, i < zs.length → w.cell? (x.add i) = some (.int k (zs.getD i 0))) ∧ ∀ n ∈ zs, (Lit.int k n).wf = true

theorem wf_i64 {x : Int} (h : (Lit.int .i64 x).wf = true) : -9223372036854775808 ≤ x ∧ x ≤ 9223372036854775807 := by
  simp [Lit.wf, IntKind.min, IntKind.max, IntKind.signed, IntKind.bits] at h; exact h
theorem wf_u64 {x : Int} (h : (Lit.int .u64 x).wf = true) : 0 ≤ x ∧ x < 18446744073709551616 := by
  simp [Lit.wf, IntKind.min, IntKind.max, IntKind.signed, IntKind.bits] at h; omega

theorem IsRow.rd {w : World} {a : Option Addr} {len cap : Nat} {zs : List Int} (h : IsRow .u64 w a len cap zs) :
    ∃ l : List Nat, l.length = len ∧ Rd .u64 w ⟨a, len, cap⟩ (nn l) ∧ ok B64 l := by
  rcases h with ⟨rfl, rfl, rfl, rfl⟩ | ⟨x, rfl, hl, _, hz, hc, hw⟩
  · exact ⟨[], rfl, Rd.nil, ok_nil⟩
  · have hnn : nn ((zs.take len).map Int.toNat) = zs.take len := by
      unfold nn
      rw [List.map_map]
      conv => rhs; rw [← List.map_id (zs.take len)]
      apply List.map_congr_left
      intro y hy
      have := wf_u64 (hw y (List.mem_of_mem_take hy))
      simp [Function.comp]; omega
    refine ⟨(zs.take len).map Int.toNat, by simp; omega, ⟨by rw [hnn]; simp; omega, hl, fun i hi => ⟨x, rfl, ?_⟩⟩, ?_⟩
    · rw [hnn] at hi ⊢
      have hi' : i < len := by simp at hi; omega
      rw [hc i (by omega)]
      simp [List.getD_eq_getElem?_getD, List.getElem?_take, hi']
    · intro y hy
      obtain ⟨z, hz1, rfl⟩ := List.mem_map.1 hy
      have := wf_u64 (hw z (List.mem_of_mem_take hz1))
      have hB := B64v
      omega

end Go.Proofs.YtahbekmnphkiiaaDoor
namespace Go.Proofs.YtahbekmnphkiiaaDoor
open Go Go.RowKit Eng Sp Dg
open Go.ChangeShapes Go.WideShapes
set_option linter.unusedVariables false
set_option linter.unusedSimpArgs false
namespace RowA

theorem mem_all {H : Type} {P : Program} {e : TypeId} {l : List (DataW H)} {d : DataW H} (hd : d ∈ l) {x : Nat} (hx : x ∈ d.weights P e) : x ∈ DataW.weightsAll P e l := by
  induction l with
  | nil => cases hd
  | cons y ys ih =>
    simp only [DataW.weightsAll, List.mem_append]
    rcases List.mem_cons.1 hd with rfl | h
    · exact .inl hx
    · exact .inr (ih h)

/-- A list's elements, one by one, with the sizes of what they lead to. -/
theorem open_each {H : Type} {enc : TypeId × Value → H} {P : Program} {W : World} {t e : TypeId} {A : Option Addr} {len cap n : Nat} {y : DataW H × List MemPlace}
    (ht : P.underlying t = some (.slice e)) (hw : ∀ x ∈ y.1.weights P t, x ≤ reachBytes) (h : DataW.trod enc P W 0 (fun _ => true) true n t [.slice A len cap] = some y) :
    (A = none ∧ len = 0 ∧ cap = 0) ∨ ∃ a, A = some a ∧ len ≤ cap ∧ cap * P.bytesOf e ≤ 140737488351232 ∧ ∀ i, i < len → ∃ cs' y n, W.cells? 0 (a.add (i * P.cellsOf e)) (P.cellsOf e) = some cs' ∧ DataW.trod enc P W 0 (fun _ => true) true n e cs' = some y ∧ ∀ x ∈ y.1.weights P e, x ≤ reachBytes := by
  rcases Go.Deep.open_slice ht h with ⟨h0, _⟩ | ⟨a, len', cap', m, k, D, Pl, hcs, _, hl, _, hm, rfl, hx⟩
  · simp at h0; exact .inl h0
  · simp at hcs
    obtain ⟨rfl, rfl, rfl⟩ := hcs
    have hm' : m = cap := by simpa using hm
    subst hm'
    refine .inr ⟨a, rfl, hl, ?_, fun i hi => ?_⟩
    · have := hw ((((List.range len).map D).length + ((List.range (m - len)).map fun j => D (len + j)).length) * P.bytesOf e) (by simp [DataW.weights, ht])
      have h3 : reachBytes = 140737488351232 := by decide
      simp at this
      rw [show len + (m - len) = m by omega] at this
      omega
    · obtain ⟨cs', h1, h2⟩ := hx i (by omega)
      refine ⟨cs', _, _, h1, h2, fun x hx => hw x ?_⟩
      simp only [DataW.weights, ht, List.mem_cons, List.mem_append]
      exact .inr (.inl (mem_all (List.mem_map.2 ⟨i, by simpa using hi, rfl⟩) hx))

/-- .. of an argument. -/
theorem open_arg {H : Type} {enc : TypeId × Value → H} {P : Program} {W : World} {t e : TypeId} {A : Option Addr} {len cap : Nat} {d : DataW H} {ps : List MemPlace} {ts : List TypeId} {ds : List (DataW H)} {j : Nat}
    (ht : P.underlying t = some (.slice e)) (hsz : (DataW.weightsEach P ts ds).all (· ≤ reachBytes) = true) (htj : ts[j]? = some t) (hdj : ds[j]? = some d)
    (h : DataW.Trod enc P W 0 (fun _ => true) true t (.slice A len cap) d ps) :
    (A = none ∧ len = 0 ∧ cap = 0) ∨ ∃ a, A = some a ∧ len ≤ cap ∧ cap * P.bytesOf e ≤ 140737488351232 ∧ ∀ i, i < len → ∃ cs' y n, W.cells? 0 (a.add (i * P.cellsOf e)) (P.cellsOf e) = some cs' ∧ DataW.trod enc P W 0 (fun _ => true) true n e cs' = some y ∧ ∀ x ∈ y.1.weights P e, x ≤ reachBytes := by
  obtain ⟨fuel, hf⟩ := h
  refine open_each ht (y := (d, ps)) (fun x hx => ?_) hf
  simpa using List.all_eq_true.1 hsz _ (DataW.weights_mem_each htj hdj _ hx)

/-- A row of words in a cell. -/
theorem open_row {H : Type} {enc : TypeId × Value → H} {P : Program} {W : World} {t e : TypeId} {n : Nat} {cs : List Value} {y : DataW H × List MemPlace}
    (ht : P.underlying t = some (.slice e)) (he : P.underlying e = some (.int .u64)) (hce : P.cellsOf e = 1) (hb : P.bytesOf e = 8)
    (hw : ∀ x ∈ y.1.weights P t, x ≤ reachBytes) (h : DataW.trod enc P W 0 (fun _ => true) true n t cs = some y) :
    ∃ (s : Slc) (l : List Nat), cs = [s.v] ∧ Rd .u64 W s (nn l) ∧ ok B64 l ∧ l.length * 8 ≤ 140737488351232 := by
  obtain ⟨A, m, c, zs, hs1, hrow, hlen⟩ : ∃ A m c zs, cs = [Value.slice A m c] ∧ IsRow .u64 W A m c zs ∧ m * 8 ≤ 140737488351232 := by
    rcases open_ints ht he hce h with ⟨hs, _⟩ | ⟨a, m, c, zs, hs, _, hl1, hm, hz, hy1, hcell, hwz⟩
    · exact ⟨none, 0, 0, [], hs, .inl ⟨rfl, rfl, rfl, rfl⟩, by omega⟩
    · refine ⟨some a, m, c, zs, hs, .inr ⟨a, rfl, hl1, hm, by simpa using hz, hcell, hwz⟩, ?_⟩
      have := hw (((zs.take m).length + (zs.drop m).length) * 8) (by rw [hy1]; simp [DataW.weights, ht, hb, lits])
      have h1 : (zs.take m).length + (zs.drop m).length = zs.length := by simp; omega
      have hz' : zs.length = c := by simpa using hz
      rw [h1, hz'] at this
      have h3 : reachBytes = 140737488351232 := by decide
      omega
  obtain ⟨l, hll, hr, ho'⟩ := hrow.rd
  exact ⟨⟨A, m, c⟩, l, hs1, hr, ho', by omega⟩
end RowA
end Go.Proofs.YtahbekmnphkiiaaDoor
namespace Go.Proofs.YtahbekmnphkiiaaDoor
open Go Go.RowKit Eng
set_option linter.unusedVariables false

def nat_trim_cut (J0 : Slc → World → Prop) (m0 : Slc → World → Nat) : Nat → Option ((Act → World → Prop) × (Act → World → Nat))
  | 0 => some (fun a_ w_ => atSz a_ 21 (atS a_ 0 fun t0_a => J0 t0_a w_), fun a_ w_ => mS a_ 0 fun t0_a => m0 t0_a w_)
  | _ => none

set_option maxRecDepth 100000 in
/-- surd/nat.trim: function 104. -/
theorem nat_trim_vc (a0_a : Slc) (w : World) (R : Ending → World → Prop)
    (J0 : Slc → World → Prop) (m0 : Slc → World → Nat)
    (h : J0 a0_a w)
    (h0 : ∀ (t0_a : Slc) (w_ : World), J0 t0_a w_ → 
    br (decide ((t0_a.n : Int) > 0))
    (semA Tryd.prog (Instr.indexAt 35 t0_a.v (Value.int .i64 (IntKind.i64.wrap ((t0_a.n : Int) - 1)))) w_ fun ad1 w1 =>
     ldI .u64 ad1 w1 fun x1 =>
     br (x1 == 0)
     (semS Tryd.prog (Instr.sliceAt 35 t0_a.v none (some (Value.int .i64 (IntKind.i64.wrap ((t0_a.n : Int) - 1)))) none) w1 fun s1 w2 =>
      J0 s1 w2 ∧
      m0 s1 w2 < m0 t0_a w_)
     (R (.returned t0_a.v) w1))
    (R (.returned t0_a.v) w_)) :
    Calls Tryd.prog 104 #[a0_a.v] w R := by
  refine calls_of_vc (nat_trim_cut J0 m0) (by kernel_rfl) Tryd.func104 rfl ?_ ?_
  · refine kcast h ?_; kernel_rfl
  · exact (obl_seq rfl (obl_reg (obl_seq rfl (obl_loop _ rfl (fun a_ w_ hL_ => (by
    obtain ⟨hz_, hd_, hL_⟩ := atSz_out hL_
    obtain ⟨t0_a, h0_, hL_⟩ := atS_out hL_
    obtain ⟨g0, rfl⟩ : ∃ g, a_ = Fr 21 [(0, t0_a.v)] g := ⟨_, fr_of hz_ hd_ [(0, t0_a.v)] (sel_cons h0_ sel_nil)⟩
    clear hz_ hd_ h0_
    have hJ0_ := hL_
    refine ⟨(fun _ => none), kcast (h0 t0_a w_ hJ0_) ?_, ?_⟩
    · kernel_rfl
    · exact (obl_seq rfl (obl_seq rfl (obl_reg (obl_cond (obl_skip (obl_exit (obl_blk rfl (obl_reg trivial)))))))))) (obl_seq rfl (obl_reg (obl_ret trivial)))))))

set_option maxRecDepth 100000 in
/-- surd/nat.told: function 118. -/
theorem nat_told_vc (a0_a : Slc) (w : World) (R : Ending → World → Prop)
    
    (h : Calls Tryd.prog 104 #[a0_a.v] w fun e1 w1 =>
    ∃ s1 : Slc, e1 = .returned s1.v ∧
    (Calls Tryd.prog 85 #[s1.v] w1 fun e2 w2 =>
     ∃ x1 : Int, e2 = .returned (Value.int .i64 x1) ∧
     (br (decide (x1 > 67108864))
      (R (.returned (Value.tuple #[(⟨none, 0, 0⟩ : Slc).v, Value.int .i64 3])) w2)
      (R (.returned (Value.tuple #[s1.v, Value.int .i64 0])) w2)))) :
    Calls Tryd.prog 118 #[a0_a.v] w R := by
  refine calls_of_vc (fun _ => none) (by kernel_rfl) Tryd.func118 rfl ?_ ?_
  · refine kcast h ?_; kernel_rfl
  · exact (obl_seq rfl (obl_reg (obl_seq rfl (obl_reg (obl_seq rfl (obl_seq rfl (obl_reg (obl_cond (obl_seq rfl (obl_reg (obl_ret (obl_skip (obl_seq rfl (obl_reg (obl_ret trivial)))))))))))))))

set_option maxRecDepth 100000 in
/-- surd/nat.Norm: function 86. -/
theorem nat_Norm_vc (a0_a : Slc) (w : World) (R : Ending → World → Prop)
    
    (h : Calls Tryd.prog 104 #[a0_a.v] w fun e1 w1 =>
    ∃ s1 : Slc, e1 = .returned s1.v ∧
    (semS Tryd.prog (Builtin.append_ #[35, 35] 35 #[(⟨none, 0, 0⟩ : Slc).v, s1.v]) w1 fun s2 w2 =>
     R (.returned s2.v) w2)) :
    Calls Tryd.prog 86 #[a0_a.v] w R := by
  refine calls_of_vc (fun _ => none) (by kernel_rfl) Tryd.func86 rfl ?_ ?_
  · refine kcast h ?_; kernel_rfl
  · exact (obl_seq rfl (obl_reg (obl_seq rfl (obl_reg (obl_ret trivial)))))

def nat_Compare_cut (J0 : Slc → Slc → Int → World → Prop) (m0 : Slc → Slc → Int → World → Nat) : Nat → Option ((Act → World → Prop) × (Act → World → Nat))
  | 0 => some (fun a_ w_ => atSz a_ 45 (atS a_ 0 fun t0_a => atS a_ 1 fun t1_b => atI .i64 a_ 5 fun t5_i => J0 t0_a t1_b t5_i w_), fun a_ w_ => mS a_ 0 fun t0_a => mS a_ 1 fun t1_b => mI a_ 5 fun t5_i => m0 t0_a t1_b t5_i w_)
  | _ => none

set_option maxRecDepth 100000 in
/-- surd/nat.Compare: function 83. -/
theorem nat_Compare_vc (a0_a : Slc) (a1_b : Slc) (w : World) (R : Ending → World → Prop)
    (J0 : Slc → Slc → Int → World → Prop) (m0 : Slc → Slc → Int → World → Nat)
    (h : Calls Tryd.prog 104 #[a0_a.v] w fun e1 w1 =>
    ∃ s1 : Slc, e1 = .returned s1.v ∧
    (Calls Tryd.prog 104 #[a1_b.v] w1 fun e2 w2 =>
     ∃ s2 : Slc, e2 = .returned s2.v ∧
     (br ((s1.n : Int) != (s2.n : Int))
      (br (decide ((s1.n : Int) < (s2.n : Int)))
       (R (.returned (Value.int .i64 (-1))) w2)
       (R (.returned (Value.int .i64 1)) w2))
      (J0 s1 s2 (IntKind.i64.wrap ((s1.n : Int) - 1)) w2))))
    (h0 : ∀ (t0_a : Slc) (t1_b : Slc) (t5_i : Int) (w_ : World), J0 t0_a t1_b t5_i w_ → 
    br (decide (t5_i ≥ 0))
    (fixA Tryd.prog (Instr.indexAt 35 t0_a.v (Value.int .i64 t5_i)) w_ fun ad1 =>
     ldI .u64 ad1 w_ fun x1 =>
     fixA Tryd.prog (Instr.indexAt 35 t1_b.v (Value.int .i64 t5_i)) w_ fun ad2 =>
     ldI .u64 ad2 w_ fun x2 =>
     ∀ w3, Ahead w_ w3 →
     (br (decide (x1 < x2))
      (R (.returned (Value.int .i64 (-1))) w3)
      (fixA Tryd.prog (Instr.indexAt 35 t0_a.v (Value.int .i64 t5_i)) w3 fun ad3 =>
       ldI .u64 ad3 w3 fun x3 =>
       fixA Tryd.prog (Instr.indexAt 35 t1_b.v (Value.int .i64 t5_i)) w3 fun ad4 =>
       ldI .u64 ad4 w3 fun x4 =>
       ∀ w4, Ahead w3 w4 →
       (br (decide (x3 > x4))
        (R (.returned (Value.int .i64 1)) w4)
        (J0 t0_a t1_b (IntKind.i64.wrap (t5_i - 1)) w4 ∧
         m0 t0_a t1_b (IntKind.i64.wrap (t5_i - 1)) w4 < m0 t0_a t1_b t5_i w_)))))
    (R (.returned (Value.int .i64 0)) w_)) :
    Calls Tryd.prog 83 #[a0_a.v, a1_b.v] w R := by
  refine calls_of_vc (nat_Compare_cut J0 m0) (by kernel_rfl) Tryd.func83 rfl ?_ ?_
  · refine kcast h ?_; kernel_rfl
  · exact (obl_seq rfl (obl_reg (obl_seq rfl (obl_reg (obl_seq rfl (obl_seq rfl (obl_reg (obl_cond (obl_seq rfl (obl_seq rfl (obl_reg (obl_cond (obl_seq rfl (obl_reg (obl_ret (obl_skip (obl_seq rfl (obl_reg (obl_ret (obl_skip (obl_seq rfl (obl_seq rfl (obl_reg (obl_loop _ rfl (fun a_ w_ hL_ => (by
    obtain ⟨hz_, hd_, hL_⟩ := atSz_out hL_
    obtain ⟨t0_a, h0_, hL_⟩ := atS_out hL_
    obtain ⟨t1_b, h1_, hL_⟩ := atS_out hL_
    obtain ⟨t5_i, h5_, hL_⟩ := atI_out hL_
    obtain ⟨g0, rfl⟩ : ∃ g, a_ = Fr 45 [(0, t0_a.v), (1, t1_b.v), (5, Value.int .i64 t5_i)] g := ⟨_, fr_of hz_ hd_ [(0, t0_a.v), (1, t1_b.v), (5, Value.int .i64 t5_i)] (sel_cons h0_ (sel_cons h1_ (sel_cons h5_ sel_nil)))⟩
    clear hz_ hd_ h0_ h1_ h5_
    have hJ0_ := hL_
    refine ⟨(fun _ => none), kcast (h0 t0_a t1_b t5_i w_ hJ0_) ?_, ?_⟩
    · kernel_rfl
    · exact (obl_seq rfl (obl_seq rfl (obl_reg (obl_cond (obl_skip (obl_exit (obl_seq rfl (obl_blk rfl (obl_seq rfl (obl_seq rfl (obl_quiet (by kernel_rfl) (by kernel_rfl) (by kernel_rfl) (by kernel_rfl) (obl_cond (obl_seq rfl (obl_reg (obl_ret (obl_skip (obl_seq rfl (obl_quiet (by kernel_rfl) (by kernel_rfl) (by kernel_rfl) (by kernel_rfl) (obl_cond (obl_seq rfl (obl_reg (obl_ret (obl_skip (obl_reg trivial)))))))))))))))))))))))))) (obl_seq rfl (obl_reg (obl_ret trivial)))))))))))))))))))))))))))

def nat_Add_cut (J0 : Slc → Slc → Slc → Int → Int → Int → World → Prop) (m0 : Slc → Slc → Slc → Int → Int → Int → World → Nat) : Nat → Option ((Act → World → Prop) × (Act → World → Nat))
  | 0 => some (fun a_ w_ => atSz a_ 61 (atS a_ 0 fun t0_a => atS a_ 1 fun t1_b => atS a_ 6 fun t6_c => atI .u64 a_ 7 fun t7_carry => atI .i64 a_ 26 fun t26 => atI .i64 a_ 27 fun t27 => J0 t0_a t1_b t6_c t7_carry t26 t27 w_), fun a_ w_ => mS a_ 0 fun t0_a => mS a_ 1 fun t1_b => mS a_ 6 fun t6_c => mI a_ 7 fun t7_carry => mI a_ 26 fun t26 => mI a_ 27 fun t27 => m0 t0_a t1_b t6_c t7_carry t26 t27 w_)
  | _ => none

set_option maxRecDepth 100000 in
/-- surd/nat.Add: function 102. -/
theorem nat_Add_vc (a0_a : Slc) (a1_b : Slc) (w : World) (R : Ending → World → Prop)
    (J0 : Slc → Slc → Slc → Int → Int → Int → World → Prop) (m0 : Slc → Slc → Slc → Int → Int → Int → World → Nat)
    (h : Calls Tryd.prog 104 #[a0_a.v] w fun e1 w1 =>
    ∃ s1 : Slc, e1 = .returned s1.v ∧
    (Calls Tryd.prog 104 #[a1_b.v] w1 fun e2 w2 =>
     ∃ s2 : Slc, e2 = .returned s2.v ∧
     (br (decide ((s1.n : Int) < (s2.n : Int)))
      (semS Tryd.prog (Instr.makeSlice 35 (Value.int .i64 (IntKind.i64.wrap ((s2.n : Int) + 1))) (Value.int .i64 (IntKind.i64.wrap ((s2.n : Int) + 1)))) w2 fun s3 w3 =>
       J0 s2 s1 s3 0 (s2.n : Int) 0 w3)
      (semS Tryd.prog (Instr.makeSlice 35 (Value.int .i64 (IntKind.i64.wrap ((s1.n : Int) + 1))) (Value.int .i64 (IntKind.i64.wrap ((s1.n : Int) + 1)))) w2 fun s5 w16 =>
       J0 s1 s2 s5 0 (s1.n : Int) 0 w16))))
    (h0 : ∀ (t0_a : Slc) (t1_b : Slc) (t6_c : Slc) (t7_carry : Int) (t26 : Int) (t27 : Int) (w_ : World), J0 t0_a t1_b t6_c t7_carry t26 t27 w_ → 
    br (decide (t27 < t26))
    (br (decide (t27 < (t1_b.n : Int)))
     (semA Tryd.prog (Instr.indexAt 35 t1_b.v (Value.int .i64 t27)) w_ fun ad1 w4 =>
      ldI .u64 ad1 w4 fun x1 =>
      semA Tryd.prog (Instr.indexAt 35 t0_a.v (Value.int .i64 t27)) w4 fun ad2 w5 =>
      ldI .u64 ad2 w5 fun x2 =>
      Sem.wp Tryd.prog (callFunc 117 #[Value.int .u64 x2, Value.int .u64 x1, Value.int .u64 t7_carry]) (fun n1 w6 =>
       ∃ x3 : Int, ∃ x4 : Int, n1 = .value (Value.tuple #[Value.int .u64 x3, Value.int .u64 x4]) ∧
       (semA Tryd.prog (Instr.indexAt 35 t6_c.v (Value.int .i64 t27)) w6 fun ad3 w7 =>
        stC ad3 (Value.int .u64 x3) w7 fun w8 =>
        J0 t0_a t1_b t6_c x4 t26 (IntKind.i64.wrap (t27 + 1)) w8 ∧
        m0 t0_a t1_b t6_c x4 t26 (IntKind.i64.wrap (t27 + 1)) w8 < m0 t0_a t1_b t6_c t7_carry t26 t27 w_)) (fun _ _ => False) w5)
     (semA Tryd.prog (Instr.indexAt 35 t0_a.v (Value.int .i64 t27)) w_ fun ad4 w9 =>
      ldI .u64 ad4 w9 fun x5 =>
      Sem.wp Tryd.prog (callFunc 117 #[Value.int .u64 x5, Value.int .u64 0, Value.int .u64 t7_carry]) (fun n2 w10 =>
       ∃ x6 : Int, ∃ x7 : Int, n2 = .value (Value.tuple #[Value.int .u64 x6, Value.int .u64 x7]) ∧
       (semA Tryd.prog (Instr.indexAt 35 t6_c.v (Value.int .i64 t27)) w10 fun ad5 w11 =>
        stC ad5 (Value.int .u64 x6) w11 fun w12 =>
        J0 t0_a t1_b t6_c x7 t26 (IntKind.i64.wrap (t27 + 1)) w12 ∧
        m0 t0_a t1_b t6_c x7 t26 (IntKind.i64.wrap (t27 + 1)) w12 < m0 t0_a t1_b t6_c t7_carry t26 t27 w_)) (fun _ _ => False) w9))
    (semA Tryd.prog (Instr.indexAt 35 t6_c.v (Value.int .i64 (t0_a.n : Int))) w_ fun ad6 w13 =>
     stC ad6 (Value.int .u64 t7_carry) w13 fun w14 =>
     Calls Tryd.prog 118 #[t6_c.v] w14 fun e3 w15 =>
     ∃ s4 : Slc, ∃ x8 : Int, e3 = .returned (Value.tuple #[s4.v, Value.int .i64 x8]) ∧
     (R (.returned (Value.tuple #[s4.v, Value.int .i64 x8])) w15))) :
    Calls Tryd.prog 102 #[a0_a.v, a1_b.v] w R := by
  refine calls_of_vc (nat_Add_cut J0 m0) (by kernel_rfl) Tryd.func102 rfl ?_ ?_
  · refine kcast h ?_; kernel_rfl
  · exact (obl_seq rfl (obl_reg (obl_seq rfl (obl_reg (obl_seq rfl (obl_seq rfl (obl_reg (obl_cond (obl_reg (obl_skip (obl_seq rfl (obl_reg (obl_seq rfl (obl_reg (obl_seq rfl (obl_seq rfl (obl_reg (obl_loop _ rfl (fun a_ w_ hL_ => (by
    obtain ⟨hz_, hd_, hL_⟩ := atSz_out hL_
    obtain ⟨t0_a, h0_, hL_⟩ := atS_out hL_
    obtain ⟨t1_b, h1_, hL_⟩ := atS_out hL_
    obtain ⟨t6_c, h6_, hL_⟩ := atS_out hL_
    obtain ⟨t7_carry, h7_, hL_⟩ := atI_out hL_
    obtain ⟨t26, h26_, hL_⟩ := atI_out hL_
    obtain ⟨t27, h27_, hL_⟩ := atI_out hL_
    obtain ⟨g0, rfl⟩ : ∃ g, a_ = Fr 61 [(0, t0_a.v), (1, t1_b.v), (6, t6_c.v), (7, Value.int .u64 t7_carry), (26, Value.int .i64 t26), (27, Value.int .i64 t27)] g := ⟨_, fr_of hz_ hd_ [(0, t0_a.v), (1, t1_b.v), (6, t6_c.v), (7, Value.int .u64 t7_carry), (26, Value.int .i64 t26), (27, Value.int .i64 t27)] (sel_cons h0_ (sel_cons h1_ (sel_cons h6_ (sel_cons h7_ (sel_cons h26_ (sel_cons h27_ sel_nil))))))⟩
    clear hz_ hd_ h0_ h1_ h6_ h7_ h26_ h27_
    have hJ0_ := hL_
    refine ⟨(fun _ => none), kcast (h0 t0_a t1_b t6_c t7_carry t26 t27 w_ hJ0_) ?_, ?_⟩
    · kernel_rfl
    · exact (obl_seq rfl (obl_reg (obl_seq rfl (obl_cond (obl_skip (obl_exit (obl_seq rfl (obl_blk rfl (obl_seq rfl (obl_reg (obl_seq rfl (obl_reg (obl_seq rfl (obl_seq rfl (obl_reg (obl_cond (obl_reg (obl_skip (obl_reg (obl_reg trivial)))))))))))))))))))))) (obl_seq rfl (obl_reg (obl_seq rfl (obl_reg (obl_ret trivial)))))))))))))))))))))))

def nat_Sub_cut (J0 : Slc → Slc → Slc → Int → Int → Int → World → Prop) (m0 : Slc → Slc → Slc → Int → Int → Int → World → Nat) : Nat → Option ((Act → World → Prop) × (Act → World → Nat))
  | 0 => some (fun a_ w_ => atSz a_ 52 (atS a_ 0 fun t0_a => atS a_ 1 fun t1_b => atS a_ 6 fun t6_c => atI .u64 a_ 7 fun t7_borrow => atI .i64 a_ 22 fun t22 => atI .i64 a_ 23 fun t23 => J0 t0_a t1_b t6_c t7_borrow t22 t23 w_), fun a_ w_ => mS a_ 0 fun t0_a => mS a_ 1 fun t1_b => mS a_ 6 fun t6_c => mI a_ 7 fun t7_borrow => mI a_ 22 fun t22 => mI a_ 23 fun t23 => m0 t0_a t1_b t6_c t7_borrow t22 t23 w_)
  | _ => none

set_option maxRecDepth 100000 in
/-- surd/nat.Sub: function 103. -/
theorem nat_Sub_vc (a0_a : Slc) (a1_b : Slc) (w : World) (R : Ending → World → Prop)
    (J0 : Slc → Slc → Slc → Int → Int → Int → World → Prop) (m0 : Slc → Slc → Slc → Int → Int → Int → World → Nat)
    (h : Calls Tryd.prog 83 #[a0_a.v, a1_b.v] w fun e1 w1 =>
    ∃ x1 : Int, e1 = .returned (Value.int .i64 x1) ∧
    (br (decide (x1 < 0))
     (R (.returned (Value.tuple #[(⟨none, 0, 0⟩ : Slc).v, Value.int .i64 10])) w1)
     (Calls Tryd.prog 104 #[a0_a.v] w1 fun e2 w2 =>
      ∃ s1 : Slc, e2 = .returned s1.v ∧
      (Calls Tryd.prog 104 #[a1_b.v] w2 fun e3 w3 =>
       ∃ s2 : Slc, e3 = .returned s2.v ∧
       (semS Tryd.prog (Instr.makeSlice 35 (Value.int .i64 (s1.n : Int)) (Value.int .i64 (s1.n : Int))) w3 fun s3 w4 =>
        J0 s1 s2 s3 0 (s1.n : Int) 0 w4)))))
    (h0 : ∀ (t0_a : Slc) (t1_b : Slc) (t6_c : Slc) (t7_borrow : Int) (t22 : Int) (t23 : Int) (w_ : World), J0 t0_a t1_b t6_c t7_borrow t22 t23 w_ → 
    br (decide (t23 < t22))
    (br (decide (t23 < (t1_b.n : Int)))
     (semA Tryd.prog (Instr.indexAt 35 t1_b.v (Value.int .i64 t23)) w_ fun ad1 w5 =>
      ldI .u64 ad1 w5 fun x2 =>
      semA Tryd.prog (Instr.indexAt 35 t0_a.v (Value.int .i64 t23)) w5 fun ad2 w6 =>
      ldI .u64 ad2 w6 fun x3 =>
      Sem.wp Tryd.prog (callFunc 119 #[Value.int .u64 x3, Value.int .u64 x2, Value.int .u64 t7_borrow]) (fun n1 w7 =>
       ∃ x4 : Int, ∃ x5 : Int, n1 = .value (Value.tuple #[Value.int .u64 x4, Value.int .u64 x5]) ∧
       (semA Tryd.prog (Instr.indexAt 35 t6_c.v (Value.int .i64 t23)) w7 fun ad3 w8 =>
        stC ad3 (Value.int .u64 x4) w8 fun w9 =>
        J0 t0_a t1_b t6_c x5 t22 (IntKind.i64.wrap (t23 + 1)) w9 ∧
        m0 t0_a t1_b t6_c x5 t22 (IntKind.i64.wrap (t23 + 1)) w9 < m0 t0_a t1_b t6_c t7_borrow t22 t23 w_)) (fun _ _ => False) w6)
     (semA Tryd.prog (Instr.indexAt 35 t0_a.v (Value.int .i64 t23)) w_ fun ad4 w10 =>
      ldI .u64 ad4 w10 fun x6 =>
      Sem.wp Tryd.prog (callFunc 119 #[Value.int .u64 x6, Value.int .u64 0, Value.int .u64 t7_borrow]) (fun n2 w11 =>
       ∃ x7 : Int, ∃ x8 : Int, n2 = .value (Value.tuple #[Value.int .u64 x7, Value.int .u64 x8]) ∧
       (semA Tryd.prog (Instr.indexAt 35 t6_c.v (Value.int .i64 t23)) w11 fun ad5 w12 =>
        stC ad5 (Value.int .u64 x7) w12 fun w13 =>
        J0 t0_a t1_b t6_c x8 t22 (IntKind.i64.wrap (t23 + 1)) w13 ∧
        m0 t0_a t1_b t6_c x8 t22 (IntKind.i64.wrap (t23 + 1)) w13 < m0 t0_a t1_b t6_c t7_borrow t22 t23 w_)) (fun _ _ => False) w10))
    (Calls Tryd.prog 118 #[t6_c.v] w_ fun e4 w14 =>
     ∃ s4 : Slc, ∃ x9 : Int, e4 = .returned (Value.tuple #[s4.v, Value.int .i64 x9]) ∧
     (R (.returned (Value.tuple #[s4.v, Value.int .i64 x9])) w14))) :
    Calls Tryd.prog 103 #[a0_a.v, a1_b.v] w R := by
  refine calls_of_vc (nat_Sub_cut J0 m0) (by kernel_rfl) Tryd.func103 rfl ?_ ?_
  · refine kcast h ?_; kernel_rfl
  · exact (obl_seq rfl (obl_reg (obl_seq rfl (obl_seq rfl (obl_reg (obl_cond (obl_seq rfl (obl_reg (obl_ret (obl_skip (obl_seq rfl (obl_reg (obl_seq rfl (obl_reg (obl_seq rfl (obl_reg (obl_seq rfl (obl_seq rfl (obl_reg (obl_loop _ rfl (fun a_ w_ hL_ => (by
    obtain ⟨hz_, hd_, hL_⟩ := atSz_out hL_
    obtain ⟨t0_a, h0_, hL_⟩ := atS_out hL_
    obtain ⟨t1_b, h1_, hL_⟩ := atS_out hL_
    obtain ⟨t6_c, h6_, hL_⟩ := atS_out hL_
    obtain ⟨t7_borrow, h7_, hL_⟩ := atI_out hL_
    obtain ⟨t22, h22_, hL_⟩ := atI_out hL_
    obtain ⟨t23, h23_, hL_⟩ := atI_out hL_
    obtain ⟨g0, rfl⟩ : ∃ g, a_ = Fr 52 [(0, t0_a.v), (1, t1_b.v), (6, t6_c.v), (7, Value.int .u64 t7_borrow), (22, Value.int .i64 t22), (23, Value.int .i64 t23)] g := ⟨_, fr_of hz_ hd_ [(0, t0_a.v), (1, t1_b.v), (6, t6_c.v), (7, Value.int .u64 t7_borrow), (22, Value.int .i64 t22), (23, Value.int .i64 t23)] (sel_cons h0_ (sel_cons h1_ (sel_cons h6_ (sel_cons h7_ (sel_cons h22_ (sel_cons h23_ sel_nil))))))⟩
    clear hz_ hd_ h0_ h1_ h6_ h7_ h22_ h23_
    have hJ0_ := hL_
    refine ⟨(fun _ => none), kcast (h0 t0_a t1_b t6_c t7_borrow t22 t23 w_ hJ0_) ?_, ?_⟩
    · kernel_rfl
    · exact (obl_seq rfl (obl_reg (obl_seq rfl (obl_cond (obl_skip (obl_exit (obl_seq rfl (obl_blk rfl (obl_seq rfl (obl_reg (obl_seq rfl (obl_reg (obl_seq rfl (obl_seq rfl (obl_reg (obl_cond (obl_reg (obl_skip (obl_reg (obl_reg trivial)))))))))))))))))))))) (obl_seq rfl (obl_reg (obl_ret trivial)))))))))))))))))))))))

def nat_Left_cut (J0 : Int → Int → Slc → Slc → Int → Int → World → Prop) (m0 : Int → Int → Slc → Slc → Int → Int → World → Nat) : Nat → Option ((Act → World → Prop) × (Act → World → Nat))
  | 0 => some (fun a_ w_ => atSz a_ 73 (atI .i64 a_ 6 fun t6 => atI .u64 a_ 7 fun t7 => atS a_ 8 fun t8 => atS a_ 38 fun t38 => atI .i64 a_ 39 fun t39 => atI .i64 a_ 40 fun t40 => J0 t6 t7 t8 t38 t39 t40 w_), fun a_ w_ => mI a_ 6 fun t6 => mI a_ 7 fun t7 => mS a_ 8 fun t8 => mS a_ 38 fun t38 => mI a_ 39 fun t39 => mI a_ 40 fun t40 => m0 t6 t7 t8 t38 t39 t40 w_)
  | _ => none

set_option maxRecDepth 100000 in
/-- surd/nat.Left: function 99. -/
theorem nat_Left_vc (a0 : Slc) (a1 : Int) (w : World) (R : Ending → World → Prop)
    (J0 : Int → Int → Slc → Slc → Int → Int → World → Prop) (m0 : Int → Int → Slc → Slc → Int → Int → World → Nat)
    (h : br (decide (a1 < 0))
    (R (.returned (Value.tuple #[(⟨none, 0, 0⟩ : Slc).v, Value.int .i64 1])) w)
    (br (decide (a1 > 1099511627776))
     (R (.returned (Value.tuple #[(⟨none, 0, 0⟩ : Slc).v, Value.int .i64 1])) w)
     (Calls Tryd.prog 104 #[a0.v] w fun e1 w1 =>
      ∃ s1 : Slc, e1 = .returned s1.v ∧
      (br ((s1.n : Int) == 0)
       (R (.returned (Value.tuple #[(⟨none, 0, 0⟩ : Slc).v, Value.int .i64 0])) w1)
       (Calls Tryd.prog 85 #[s1.v] w1 fun e2 w2 =>
        ∃ x1 : Int, e2 = .returned (Value.int .i64 x1) ∧
        (br (decide ((IntKind.i64.wrap (x1 + a1)) > 67108864))
         (R (.returned (Value.tuple #[(⟨none, 0, 0⟩ : Slc).v, Value.int .i64 3])) w2)
         (semS Tryd.prog (Instr.makeSlice 35 (Value.int .i64 (IntKind.i64.wrap ((IntKind.i64.wrap ((IntKind.i64.wrap (Int.tdiv a1 64)) + (s1.n : Int))) + 1))) (Value.int .i64 (IntKind.i64.wrap ((IntKind.i64.wrap ((IntKind.i64.wrap (Int.tdiv a1 64)) + (s1.n : Int))) + 1)))) w2 fun s2 w3 =>
          J0 (IntKind.i64.wrap (Int.tdiv a1 64)) (IntKind.u64.wrap (Int.tmod a1 64)) s2 s1 (s1.n : Int) 0 w3)))))))
    (h0 : ∀ (t6 : Int) (t7 : Int) (t8 : Slc) (t38 : Slc) (t39 : Int) (t40 : Int) (w_ : World), J0 t6 t7 t8 t38 t39 t40 w_ → 
    br (decide (t40 < t39))
    (semA Tryd.prog (Instr.indexAt 35 t38.v (Value.int .i64 t40)) w_ fun ad1 w4 =>
     ldI .u64 ad1 w4 fun x2 =>
     semA Tryd.prog (Instr.indexAt 35 t8.v (Value.int .i64 (IntKind.i64.wrap (t6 + t40)))) w4 fun ad2 w5 =>
     ldI .u64 ad2 w5 fun x3 =>
     semI Tryd.prog .u64 (binOp .shl 47 (Value.int .u64 x2) (Value.int .u64 t7)) w5 fun x4 w6 =>
     semA Tryd.prog (Instr.indexAt 35 t8.v (Value.int .i64 (IntKind.i64.wrap (t6 + t40)))) w6 fun ad3 w7 =>
     stC ad3 (Value.int .u64 (orI .u64 x3 x4)) w7 fun w8 =>
     semA Tryd.prog (Instr.indexAt 35 t8.v (Value.int .i64 (IntKind.i64.wrap ((IntKind.i64.wrap (t6 + t40)) + 1)))) w8 fun ad4 w9 =>
     ldI .u64 ad4 w9 fun x5 =>
     semI Tryd.prog .u64 (binOp .shr 47 (Value.int .u64 (Int.fdiv x2 (2 ^ (1 : Nat)))) (Value.int .u64 (IntKind.u64.wrap (63 - t7)))) w9 fun x6 w10 =>
     semA Tryd.prog (Instr.indexAt 35 t8.v (Value.int .i64 (IntKind.i64.wrap ((IntKind.i64.wrap (t6 + t40)) + 1)))) w10 fun ad5 w11 =>
     stC ad5 (Value.int .u64 (orI .u64 x5 x6)) w11 fun w12 =>
     J0 t6 t7 t8 t38 t39 (IntKind.i64.wrap (t40 + 1)) w12 ∧
     m0 t6 t7 t8 t38 t39 (IntKind.i64.wrap (t40 + 1)) w12 < m0 t6 t7 t8 t38 t39 t40 w_)
    (Calls Tryd.prog 104 #[t8.v] w_ fun e3 w13 =>
     ∃ s3 : Slc, e3 = .returned s3.v ∧
     (R (.returned (Value.tuple #[s3.v, Value.int .i64 0])) w13))) :
    Calls Tryd.prog 99 #[a0.v, Value.int .i64 a1] w R := by
  refine calls_of_vc (nat_Left_cut J0 m0) (by kernel_rfl) Tryd.func99 rfl ?_ ?_
  · refine kcast h ?_; kernel_rfl
  · exact (obl_seq rfl (obl_reg (obl_seq rfl (obl_seq rfl (obl_reg (obl_cond (obl_seq rfl (obl_reg (obl_ret (obl_skip (obl_seq rfl (obl_reg (obl_seq rfl (obl_seq rfl (obl_reg (obl_cond (obl_seq rfl (obl_reg (obl_ret (obl_skip (obl_seq rfl (obl_seq rfl (obl_reg (obl_cond (obl_seq rfl (obl_reg (obl_ret (obl_skip (obl_seq rfl (obl_reg (obl_seq rfl (obl_reg (obl_seq rfl (obl_seq rfl (obl_reg (obl_loop _ rfl (fun a_ w_ hL_ => (by
    obtain ⟨hz_, hd_, hL_⟩ := atSz_out hL_
    obtain ⟨t6, h6_, hL_⟩ := atI_out hL_
    obtain ⟨t7, h7_, hL_⟩ := atI_out hL_
    obtain ⟨t8, h8_, hL_⟩ := atS_out hL_
    obtain ⟨t38, h38_, hL_⟩ := atS_out hL_
    obtain ⟨t39, h39_, hL_⟩ := atI_out hL_
    obtain ⟨t40, h40_, hL_⟩ := atI_out hL_
    obtain ⟨g0, rfl⟩ : ∃ g, a_ = Fr 73 [(6, Value.int .i64 t6), (7, Value.int .u64 t7), (8, t8.v), (38, t38.v), (39, Value.int .i64 t39), (40, Value.int .i64 t40)] g := ⟨_, fr_of hz_ hd_ [(6, Value.int .i64 t6), (7, Value.int .u64 t7), (8, t8.v), (38, t38.v), (39, Value.int .i64 t39), (40, Value.int .i64 t40)] (sel_cons h6_ (sel_cons h7_ (sel_cons h8_ (sel_cons h38_ (sel_cons h39_ (sel_cons h40_ sel_nil))))))⟩
    clear hz_ hd_ h6_ h7_ h8_ h38_ h39_ h40_
    have hJ0_ := hL_
    refine ⟨(fun _ => none), kcast (h0 t6 t7 t8 t38 t39 t40 w_ hJ0_) ?_, ?_⟩
    · kernel_rfl
    · exact (obl_seq rfl (obl_reg (obl_seq rfl (obl_cond (obl_skip (obl_exit (obl_seq rfl (obl_blk rfl (obl_seq rfl (obl_reg (obl_seq rfl (obl_reg (obl_reg (obl_reg trivial)))))))))))))))) (obl_seq rfl (obl_reg (obl_ret trivial)))))))))))))))))))))))))))))))))))))))

def nat_Right_cut (J0 : Slc → Int → Int → Slc → Int → Int → World → Prop) (m0 : Slc → Int → Int → Slc → Int → Int → World → Nat) : Nat → Option ((Act → World → Prop) × (Act → World → Nat))
  | 0 => some (fun a_ w_ => atSz a_ 77 (atS a_ 0 fun t0 => atI .i64 a_ 6 fun t6 => atI .u64 a_ 7 fun t7 => atS a_ 8 fun t8 => atI .i64 a_ 33 fun t33 => atI .i64 a_ 34 fun t34 => J0 t0 t6 t7 t8 t33 t34 w_), fun a_ w_ => mS a_ 0 fun t0 => mI a_ 6 fun t6 => mI a_ 7 fun t7 => mS a_ 8 fun t8 => mI a_ 33 fun t33 => mI a_ 34 fun t34 => m0 t0 t6 t7 t8 t33 t34 w_)
  | _ => none

set_option maxRecDepth 100000 in
/-- surd/nat.Right: function 108. -/
theorem nat_Right_vc (a0 : Slc) (a1 : Int) (w : World) (R : Ending → World → Prop)
    (J0 : Slc → Int → Int → Slc → Int → Int → World → Prop) (m0 : Slc → Int → Int → Slc → Int → Int → World → Nat)
    (h : br (decide (a1 < 0))
    (R (.returned (Value.tuple #[(⟨none, 0, 0⟩ : Slc).v, Value.int .i64 1])) w)
    (br (decide (a1 > 1099511627776))
     (R (.returned (Value.tuple #[(⟨none, 0, 0⟩ : Slc).v, Value.int .i64 1])) w)
     (Calls Tryd.prog 104 #[a0.v] w fun e1 w1 =>
      ∃ s1 : Slc, e1 = .returned s1.v ∧
      (br (decide ((IntKind.i64.wrap (Int.tdiv a1 64)) ≥ (s1.n : Int)))
       (R (.returned (Value.tuple #[(⟨none, 0, 0⟩ : Slc).v, Value.int .i64 0])) w1)
       (semS Tryd.prog (Instr.makeSlice 35 (Value.int .i64 (IntKind.i64.wrap ((s1.n : Int) - (IntKind.i64.wrap (Int.tdiv a1 64))))) (Value.int .i64 (IntKind.i64.wrap ((s1.n : Int) - (IntKind.i64.wrap (Int.tdiv a1 64)))))) w1 fun s2 w2 =>
        J0 s1 (IntKind.i64.wrap (Int.tdiv a1 64)) (IntKind.u64.wrap (Int.tmod a1 64)) s2 (s2.n : Int) 0 w2)))))
    (h0 : ∀ (t0 : Slc) (t6 : Int) (t7 : Int) (t8 : Slc) (t33 : Int) (t34 : Int) (w_ : World), J0 t0 t6 t7 t8 t33 t34 w_ → 
    br (decide (t34 < t33))
    (semA Tryd.prog (Instr.indexAt 35 t0.v (Value.int .i64 (IntKind.i64.wrap (t6 + t34)))) w_ fun ad1 w3 =>
     ldI .u64 ad1 w3 fun x1 =>
     semI Tryd.prog .u64 (binOp .shr 47 (Value.int .u64 x1) (Value.int .u64 t7)) w3 fun x2 w4 =>
     semA Tryd.prog (Instr.indexAt 35 t8.v (Value.int .i64 t34)) w4 fun ad2 w5 =>
     stC ad2 (Value.int .u64 x2) w5 fun w6 =>
     br (decide ((IntKind.i64.wrap ((IntKind.i64.wrap (t6 + t34)) + 1)) < (t0.n : Int)))
     (fixA Tryd.prog (Instr.indexAt 35 t8.v (Value.int .i64 t34)) w6 fun ad3 =>
      ldI .u64 ad3 w6 fun x3 =>
      fixA Tryd.prog (Instr.indexAt 35 t0.v (Value.int .i64 (IntKind.i64.wrap ((IntKind.i64.wrap (t6 + t34)) + 1)))) w6 fun ad4 =>
      ldI .u64 ad4 w6 fun x4 =>
      fixI Tryd.prog .u64 (binOp .shl 47 (Value.int .u64 (IntKind.u64.wrap (x4 * 2 ^ (1 : Nat)))) (Value.int .u64 (IntKind.u64.wrap (63 - t7)))) w6 fun x5 =>
      fixA Tryd.prog (Instr.indexAt 35 t8.v (Value.int .i64 t34)) w6 fun ad5 =>
      stC ad5 (Value.int .u64 (orI .u64 x3 x5)) w6.drew fun w7 =>
      J0 t0 t6 t7 t8 t33 (IntKind.i64.wrap (t34 + 1)) w7 ∧
      m0 t0 t6 t7 t8 t33 (IntKind.i64.wrap (t34 + 1)) w7 < m0 t0 t6 t7 t8 t33 t34 w_)
     (J0 t0 t6 t7 t8 t33 (IntKind.i64.wrap (t34 + 1)) w6 ∧
      m0 t0 t6 t7 t8 t33 (IntKind.i64.wrap (t34 + 1)) w6 < m0 t0 t6 t7 t8 t33 t34 w_))
    (Calls Tryd.prog 118 #[t8.v] w_ fun e2 w8 =>
     ∃ s3 : Slc, ∃ x6 : Int, e2 = .returned (Value.tuple #[s3.v, Value.int .i64 x6]) ∧
     (R (.returned (Value.tuple #[s3.v, Value.int .i64 x6])) w8))) :
    Calls Tryd.prog 108 #[a0.v, Value.int .i64 a1] w R := by
  refine calls_of_vc (nat_Right_cut J0 m0) (by kernel_rfl) Tryd.func108 rfl ?_ ?_
  · refine kcast h ?_; kernel_rfl
  · exact (obl_seq rfl (obl_reg (obl_seq rfl (obl_seq rfl (obl_reg (obl_cond (obl_seq rfl (obl_reg (obl_ret (obl_skip (obl_seq rfl (obl_reg (obl_seq rfl (obl_reg (obl_seq rfl (obl_seq rfl (obl_reg (obl_cond (obl_seq rfl (obl_reg (obl_ret (obl_skip (obl_seq rfl (obl_reg (obl_seq rfl (obl_seq rfl (obl_reg (obl_loop _ rfl (fun a_ w_ hL_ => (by
    obtain ⟨hz_, hd_, hL_⟩ := atSz_out hL_
    obtain ⟨t0, h0_, hL_⟩ := atS_out hL_
    obtain ⟨t6, h6_, hL_⟩ := atI_out hL_
    obtain ⟨t7, h7_, hL_⟩ := atI_out hL_
    obtain ⟨t8, h8_, hL_⟩ := atS_out hL_
    obtain ⟨t33, h33_, hL_⟩ := atI_out hL_
    obtain ⟨t34, h34_, hL_⟩ := atI_out hL_
    obtain ⟨g0, rfl⟩ : ∃ g, a_ = Fr 77 [(0, t0.v), (6, Value.int .i64 t6), (7, Value.int .u64 t7), (8, t8.v), (33, Value.int .i64 t33), (34, Value.int .i64 t34)] g := ⟨_, fr_of hz_ hd_ [(0, t0.v), (6, Value.int .i64 t6), (7, Value.int .u64 t7), (8, t8.v), (33, Value.int .i64 t33), (34, Value.int .i64 t34)] (sel_cons h0_ (sel_cons h6_ (sel_cons h7_ (sel_cons h8_ (sel_cons h33_ (sel_cons h34_ sel_nil))))))⟩
    clear hz_ hd_ h0_ h6_ h7_ h8_ h33_ h34_
    have hJ0_ := hL_
    refine ⟨(fun _ => none), kcast (h0 t0 t6 t7 t8 t33 t34 w_ hJ0_) ?_, ?_⟩
    · kernel_rfl
    · exact (obl_seq rfl (obl_reg (obl_seq rfl (obl_cond (obl_skip (obl_exit (obl_seq rfl (obl_blk rfl (obl_seq rfl (obl_reg (obl_seq rfl (obl_reg (obl_seq rfl (obl_reg (obl_cond (obl_tail 17 (by kernel_rfl) (by kernel_rfl) (by kernel_rfl) (by kernel_rfl) (by kernel_rfl) (obl_skip (obl_reg trivial)))))))))))))))))))) (obl_seq rfl (obl_reg (obl_ret trivial)))))))))))))))))))))))))))))))

set_option maxRecDepth 100000 in
/-- surd/nat.Length: function 85. -/
theorem nat_Length_vc (a0_a : Slc) (w : World) (R : Ending → World → Prop)
    
    (h : Calls Tryd.prog 104 #[a0_a.v] w fun e1 w1 =>
    ∃ s1 : Slc, e1 = .returned s1.v ∧
    (br ((s1.n : Int) == 0)
     (R (.returned (Value.int .i64 0)) w1)
     (semA Tryd.prog (Instr.indexAt 35 s1.v (Value.int .i64 (IntKind.i64.wrap ((s1.n : Int) - 1)))) w1 fun ad1 w2 =>
      ldI .u64 ad1 w2 fun x1 =>
      Calls Tryd.prog 106 #[Value.int .u64 x1] w2 fun e2 w3 =>
      ∃ x2 : Int, e2 = .returned (Value.int .i64 x2) ∧
      (R (.returned (Value.int .i64 (IntKind.i64.wrap ((IntKind.i64.wrap (64 * (IntKind.i64.wrap ((s1.n : Int) - 1)))) + x2)))) w3)))) :
    Calls Tryd.prog 85 #[a0_a.v] w R := by
  refine calls_of_vc (fun _ => none) (by kernel_rfl) Tryd.func85 rfl ?_ ?_
  · refine kcast h ?_; kernel_rfl
  · exact (obl_seq rfl (obl_reg (obl_seq rfl (obl_reg (obl_seq rfl (obl_seq rfl (obl_reg (obl_cond (obl_seq rfl (obl_reg (obl_ret (obl_skip (obl_seq rfl (obl_reg (obl_ret trivial)))))))))))))))

end Go.Proofs.YtahbekmnphkiiaaDoor
namespace Go.Proofs.YtahbekmnphkiiaaDoor
open Go Go.RowKit Eng Sp Dg
set_option linter.unusedVariables false
set_option linter.unusedSimpArgs false
set_option maxRecDepth 100000
namespace Nat

theorem ldN {t : TypeId} {w : World} {s : Slc} {l : List Nat} (h : Rd .u64 w s (nn l)) {i : Int} (h0 : 0 ≤ i) (h1 : i < l.length) {K : Int → World → Prop}
    (hk : K ((l.getD i.toNat 0 : Nat) : Int) w) (hT : isSl pr t .u64 = some tU64 := by kernel_rfl) : semA pr (Instr.indexAt t s.v (.int .i64 i)) w fun ad w1 => ldI .u64 ad w1 fun x => K x w1 :=
  ix_ld hT h h0 (by simpa using h1) (by rw [nn_getD]; exact hk)
theorem ldNf {t : TypeId} {w : World} {s : Slc} {l : List Nat} (h : Rd .u64 w s (nn l)) {i : Int} (h0 : 0 ≤ i) (h1 : i < l.length) {K : Int → Prop}
    (hk : K ((l.getD i.toNat 0 : Nat) : Int)) (hT : isSl pr t .u64 = some tU64 := by kernel_rfl) : fixA pr (Instr.indexAt t s.v (.int .i64 i)) w fun ad => ldI .u64 ad w fun x => K x :=
  ix_fix hT h h0 (by simpa using h1) (by rw [nn_getD]; exact hk)
theorem stN {t : TypeId} {w : World} {s : Slc} {l : List Nat} {b : Nat} (h : Owr .u64 tU64 w s (nn l) b) {i : Int} (h0 : 0 ≤ i) (h1 : i < l.length) {x : Nat} {K : World → Prop}
    (hk : ∀ w', Owr .u64 tU64 w' s (nn (l.set i.toNat x)) b → (∀ w0, Ahead w0 w → w0.heap.size ≤ b → Ahead w0 w') → w'.heap.size = w.heap.size → K w')
    (hT : isSl pr t .u64 = some tU64 := by kernel_rfl) : semA pr (Instr.indexAt t s.v (.int .i64 i)) w fun ad w1 => stC ad (.int .u64 (x : Int)) w1 fun w2 => K w2 :=
  ix_st hT h h0 (by simpa using h1) (fun w' ho ha hs => hk w' (by rw [← nn_set]; exact ho) ha hs)
theorem mkN {t : TypeId} {w : World} {n : Int} (h0 : 0 ≤ n) (hn : n * 8 ≤ 2 ^ 48) {K : Slc → World → Prop}
    (hk : ∀ s w', s.c = n.toNat → Owr .u64 tU64 w' s (nn (List.replicate n.toNat 0)) w.heap.size → Ahead w w' → w'.heap.size = w.heap.size + 1 → K s w')
    (hT : isSl pr t .u64 = some tU64 := by kernel_rfl) : semS pr (Instr.makeSlice t (.int .i64 n) (.int .i64 n)) w fun s w' => K s w' :=
  mk hT h0 (Int.le_refl _) hn (fun s w' hc ho ha hs => hk s w' hc (by rw [← nn_replicate]; exact ho) ha hs)
theorem cutHi {t : TypeId} {w : World} {s : Slc} {h : Int} (h0 : 0 ≤ h) (h1 : h ≤ s.c) {K : Slc → World → Prop} (hk : K ⟨s.A, h.toNat, s.c⟩ w)
    (hT : isSl pr t .u64 = some tU64 := by kernel_rfl) : semS pr (Instr.sliceAt t s.v none (some (.int .i64 h)) none) w fun s' w' => K s' w' := by
  unfold semS; rw [Sem.wp_iff_run, run_slice_hi hT w s h0 h1]; exact ⟨_, rfl, hk⟩
theorem cutCap {t : TypeId} {w : World} {s : Slc} {h : Int} (h0 : 0 ≤ h) (h1 : h ≤ s.c) {K : Slc → World → Prop} (hk : K ⟨s.A, h.toNat, h.toNat⟩ w)
    (hT : isSl pr t .u64 = some tU64 := by kernel_rfl) : semS pr (Instr.sliceAt t s.v none (some (.int .i64 h)) (some (.int .i64 h))) w fun s' w' => K s' w' := by
  unfold semS; rw [Sem.wp_iff_run, run_slice_cap hT w s h0 h1]; exact ⟨_, rfl, hk⟩

theorem trim_spec {w : World} {s : Slc} {l : List Nat} (h : Rd .u64 w s (nn l)) (hl : l.length ≤ 2 ^ 46) (hok : ok B64 l) :
    Calls pr nat_trim_id #[s.v] w fun e w' => w' = w ∧ ∃ m, m ≤ l.length ∧ digs B64 (val B64 l) = l.take m ∧ e = .returned (Slc.v ⟨s.A, m, s.c⟩) := by
  have hn : s.n = l.length := by rw [h.n, nn_length]
  have hc := h.c
  refine nat_trim_vc s w _ (fun t w' => w' = w ∧ t.n ≤ l.length ∧ t = ⟨s.A, t.n, s.c⟩ ∧ ∀ i, t.n ≤ i → i < l.length → l.getD i 0 = 0) (fun t _ => t.n)
    ⟨rfl, by omega, by cases s; rfl, fun i h1 h2 => by omega⟩ ?_
  rintro t w' ⟨rfl, hm, ht, hz⟩
  have hrt : Rd .u64 w' t (nn (l.take t.n)) := by rw [ht]; simp only; rw [← nn_take]; exact h.take (by simp; omega) (by omega)
  refine br_intro (fun hp => ?_) (fun hp => ?_)
  · have hp' : 0 < t.n := by simp at hp; omega
    have e1 : IntKind.i64.wrap ((t.n : Int) - 1) = (t.n : Int) - 1 := wrap_i64 (by omega) (by omega)
    rw [e1]
    refine ldN hrt (by omega) (by simp; omega) ?_
    have e2 : ((t.n : Int) - 1).toNat = t.n - 1 := by omega
    rw [e2]
    have e3 : (l.take t.n).getD (t.n - 1) 0 = l.getD (t.n - 1) 0 := by simp [List.getD_eq_getElem?_getD, List.getElem?_take, show t.n - 1 < t.n by omega]
    rw [e3]
    refine br_intro (fun hx => ?_) (fun hx => ?_)
    · refine cutHi (by omega) (by rw [ht]; simp only; omega) ?_
      refine ⟨⟨rfl, by simp only [e2]; omega, by rw [ht], fun i h1 h2 => ?_⟩, by simp only [e2]; omega⟩
      simp only [e2] at h1
      by_cases hi : i = t.n - 1
      · subst hi; simpa using hx
      · exact hz i (by omega) h2
    · refine ⟨rfl, t.n, hm, digs_take two64 hok hm hz (.inr ?_), by rw [ht]⟩
      simpa using hx
  · have hp' : t.n = 0 := by simp at hp; omega
    exact ⟨rfl, t.n, hm, digs_take two64 hok hm hz (.inl hp'), by rw [ht]⟩

/-- Memory of the call's own that holds a number's limbs, and nothing above them; or nil. -/
def OwnNil (base : Nat) (w : World) (s : Slc) (l : List Nat) : Prop := (s = ⟨none, 0, 0⟩ ∧ l = []) ∨ ∃ b, base ≤ b ∧ s.c ≤ maxLen ∧ Owr .u64 tU64 w s (nn l) b
theorem OwnNil.rd {base : Nat} {w : World} {s : Slc} {l : List Nat} (h : OwnNil base w s l) : Rd .u64 w s (nn l) := by
  rcases h with ⟨rfl, rfl⟩ | ⟨b, _, _, h⟩
  · exact Rd.nil
  · exact h.rd
theorem OwnNil.ahead {base : Nat} {w w' : World} {s : Slc} {l : List Nat} (h : OwnNil base w s l) (ha : Ahead w w') : OwnNil base w' s l := by
  rcases h with h | ⟨b, h1, h2, h3⟩
  · exact .inl h
  · exact .inr ⟨b, h1, h2, h3.ahead ha⟩
theorem OwnNil.mono {base base' : Nat} {w : World} {s : Slc} {l : List Nat} (h : OwnNil base w s l) (hb : base' ≤ base) : OwnNil base' w s l := by
  rcases h with h | ⟨b, h1, h2, h3⟩
  · exact .inl h
  · exact .inr ⟨b, by omega, h2, h3⟩
theorem OwnNil.nil {base : Nat} {w : World} : OwnNil base w ⟨none, 0, 0⟩ [] := .inl ⟨rfl, rfl⟩

/-- The limbs' length of a number that l holds. -/
theorem len_le {l : List Nat} (hok : ok B64 l) : (digs B64 (val B64 l)).length ≤ l.length := digs_length_le two64 (val_lt hok)

theorem Length_spec {w : World} {s : Slc} {l : List Nat} (h : Rd .u64 w s (nn l)) (hl : l.length ≤ 2 ^ 46) (hok : ok B64 l) :
    Calls pr nat_Length_id #[s.v] w fun e w' => w' = w ∧ e = .returned (.int .i64 (bl (val B64 l))) := by
  refine nat_Length_vc s w _ ?_
  refine Calls.mono (trim_spec h hl hok) ?_
  rintro e w' ⟨rfl, m, hm, hd, rfl⟩
  refine ⟨_, rfl, ?_⟩
  have hc := h.c
  have hn : s.n = l.length := by rw [h.n, nn_length]
  have hlen : (digs B64 (val B64 l)).length = m := by rw [hd, List.length_take]; omega
  refine br_intro (fun hz => ?_) (fun hz => ?_)
  · have : m = 0 := by simp at hz; omega
    subst this
    refine ⟨rfl, ?_⟩
    have : val B64 l = 0 := by
      rw [← val_digs two64 (val B64 l), hd]; simp [val]
    rw [this, bl_zero]; rfl
  · have hp : 0 < m := by simp at hz; omega
    have e1 : IntKind.i64.wrap ((m : Int) - 1) = (m : Int) - 1 := wrap_i64 (by omega) (by omega)
    simp only [e1]
    have hr : Rd .u64 w' ⟨s.A, m, s.c⟩ (nn (l.take m)) := by rw [← nn_take]; exact h.take (by simp; omega) (by omega)
    refine ldN hr (by omega) (by simp; omega) ?_
    have e2 : ((m : Int) - 1).toNat = m - 1 := by omega
    rw [e2, ← hd]
    have hB := B64v
    have ho := ok_getD (ok_digs two64 (val B64 l)) (by omega : 0 < B64) (m - 1)
    refine Calls.mono (Tryd.bits_Len64 _ _ (by omega) (by omega)) ?_
    rintro e w'' ⟨rfl, rfl⟩
    refine ⟨_, rfl, rfl, ?_⟩
    rw [Int.toNat_natCast, bitLen_eq ho]
    have hb := bl_top (n := val B64 l) (m := m - 1) (by omega)
    have hb64 : bl ((digs B64 (val B64 l)).getD (m - 1) 0) ≤ 64 := bl_le ho
    rw [hb]
    have e3 : IntKind.i64.wrap (64 * ((m : Int) - 1)) = 64 * ((m : Int) - 1) := wrap_i64 (by omega) (by omega)
    rw [e3, wrap_i64 (by omega) (by omega)]
    congr 2; omega

theorem told_spec {w : World} {s : Slc} {l : List Nat} (h : Rd .u64 w s (nn l)) (hl : l.length ≤ 2 ^ 46) (hok : ok B64 l) :
    Calls pr nat_told_id #[s.v] w fun e w' => w' = w ∧ ∃ m, m ≤ l.length ∧ digs B64 (val B64 l) = l.take m ∧
      ((bl (val B64 l) ≤ 67108864 ∧ e = .returned (.tuple #[Slc.v ⟨s.A, m, s.c⟩, .int .i64 0])) ∨ (67108864 < bl (val B64 l) ∧ e = .returned (.tuple #[Slc.v ⟨none, 0, 0⟩, .int .i64 3]))) := by
  refine nat_told_vc s w _ ?_
  refine Calls.mono (trim_spec h hl hok) ?_
  rintro e w' ⟨rfl, m, hm, hd, rfl⟩
  refine ⟨_, rfl, ?_⟩
  have hc := h.c
  have hn : s.n = l.length := by rw [h.n, nn_length]
  have hr : Rd .u64 w' ⟨s.A, m, s.c⟩ (nn (l.take m)) := by rw [← nn_take]; exact h.take (by simp; omega) (by omega)
  refine Calls.mono (Length_spec hr (by simp; omega) (ok_take hok m)) ?_
  rintro e w'' ⟨rfl, rfl⟩
  refine ⟨_, rfl, ?_⟩
  rw [← hd, val_digs two64]
  refine br_intro (fun hb => ?_) (fun hb => ?_)
  · exact ⟨rfl, m, hm, hd, .inr ⟨by simp at hb; omega, rfl⟩⟩
  · exact ⟨rfl, m, hm, hd, .inl ⟨by simp at hb; omega, rfl⟩⟩

/-- The answer of a function that makes a number: it, or ErrBig. -/
def Ans (w : World) (n : Nat) (e : Ending) (w' : World) : Prop :=
  Ahead w w' ∧ ∃ s c, e = .returned (.tuple #[Slc.v s, .int .i64 c]) ∧ ((bl n ≤ 67108864 ∧ c = 0 ∧ OwnNil w.heap.size w' s (digs B64 n)) ∨ (67108864 < bl n ∧ c = 3 ∧ s = ⟨none, 0, 0⟩))

/-- told of a row of one's own. -/
theorem told_own {w0 w : World} {s : Slc} {l : List Nat} {b : Nat} (h : Owr .u64 tU64 w s (nn l) b) (hb : w0.heap.size ≤ b) (hc : s.c ≤ maxLen) (ha : Ahead w0 w) (hl : l.length ≤ 2 ^ 46) (hok : ok B64 l) :
    Calls pr nat_told_id #[s.v] w (Ans w0 (val B64 l)) := by
  refine Calls.mono (told_spec h.rd hl hok) ?_
  rintro e w' ⟨rfl, m, hm, hd, hh⟩
  refine ⟨ha, ?_⟩
  rcases hh with ⟨h1, rfl⟩ | ⟨h1, rfl⟩
  · refine ⟨_, _, rfl, .inl ⟨h1, rfl, .inr ⟨b, hb, hc, ?_⟩⟩⟩
    have := h.take (m := m) (by simpa using hm)
    rw [hd, ← nn_take]
    exact this
  · exact ⟨_, _, rfl, .inr ⟨h1, rfl, rfl⟩⟩

theorem Norm_spec {w : World} {s : Slc} {l : List Nat} (h : Rd .u64 w s (nn l)) (hl : l.length ≤ 2 ^ 44) (hok : ok B64 l) :
    Calls pr nat_Norm_id #[s.v] w fun e w' => Ahead w w' ∧ ∃ s', e = .returned (Slc.v s') ∧ OwnNil w.heap.size w' s' (digs B64 (val B64 l)) := by
  refine nat_Norm_vc s w _ ?_
  refine Calls.mono (trim_spec h (by omega) hok) ?_
  rintro e w' ⟨rfl, m, hm, hd, rfl⟩
  refine ⟨_, rfl, ?_⟩
  have hc := h.c
  have hn : s.n = l.length := by rw [h.n, nn_length]
  have hr : Rd .u64 w' ⟨s.A, m, s.c⟩ (nn (l.take m)) := by rw [← nn_take]; exact h.take (by simp; omega) (by omega)
  by_cases hp : 0 < m
  · refine app (t := _) (e := tU64) (k := .u64) (l := []) (base := w'.heap.size) (by kernel_rfl) hr (by simp; omega) (.inl ⟨rfl, rfl⟩) (Nat.le_refl _) (by simp; omega) ?_
    intro s' w1 b' hb' hc' ho hbl hah
    refine ⟨hbl, _, rfl, .inr ⟨b', hb', hc', ?_⟩⟩
    rw [hd]; exact ho
  · obtain rfl : m = 0 := by omega
    refine app0 (e := tU64) (k := .u64) (by kernel_rfl) rfl ?_
    refine ⟨Ahead.refl _, _, rfl, ?_⟩
    rw [hd]; exact OwnNil.nil

end Nat
end Go.Proofs.YtahbekmnphkiiaaDoor
namespace Go.Proofs.YtahbekmnphkiiaaDoor
open Dg
set_option linter.unusedVariables false
set_option linter.unusedSimpArgs false
namespace Dg
/-- Setting a digit. -/
theorem val_set {B : Nat} (l : List Nat) (i x : Nat) (h : i < l.length) : val B (l.set i x) + B ^ i * l.getD i 0 = val B l + B ^ i * x := by
  rw [val_split3 l i h, val_split3 (l.set i x) i (by simpa using h), take_set_self, getD_set _ _ _ _ h, if_pos rfl]
  have : (l.set i x).drop (i + 1) = l.drop (i + 1) := by rw [List.drop_set_of_lt (by omega)]
  rw [this]
  simp only [Nat.mul_add]
  omega
theorem digit_le {B : Nat} (l : List Nat) (i : Nat) (h : i < l.length) : B ^ i * l.getD i 0 ≤ val B l := by
  rw [val_split3 l i h, Nat.mul_add]; omega
theorem or_add {x a s : Nat} (h : x < 2 ^ s) : x ||| 2 ^ s * a = x + 2 ^ s * a := by
  rw [Nat.or_comm, ← Nat.two_pow_add_eq_or_of_lt h, Nat.add_comm]
theorem bl_len {l : List Nat} (h : ok B64 l) : bl (val B64 l) ≤ 64 * l.length := bl_le (by rw [← b64_pow]; exact val_lt h)
theorem digit {B : Nat} (hB : 0 < B) : ∀ (l : List Nat), ok B l → ∀ i, l.getD i 0 = val B l / B ^ i % B
  | [], _, i => by simp [val]
  | x :: l, h, 0 => by
    have := (ok_cons.1 h).1
    simp [val, Nat.add_mul_mod_self_left, Nat.mod_eq_of_lt this]
  | x :: l, h, i + 1 => by
    have hx := (ok_cons.1 h).1
    have := digit hB l (ok_cons.1 h).2 i
    rw [List.getD_cons_succ, this]
    have e : val B (x :: l) = x + B * val B l := rfl
    rw [e, Nat.pow_succ', ← Nat.div_div_eq_div_mul, Nat.add_mul_div_left _ _ hB, Nat.div_eq_of_lt hx, Nat.zero_add]
theorem val_of_digits {B : Nat} (hB : 0 < B) : ∀ (l : List Nat) (N : Nat), N < B ^ l.length → (∀ i, i < l.length → l.getD i 0 = N / B ^ i % B) → val B l = N
  | [], N, h, _ => by simp at h; subst h; rfl
  | x :: l, N, h, hd => by
    have h0 := hd 0 (by simp)
    simp at h0
    have ih := val_of_digits hB l (N / B) (by
      rw [List.length_cons, Nat.pow_succ] at h
      exact (Nat.div_lt_iff_lt_mul hB).2 h) fun i hi => by
        have := hd (i + 1) (by simpa using hi)
        rw [List.getD_cons_succ, Nat.pow_succ', ← Nat.div_div_eq_div_mul] at this
        exact this
    have e : val B (x :: l) = x + B * val B l := rfl
    rw [e, ih, h0]
    exact Nat.mod_add_div N B
theorem take_val {B : Nat} (hB : 0 < B) {l : List Nat} (h : ok B l) (m : Nat) : val B (l.take m) = val B l % B ^ m := by
  rcases Nat.lt_or_ge l.length m with hm | hm
  · rw [List.take_of_length_le (by omega), Nat.mod_eq_of_lt]
    exact Nat.lt_of_lt_of_le (val_lt h) (Nat.pow_le_pow_right hB (by omega))
  · have hlt : val B (l.take m) < B ^ m := by
      have := val_lt (ok_take h m)
      rw [List.length_take, Nat.min_eq_left hm] at this
      exact this
    rw [val_take_drop l m hm, Nat.add_mul_mod_self_left, Nat.mod_eq_of_lt hlt]

/-- 2^(kw + s), w the digits' width. -/
theorem pow_split (n w : Nat) : 2 ^ n = (2 ^ w) ^ (n / w) * 2 ^ (n % w) := by
  rw [← Nat.pow_mul, ← Nat.pow_add, Nat.div_add_mod]

/-- A product's digit: low part and high part of x * 2^s. -/
theorem shl_lo (x s w : Nat) (hs : s ≤ w) : x * 2 ^ s % 2 ^ w = 2 ^ s * (x % 2 ^ (w - s)) := by
  have : 2 ^ w = 2 ^ s * 2 ^ (w - s) := by rw [← Nat.pow_add]; congr 1; omega
  rw [this, Nat.mul_comm x, Nat.mul_mod_mul_left]
theorem shl_hi (x s w : Nat) (hs : s ≤ w) : x * 2 ^ s / 2 ^ w = x / 2 ^ (w - s) := by
  have : 2 ^ w = 2 ^ (w - s) * 2 ^ s := by rw [← Nat.pow_add]; congr 1; omega
  rw [this, Nat.mul_div_mul_right _ _ (Nat.pow_pos (by omega))]

/-- One round of a shift to the left, in a base 2^w: what stands at k is below 2^s, what stands at k + 1 is 0. -/
theorem left_facts {w : Nat} {l A : List Nat} {j wd s : Nat} (hs : s < w) (hl : wd + j + 1 < l.length) (hA : ok (2 ^ w) A) (hj : j < A.length) (hv : val (2 ^ w) l = val (2 ^ w) (A.take j) * ((2 ^ w) ^ wd * 2 ^ s)) :
    l.getD (wd + j) 0 < 2 ^ s ∧ l.getD (wd + j + 1) 0 = 0 := by
  have hB : 0 < 2 ^ w := Nat.pow_pos (by omega)
  have hlt : val (2 ^ w) (A.take j) < (2 ^ w) ^ j := by
    have := val_lt (ok_take hA j)
    rw [List.length_take, Nat.min_eq_left (by omega)] at this
    exact this
  have hV : val (2 ^ w) l < (2 ^ w) ^ (wd + j) * 2 ^ s := by
    rw [hv, Nat.pow_add, show (2 ^ w) ^ wd * (2 ^ w) ^ j * 2 ^ s = (2 ^ w) ^ j * ((2 ^ w) ^ wd * 2 ^ s) by ac_rfl]
    exact Nat.mul_lt_mul_of_pos_right hlt (Nat.mul_pos (Nat.pow_pos hB) (Nat.pow_pos (by omega)))
  constructor
  · have := digit_le (B := 2 ^ w) l (wd + j) (by omega)
    exact Nat.lt_of_mul_lt_mul_left (Nat.lt_of_le_of_lt this hV)
  · have := digit_le (B := 2 ^ w) l (wd + j + 1) (by omega)
    have h2 : (2 ^ w) ^ (wd + j) * 2 ^ s ≤ (2 ^ w) ^ (wd + j + 1) * 1 := by
      rw [Nat.pow_succ, Nat.mul_one]
      exact Nat.mul_le_mul_left _ (Nat.pow_le_pow_right (by omega) (by omega))
    have h3 := Nat.lt_of_mul_lt_mul_left (Nat.lt_of_le_of_lt this (Nat.lt_of_lt_of_le hV h2))
    omega
theorem left_step {w : Nat} {l A : List Nat} {j wd s lo hi : Nat} (hs : s < w) (hl : wd + j + 1 < l.length) (hA : ok (2 ^ w) A) (hj : j < A.length) (hv : val (2 ^ w) l = val (2 ^ w) (A.take j) * ((2 ^ w) ^ wd * 2 ^ s))
    (hlo : lo = l.getD (wd + j) 0 + A.getD j 0 * 2 ^ s % 2 ^ w) (hhi : hi = A.getD j 0 * 2 ^ s / 2 ^ w) :
    val (2 ^ w) ((l.set (wd + j) lo).set (wd + j + 1) hi) = val (2 ^ w) (A.take (j + 1)) * ((2 ^ w) ^ wd * 2 ^ s) := by
  obtain ⟨h3, h5⟩ := left_facts hs hl hA hj hv
  have v1 := val_set (B := 2 ^ w) l (wd + j) lo (by omega)
  have v2 := val_set (B := 2 ^ w) (l.set (wd + j) lo) (wd + j + 1) hi (by simpa using hl)
  rw [getD_set _ _ _ _ (by omega), if_neg (by omega), h5, Nat.mul_zero, Nat.add_zero] at v2
  rw [v2, val_take_succ', Nat.add_mul, ← hv]
  rw [hlo, Nat.mul_add] at v1
  have v1' : val (2 ^ w) (l.set (wd + j) lo) = val (2 ^ w) l + (2 ^ w) ^ (wd + j) * (A.getD j 0 * 2 ^ s % 2 ^ w) := by rw [hlo]; omega
  rw [v1', Nat.add_assoc]
  congr 1
  rw [hhi, Nat.pow_succ, Nat.mul_assoc, ← Nat.mul_add, Nat.mod_add_div, Nat.pow_add]
  ac_rfl

/-- One digit of what is shifted to the right, in a base 2^w. -/
theorem right_digit (V w m s : Nat) (hs : s < w) : V / ((2 ^ w) ^ m * 2 ^ s) % 2 ^ w = V / (2 ^ w) ^ m % 2 ^ w / 2 ^ s + 2 ^ (w - s) * (V / (2 ^ w) ^ (m + 1) % 2 ^ s) := by
  rw [← Nat.div_div_eq_div_mul, Nat.pow_succ, ← Nat.div_div_eq_div_mul]
  generalize V / (2 ^ w) ^ m = U
  have e : 2 ^ w = 2 ^ s * 2 ^ (w - s) := by rw [← Nat.pow_add]; congr 1; omega
  have h1 : U = U % 2 ^ w + 2 ^ w * (U / 2 ^ w) := (Nat.mod_add_div _ _).symm
  have h2 : U / 2 ^ s = U % 2 ^ w / 2 ^ s + 2 ^ (w - s) * (U / 2 ^ w) := by
    conv => lhs; rw [h1]
    conv => lhs; rw [show 2 ^ w * (U / 2 ^ w) = 2 ^ s * (2 ^ (w - s) * (U / 2 ^ w)) by rw [← Nat.mul_assoc, ← e]]
    rw [Nat.add_mul_div_left _ _ (Nat.pow_pos (by omega))]
  have hlt : U % 2 ^ w / 2 ^ s < 2 ^ (w - s) := by
    rw [Nat.div_lt_iff_lt_mul (Nat.pow_pos (by omega)), Nat.mul_comm, ← e]
    exact Nat.mod_lt _ (Nat.pow_pos (by omega))
  have e2 : 2 ^ w = 2 ^ (w - s) * 2 ^ s := by rw [← Nat.pow_add]; congr 1; omega
  rw [h2]
  clear h2 h1 e
  rw [e2] at hlt ⊢
  generalize U % (2 ^ (w - s) * 2 ^ s) / 2 ^ s = r at *
  generalize U / (2 ^ (w - s) * 2 ^ s) = q at *
  have hq : 2 ^ (w - s) * q = 2 ^ (w - s) * (q % 2 ^ s) + 2 ^ (w - s) * 2 ^ s * (q / 2 ^ s) := by
    conv => lhs; rw [← Nat.mod_add_div q (2 ^ s)]
    rw [Nat.mul_add, Nat.mul_assoc]
  rw [hq, ← Nat.add_assoc, Nat.add_mul_mod_self_left]
  apply Nat.mod_eq_of_lt
  have hm : q % 2 ^ s + 1 ≤ 2 ^ s := Nat.mod_lt _ (Nat.pow_pos (by omega))
  have := Nat.mul_le_mul_left (2 ^ (w - s)) hm
  rw [Nat.mul_add] at this
  omega
theorem div_pow_add (V w m i s : Nat) : V / ((2 ^ w) ^ m * 2 ^ s) / (2 ^ w) ^ i = V / ((2 ^ w) ^ (m + i) * 2 ^ s) := by
  rw [Nat.div_div_eq_div_mul, Nat.pow_add]
  congr 1; ac_rfl
end Dg
end Go.Proofs.YtahbekmnphkiiaaDoor
namespace Go.Proofs.YtahbekmnphkiiaaDoor
open Go Go.RowKit Eng Sp Dg
set_option linter.unusedVariables false
set_option linter.unusedSimpArgs false
set_option maxRecDepth 100000
namespace Nat

/-- The row c holds l, in memory that is newer than w0; what S says of the world stood before the row was laid, and no store changes it. -/
def Fill (w0 w : World) (c : Slc) (l : List Nat) (S : World → Prop) : Prop :=
  ∃ (b : Nat) (w1 : World), Owr .u64 tU64 w c (nn l) b ∧ c.c ≤ maxLen ∧ w0.heap.size ≤ b ∧ Ahead w0 w ∧ Ahead w1 w ∧ w1.heap.size ≤ b ∧ S w1

theorem Fill.rd {w0 w : World} {c : Slc} {l : List Nat} {S : World → Prop} (h : Fill w0 w c l S) : Rd .u64 w c (nn l) := by
  obtain ⟨b, w1, ho, _⟩ := h; exact ho.rd
theorem Fill.base {w0 w : World} {c : Slc} {l : List Nat} {S : World → Prop} (h : Fill w0 w c l S) : Ahead w0 w := by
  obtain ⟨b, w1, _, _, _, ha, _⟩ := h; exact ha
theorem Fill.src {w0 w : World} {c : Slc} {l : List Nat} {S : World → Prop} (h : Fill w0 w c l S) (hS : ∀ w1, Ahead w1 w → S w1 → S w) : S w := by
  obtain ⟨b, w1, _, _, _, _, ha, _, hs⟩ := h; exact hS w1 ha hs
theorem Fill.ahead {w0 w w' : World} {c : Slc} {l : List Nat} {S : World → Prop} (h : Fill w0 w c l S) (ha : Ahead w w') : Fill w0 w' c l S := by
  obtain ⟨b, w1, h1, h2, h3, h4, h5, h6, h7⟩ := h
  exact ⟨b, w1, h1.ahead ha, h2, h3, h4.trans ha, h5.trans ha, h6, h7⟩

theorem mkF {t : TypeId} {w0 w : World} {n : Int} (h0 : 0 ≤ n) (hn : n * 8 ≤ 2 ^ 48) {S : World → Prop} (ha0 : Ahead w0 w) (hS : S w) {K : Slc → World → Prop}
    (hk : ∀ s w', s.n = n.toNat → Fill w0 w' s (List.replicate n.toNat 0) S → Ahead w w' → K s w')
    (hT : isSl pr t .u64 = some tU64 := by kernel_rfl) : semS pr (Instr.makeSlice t (.int .i64 n) (.int .i64 n)) w fun s w' => K s w' := by
  refine mkN h0 hn (fun s w' hc ho ha hs => hk s w' (by rw [ho.n]; simp) ⟨_, w, ho, by rw [hc]; unfold maxLen; omega, ha0.size, ha0.trans ha, ha, Nat.le_refl _, hS⟩ ha) hT

theorem stF {t : TypeId} {w0 w : World} {s : Slc} {l : List Nat} {S : World → Prop} (h : Fill w0 w s l S) {i : Int} (h0 : 0 ≤ i) (h1 : i < l.length) {x : Nat} {K : World → Prop}
    (hk : ∀ w', Fill w0 w' s (l.set i.toNat x) S → K w')
    (hT : isSl pr t .u64 = some tU64 := by kernel_rfl) : semA pr (Instr.indexAt t s.v (.int .i64 i)) w fun ad w1 => stC ad (.int .u64 (x : Int)) w1 fun w2 => K w2 := by
  obtain ⟨b, w1, ho, h2, h3, h4, h5, h6, h7⟩ := h
  exact stN ho h0 h1 (fun w' ho' ha' _ => hk w' ⟨b, w1, ho', h2, h3, ha' w0 h4 h3, ha' w1 h5 h6, h6, h7⟩) hT

/-- a value that a test of the code has fixed: an index's address, in a world that may move on before the store. -/
theorem stFf {t : TypeId} {w0 w w2 : World} {s : Slc} {l : List Nat} {S : World → Prop} (h : Fill w0 w s l S) (ha : Ahead w w2) {i : Int} (h0 : 0 ≤ i) (h1 : i < l.length) {x : Nat} {K : World → Prop}
    (hk : ∀ w', Fill w0 w' s (l.set i.toNat x) S → K w')
    (hT : isSl pr t .u64 = some tU64 := by kernel_rfl) : fixA pr (Instr.indexAt t s.v (.int .i64 i)) w fun ad => stC ad (.int .u64 (x : Int)) w2 fun w2 => K w2 := by
  obtain ⟨b, w1, ho, h2, h3, h4, h5, h6, h7⟩ := h
  have hA : s.A = some ⟨b, 0, none⟩ := ho.A
  refine ⟨⟨b, i.toNat, none⟩, fun w' ha' => ?_, ?_⟩
  · rw [run_indexAt hT w' s i ⟨b, 0, none⟩ hA h0 (by rw [ho.n]; simpa using h1), add_off]
  · have hl : i.toNat < l.length := by omega
    have ho2 := ho.ahead ha
    refine ⟨⟨_, ho2.cell (by simpa using hl)⟩, ho2.frozen _, ?_⟩
    refine hk _ ⟨b, w1, ?_, h2, h3, Ahead.setCell (h4.trans ha) h3, Ahead.setCell (h5.trans ha) h6, h6, h7⟩
    have := ho2.set (i := i.toNat) (by simpa using hl) (x : Int)
    rw [nn_set] at this
    exact this

theorem Fill.told {w0 w : World} {c : Slc} {l : List Nat} {S : World → Prop} (h : Fill w0 w c l S) (hl : l.length ≤ 2 ^ 46) (hok : ok B64 l) :
    Calls pr nat_told_id #[c.v] w (Ans w0 (val B64 l)) := by
  obtain ⟨b, w1, h1, h2, h3, h4, _⟩ := h
  exact told_own h1 h3 h2 h4 hl hok

theorem semShl {x y : Nat} {t : TypeId} {yk : IntKind} {w : World} {K : Int → World → Prop} (hy : y ≤ 64) (h : K ((x * 2 ^ y % B64 : Nat) : Int) w) :
    semI pr .u64 (binOp .shl t (.int .u64 (x : Int)) (.int yk (y : Int))) w K := by
  have e : binOp .shl t (.int .u64 (x : Int)) (.int yk (y : Int)) = pure (.int .u64 ((x * 2 ^ y % B64 : Nat) : Int)) := by
    rw [binOp_shl, shift_shl_any .u64 yk _ _ (by omega)]
    have : min ((y : Int)).toNat IntKind.u64.bits = y := by
      have : IntKind.u64.bits = 64 := rfl
      rw [this]; omega
    rw [this, wrap_u64, B64v]
    congr 2
  unfold semI
  rw [e, Sem.wp_iff_run]
  exact ⟨_, rfl, h⟩
theorem semShr {x y : Nat} {t : TypeId} {yk : IntKind} {w : World} {K : Int → World → Prop} (hy : y ≤ 64) (h : K ((x / 2 ^ y : Nat) : Int) w) :
    semI pr .u64 (binOp .shr t (.int .u64 (x : Int)) (.int yk (y : Int))) w K := by
  have e : binOp .shr t (.int .u64 (x : Int)) (.int yk (y : Int)) = pure (.int .u64 ((x / 2 ^ y : Nat) : Int)) := by
    rw [binOp_shr, shift_shr_any .u64 yk _ _ (by omega)]
    have : min ((y : Int)).toNat IntKind.u64.bits = y := by
      have : IntKind.u64.bits = 64 := rfl
      rw [this]; omega
    rw [this]
    congr 2
  unfold semI
  rw [e, Sem.wp_iff_run]
  exact ⟨_, rfl, h⟩
theorem fixShl {x y : Nat} {t : TypeId} {yk : IntKind} {w : World} {K : Int → Prop} (hy : y ≤ 64) (h : K ((x * 2 ^ y % B64 : Nat) : Int)) :
    fixI pr .u64 (binOp .shl t (.int .u64 (x : Int)) (.int yk (y : Int))) w K := by
  have e : binOp .shl t (.int .u64 (x : Int)) (.int yk (y : Int)) = pure (.int .u64 ((x * 2 ^ y % B64 : Nat) : Int)) := by
    rw [binOp_shl, shift_shl_any .u64 yk _ _ (by omega)]
    have : min ((y : Int)).toNat IntKind.u64.bits = y := by
      have : IntKind.u64.bits = 64 := rfl
      rw [this]; omega
    rw [this, wrap_u64, B64v]
    congr 2
  rw [fixI, e]
  exact ⟨_, fun _ _ => rfl, h⟩
theorem orI_nat {x y : Nat} (hx : x < B64) (hy : y < B64) : orI .u64 (x : Int) (y : Int) = ((x ||| y : Nat) : Int) := by
  have hB := B64v
  unfold orI
  have e : (BitVec.ofInt IntKind.u64.bits (x : Int) ||| BitVec.ofInt IntKind.u64.bits (y : Int)).toNat = x ||| y := by
    rw [BitVec.toNat_or, BitVec.ofInt_natCast, BitVec.ofInt_natCast, BitVec.toNat_ofNat, BitVec.toNat_ofNat]
    show x % 2 ^ 64 ||| y % 2 ^ 64 = _
    rw [Nat.mod_eq_of_lt (by omega), Nat.mod_eq_of_lt (by omega)]
  rw [e]
  refine wrap_u64' (by omega) ?_
  have : x ||| y < 2 ^ 64 := Nat.or_lt_two_pow (by omega) (by omega)
  omega
theorem andI_nat {x y : Nat} (hx : x < B64) (hy : y < B64) : andI .u64 (x : Int) (y : Int) = ((x &&& y : Nat) : Int) := by
  have hB := B64v
  unfold andI
  have e : (BitVec.ofInt IntKind.u64.bits (x : Int) &&& BitVec.ofInt IntKind.u64.bits (y : Int)).toNat = x &&& y := by
    rw [BitVec.toNat_and, BitVec.ofInt_natCast, BitVec.ofInt_natCast, BitVec.toNat_ofNat, BitVec.toNat_ofNat]
    show x % 2 ^ 64 &&& y % 2 ^ 64 = _
    rw [Nat.mod_eq_of_lt (by omega), Nat.mod_eq_of_lt (by omega)]
  rw [e]
  refine wrap_u64' (by omega) ?_
  have : x &&& y < 2 ^ 64 := Nat.and_lt_two_pow _ (by omega)
  omega

end Nat
end Go.Proofs.YtahbekmnphkiiaaDoor
