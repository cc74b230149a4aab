/- What the law leans on, part 1. No condition. -/
import Derived.RangeFuncWrites
import Derived.RangeFuncCalls
import Derived.RangeFuncLeaves
import Derived.TacticsIn
import Derived.WalkKit
import Derived.Wp
import Derived.KernelRfl
import Derived.Deep.Quiet
import Derived.StillTail
import Derived.OrdersHeld
import Derived.Lib.BitFns
import Derived.Shelf.Spec.BitsCarry
import Derived.Laws.CopyRow
import Derived.Deep.Strs
import Derived.ChangeSlices
import Derived.SizedLaws
import Derived.Lib.LaidTab
import Derived.Lib.SmallJoins
import Derived.Maps.AppendAt
import Derived.MapKept
import Derived.Carry
import Derived.Laws.BytesString
import Derived.Laws.Cells
import Derived.ProofKit
import Derived.OpenShut
import Derived.ShutString
import Derived.ChangeOld
import Derived.Below
import Derived.JoinedCond
import Derived.Deep.DeepHandedRow
import Derived.Test.YtbeiopoejdkheaaGreatDoorCards
import Derived.Test.YtbeiopoejdkheaaGreatDoorTie
import Derived.Test.YtbeiopoejdkheaaGreatDoorIds
import Derived.Test.YtbeiopoejdkheaaGreatDoorShelf
import Derived.Test.YtbeiopoejdkheaaGreatDoorProg
import Derived.Test.YtbeiopoejdkheaaGreatDoorTzL
import Derived.Test.YtbeiopoejdkheaaGreatDoorWSized
set_option linter.unusedVariables false
set_option linter.unusedSimpArgs false
set_option maxRecDepth 100000
set_option maxHeartbeats 4000000
namespace Go.Proofs.YtbeiopoejdkheaaGreatDoor
section
open Go Go.RowKit
namespace Eng
structure Slc where
  A:Option Addr
  n:Nat
  c:Nat
def Slc.v (s:Slc):Value:= .slice s.A s.n s.c
inductive Ty where
  |b|i (k:IntKind)|s|sl|p|pa|m|any|bad
  |ag (ts:List Ty)|tup (ts:List Ty)
mutual
def exV:Ty→(Value→Prop)→Prop
  | .b,p=>∃x:Bool,p (.bool x)
  | .i k,p=>∃x:Int,p (.int k x)
  | .s,p=>∃x:ByteArray,p (.string x)
  | .sl,p=>∃x:Slc,p x.v
  | .p,p=>∃x:Option Addr,p (.pointer x)
  | .pa,p=>∃x:Addr,p (.pointer (some x))
  | .m,p=>∃x:Option Nat,p (.map x)
  | .any,p=>∃x:Value,p x
  | .bad,_=>False
  | .ag ts,p=>exL ts fun vs=>p (.agg vs.toArray)
  | .tup ts,p=>exL ts fun vs=>p (.tuple vs.toArray)
def exL:List Ty→(List Value→Prop)→Prop
  | [],p=>p []
  |t::ts,p=>exV t fun v=>exL ts fun vs=>p (v::vs)
end
mutual
theorem ve:∀(t:Ty) (p:Value→Prop),exV t p→∃v,p v
  | .b,p,h=>by rw [exV] at h;obtain ⟨x,h⟩:=h;exact ⟨_,h⟩
  | .i k,p,h=>by rw [exV] at h;obtain ⟨x,h⟩:=h;exact ⟨_,h⟩
  | .s,p,h=>by rw [exV] at h;obtain ⟨x,h⟩:=h;exact ⟨_,h⟩
  | .sl,p,h=>by rw [exV] at h;obtain ⟨x,h⟩:=h;exact ⟨_,h⟩
  | .p,p,h=>by rw [exV] at h;obtain ⟨x,h⟩:=h;exact ⟨_,h⟩
  | .pa,p,h=>by rw [exV] at h;obtain ⟨x,h⟩:=h;exact ⟨_,h⟩
  | .m,p,h=>by rw [exV] at h;obtain ⟨x,h⟩:=h;exact ⟨_,h⟩
  | .any,p,h=>by rw [exV] at h;obtain ⟨x,h⟩:=h;exact ⟨_,h⟩
  | .bad,p,h=>by rw [exV] at h;exact h.elim
  | .ag ts,p,h=>by rw [exV] at h;obtain ⟨vs,_,h⟩:=T2 ts _ h;exact ⟨_,h⟩
  | .tup ts,p,h=>by rw [exV] at h;obtain ⟨vs,_,h⟩:=T2 ts _ h;exact ⟨_,h⟩
theorem T2:∀(ts:List Ty) (p:List Value→Prop),exL ts p→∃vs,vs.length=ts.length∧p vs
  | [],p,h=>by rw [exL] at h;exact ⟨[],rfl,h⟩
  |t::ts,p,h=>by
    rw [exL] at h
    obtain ⟨v,h⟩:=ve t _ h
    obtain ⟨vs,hl,h⟩:=T2 ts _ h
    exact ⟨v::vs,by simp [hl],h⟩
end
def tyF (P:Program):Nat→TypeId→Ty
 |0,_=> .bad
 |d+1,t=>match P.underlying t with
  |some .bool=> .b
  |some (.int k)=> .i k
  |some .string=> .s
  |some (.slice _)=> .sl
  |some (.pointer _)=> .p
  |some (.func ..)=> .any
  |some (.map ..)=> .m
  |some (.tuple ts)=> .tup (ts.toList.map (tyF P d))
  |some (.struct fs)=> .ag (fs.toList.map fun f=>match tyF P d f.type with| .ag ts=>ts|ty=> [ty]).flatten
  |some (.array n e)=> .ag (List.replicate n (match tyF P d e with| .ag ts=>ts|ty=> [ty])).flatten
  |_=> .bad
def br (b:Bool) (X Y:Prop):Prop:=match b with|true=>X|false=>Y
theorem zm {b:Bool} {X Y:Prop} (h1:b=true→X) (h2:b=false→Y):br b X Y:=by cases b<;>simp_all [br]
theorem yz {b:Bool} {X Y:Prop} (hb:b=true) (h:X):br b X Y:=by subst hb;exact h
theorem zt {b:Bool} {X Y:Prop} (hb:b=false) (h:Y):br b X Y:=by subst hb;exact h
def onSome (p:Option Addr) (K:Addr→Prop):Prop:=match p with|some ad=>K ad|none=>False
def ldL (ad:Addr) (w:World):Nat→List Ty→(List Value→Prop)→Prop
 |_, [],k=>k []
 |i,t::ts,k=>exV t fun v=>w.cell? (ad.add i)=some v∧ldL ad w (i+1) ts fun vs=>k (v::vs)
def ldT (P:Program) (t:TypeId) (ad:Addr) (w:World) (k:Value→Prop):Prop:=
 match P.underlying t with
 |some (.struct fs)=>match tyF P 8 t with
  | .ag ts=>match (P.info? t).map (·.size)==some ts.length with
   |true=>ldL ad w 0 ts fun vs=>k (.agg vs.toArray)
   |false=>False
  |_=>False
 |some (.array n e)=>match tyF P 8 t with
  | .ag ts=>match (P.info? t).map (·.size)==some ts.length with
   |true=>ldL ad w 0 ts fun vs=>k (.agg vs.toArray)
   |false=>False
  |_=>False
 |some d=>exV (tyF P 8 t) fun v=>w.cell? ad=some v∧k v
 |none=>False
theorem Ci {P:Program} {ad:Addr} {w:World} :∀(ts:List Ty) (i:Nat) (k:List Value→Prop) (acc:Array Value),ldL ad w i ts k→∃vs,k vs∧(loadCellsFrom ad i ts.length acc).run P w= .ok (acc++vs.toArray) w
 | [],i,k,acc,h=>⟨[],h,by simp [loadCellsFrom]⟩
 |t::ts,i,k,acc,h=>by
  rw [ldL] at h
  obtain ⟨v,hc,h⟩:=ve _ _ h
  obtain ⟨vs,hk,hr⟩:=Ci (P:=P) ts (i+1) _ (acc.push v) h
  refine ⟨v::vs,hk, ?_⟩
  simp only [List.length_cons,loadCellsFrom,Sem.run_bind,load,Sem.run,hc,Result.andThen,hr]
  simp
theorem Cj {P:Program} {t:TypeId} {ad:Addr} {w:World} {k:Value→Prop} (h:ldT P t ad w k):∃v,k v∧(loadVar t ad).run P w= .ok v w:=by
 unfold ldT at h
 have agg:∀ts:List Ty,(P.info? t).map (·.size)=some ts.length→ldL ad w 0 ts (fun vs=>k (.agg vs.toArray))→(isAgg t).run P w= .ok true w→
   ∃v,k v∧(loadVar t ad).run P w= .ok v w:=by
  intro ts hs hl ha
  obtain ⟨vs,hk,hr⟩:=Ci (P:=P) ts 0 _ #[] hl
  refine ⟨_,hk, ?_⟩
  obtain ⟨inf,hi,hsz⟩:=Option.map_eq_some_iff.1 hs
  have hsize:(sizeOf t).run P w= .ok ts.length w:=by
   simp [sizeOf,typeInfo,program,Sem.run,hi,hsz]
  simp only [loadVar,Sem.run_bind,ha,Result.andThen,if_true,hsize,loadCells,hr,Sem.run_pure]
  simp
 split at h
 ·rename_i fs hu
  split at h
  ·split at h
   ·rename_i hb;exact agg _ (by simpa using hb) h (by simp [isAgg,underlying,program,Sem.run,hu])
   ·exact h.elim
  ·exact h.elim
 ·rename_i n e hu
  split at h
  ·split at h
   ·rename_i hb;exact agg _ (by simpa using hb) h (by simp [isAgg,underlying,program,Sem.run,hu])
   ·exact h.elim
  ·exact h.elim
 ·rename_i d hns hna hu
  obtain ⟨v,hc,hk⟩:=ve _ _ h
  refine ⟨v,hk, ?_⟩
  have ha:(isAgg t).run P w= .ok false w:=by
   simp only [isAgg,underlying,program,Sem.run_bind,Sem.run,Result.andThen,hu]
   cases d<;>simp_all
  simp only [loadVar,Sem.run_bind,ha,Result.andThen,load,Sem.run,hc]
  simp [Sem.run,hc]
 ·exact h.elim
def vcS (P:Program) {α:Type}:Sem α→(α→World→Prop)→World→Prop
 | .pure a,K,w=>K a w
 | .load _ a k,K,w=>∃v,w.cell? a=some v∧vcS P (k v) K w
 | .store _ a v k,K,w=>match v.oneCell with
  |true=>(∃u,w.cell? a=some u)∧w.frozen? a=false∧vcS P k K (w.setCell a v)
  |false=>False
 | .new o k,K,w=>vcS P (k w.heap.size) K (w.alloc o)
 | .program k,K,w=>vcS P (k P) K w
 | .mark _ k,K,w=>vcS P k K w
 |_,_,_=>False
theorem Pm {P:Program} {α:Type} {K:α→World→Prop} {E:Halt→World→Prop} :∀(e:Sem α) (w:World),vcS P e K w→e.wp P K E w:=by
 intro e
 induction e with
 |pure a=>intro w h;exact h
 |load m a k ih=>
  intro w h
  rw [vcS] at h
  obtain ⟨v,hc,h⟩:=h
  simp only [Sem.wp,hc]
  exact ih v w h
 |store m a v k ih=>
  intro w h
  rw [vcS] at h
  split at h
  ·rename_i hv
   obtain ⟨⟨u,hu⟩,hf,h⟩:=h
   simp only [Sem.wp,hv,hu,hf,if_true]
   exact ih _ h
  ·exact h.elim
 |new o k ih=>intro w h;rw [vcS] at h;exact ih _ _ h
 |program k ih=>intro w h;rw [vcS] at h;exact ih _ _ h
 |mark m k ih=>intro w h;rw [vcS] at h;exact ih _ h
 |_=>intro w h;simp only [vcS] at h
def semV (P:Program) (e:Sem Value) (ty:Ty) (w:World) (K:Value→World→Prop):Prop:=
 e.wp P (fun v w'=>exV ty fun u=>v=u∧K u w') (fun _ _=>False) w
def entB (P:Program) (g:FuncId):Bool:=match P.funcs[g]? with
 |some fn=>fn.body.isSome&& !(fn.name== "runtime.NumGoroutine")
 |none=>false
def isConstOp:Operand→Bool
 | .const _=>true
 |_=>false
def callX (P:Program) (x:Value) (args:Array Value) (w:World) (K:Ending→World→Prop):Prop:=match x with
 | .func (.func g) first captured=>match entB P g with
  |true=>Calls P g (first++args++captured) w K
  |false=>False
 |_=>False
theorem j5 {P:Program} {g:FuncId} {first captured args:Array Value} {w:World} {K:Ending→World→Prop} (he:entB P g=true) (h:Calls P g (first++args++captured) w K):callX P (.func (.func g) first captured) args w K:=by
 unfold callX;simp only [he];exact h
def isStr (P:Program) (t:TypeId):Bool:=match P.underlying t with
 |some .string=>true
 |_=>false
def isByt (P:Program) (src dst:TypeId):Bool:=match P.underlying src,P.underlying dst with
 |some (.slice _),some .string=>true
 |_,_=>false
def vcOp (P:Program) (o:Oper) (a:Act) (K:Act→World→Prop) (w:World):Prop:=
 match o.op with
 | .move x=>K (a.put o.dst (a.eval x)) w
 | .assign x=>K (a.put o.dst (a.eval x)) w
 | .pick c x y=>match a.eval c with
  | .bool b=>br b (K (a.put o.dst (a.eval x)) w) (K (a.put o.dst (a.eval y)) w)
  |_=>False
 | .load t x=>match a.eval x with
  | .pointer p=>onSome p fun ad=>ldT P t ad w fun v=>K (a.put o.dst v) w
  |_=>False
 | .nilCheck x=>match a.eval x with
  | .pointer p=>onSome p fun ad=>K (a.put o.dst (.pointer (some ad))) w
  |_=>False
 | .indexAddr t x ix=>semV P (Instr.indexAt t (a.eval x) (a.eval ix)) .pa w fun v w'=>K (a.put o.dst v) w'
 | .index t x ix=>semV P (Instr.index t (a.eval x) (a.eval ix)) (tyF P 8 o.type) w fun v w'=>K (a.put o.dst v) w'
 | .slice t x lo hi mx=>semV P (Instr.sliceAt t (a.eval x) (lo.map a.eval) (hi.map a.eval) (mx.map a.eval)) (tyF P 8 o.type) w fun v w'=>K (a.put o.dst v) w'
 | .makeSlice t l c=>semV P (Instr.makeSlice t (a.eval l) (a.eval c)) .sl w fun v w'=>K (a.put o.dst v) w'
 | .binOp .quo t x y u=>match isConstOp y with
  |true=>vcS P (execOp a.eval o) (fun n w'=>match n with| .value v=>K (a.put o.dst v) w'|_=>False) w
  |false=>semV P (binOp .quo t (a.eval x) (a.eval y)) (tyF P 8 t) w fun v w'=>K (a.put o.dst v) w'
 | .binOp .rem t x y u=>match isConstOp y with
  |true=>vcS P (execOp a.eval o) (fun n w'=>match n with| .value v=>K (a.put o.dst v) w'|_=>False) w
  |false=>semV P (binOp .rem t (a.eval x) (a.eval y)) (tyF P 8 t) w fun v w'=>K (a.put o.dst v) w'
 | .binOp .shl t x y u=>match isConstOp y with
  |true=>vcS P (execOp a.eval o) (fun n w'=>match n with| .value v=>K (a.put o.dst v) w'|_=>False) w
  |false=>semV P (binOp .shl t (a.eval x) (a.eval y)) (tyF P 8 t) w fun v w'=>K (a.put o.dst v) w'
 | .binOp .shr t x y u=>match isConstOp y with
  |true=>vcS P (execOp a.eval o) (fun n w'=>match n with| .value v=>K (a.put o.dst v) w'|_=>False) w
  |false=>semV P (binOp .shr t (a.eval x) (a.eval y)) (tyF P 8 t) w fun v w'=>K (a.put o.dst v) w'
 | .binOp .add t x y u=>match isStr P t with
  |true=>semV P (binOp .add t (a.eval x) (a.eval y)) .s w fun v w'=>K (a.put o.dst v) w'
  |false=>vcS P (execOp a.eval o) (fun n w'=>match n with| .value v=>K (a.put o.dst v) w'|_=>False) w
 | .convert src dst x=>match isByt P src dst with
  |true=>semV P (convert src dst (a.eval x)) .s w fun v w'=>K (a.put o.dst v) w'
  |false=>vcS P (execOp a.eval o) (fun n w'=>match n with| .value v=>K (a.put o.dst v) w'|_=>False) w
 | .binOp .eql t x (.const (.pointer none)) _=>match a.eval x with
  | .pointer p=>match P.underlying t with
   |some (.pointer _)=>K (a.put o.dst (.bool p.isNone)) w
   |_=>False
  |_=>False
 | .binOp .neq t x (.const (.pointer none)) _=>match a.eval x with
  | .pointer p=>match P.underlying t with
   |some (.pointer _)=>K (a.put o.dst (.bool p.isSome)) w
   |_=>False
  |_=>False
 | .binOp .eql t x (.const .nilFunc) _=>semV P (binOp .eql t (a.eval x) .nilFunc) .b w fun v w'=>K (a.put o.dst v) w'
 | .makeMap t none=>semV P (Instr.makeMap t none) .m w fun v w'=>K (a.put o.dst v) w'
 | .lookup t x ix ok=>semV P (Instr.lookup t (a.eval x) (a.eval ix) ok) (tyF P 8 o.type) w fun v w'=>K (a.put o.dst v) w'
 | .mapUpdate t m k x=>(Instr.mapUpdate t (a.eval m) (a.eval k) (a.eval x)).wp P (fun _ w'=>K (a.put o.dst undef) w') (fun _ _=>False) w
 | .call {callee:= .builtin .append,args,argTypes}=>semV P (Builtin.append_ argTypes o.type (args.map a.eval)) .sl w fun v w'=>K (a.put o.dst v) w'
 | .call {callee:= .builtin .copy,args,argTypes}=>semV P (Builtin.copy_ argTypes o.type (args.map a.eval)) (.i .i64) w fun v w'=>K (a.put o.dst v) w'
 | .call {callee:= .value (.tmp t),args, .. }=>callX P (a.eval (.tmp t)) (args.map a.eval) w fun e w'=>exV (tyF P 8 o.type) fun v=>e= .returned v∧K (a.put o.dst v) w'
 | .call {callee:= .value f,args, .. }=>match a.eval f with
  | .func (.func g) first captured=>match entB P g with
   |true=>Calls P g (first++args.map a.eval++captured) w fun e w'=>exV (tyF P 8 o.type) fun v=>e= .returned v∧K (a.put o.dst v) w'
   |false=>(callFunc g (first++args.map a.eval++captured)).wp P (fun n w'=>exV (tyF P 8 o.type) fun v=>n= .value v∧K (a.put o.dst v) w') (fun _ _=>False) w
  |_=>False
 |_=>vcS P (execOp a.eval o) (fun n w'=>match n with
  | .value v=>K (a.put o.dst v) w'
  | .skip=>K (a.put o.dst undef) w'
  |_=>False) w
theorem p6 {P:Program} {o:Oper} {a:Act} {K:Act→World→Prop} {Q:Exit→Act→World→Prop} {w:World} (h:(execOp a.eval o).wp P (fun n w'=>match n with| .value v=>K (a.put o.dst v) w'| .skip=>K (a.put o.dst undef) w'| .enter f args=>Calls P f args w' fun e w''=>∃v,e= .returned v∧K (a.put o.dst v) w''|_=>False) (fun _ _=>False) w):o.wp P a w K Q:=by
 rw [Sem.wp_iff_run] at h
 unfold Oper.wp
 generalize (execOp a.eval o).run P w=r at h
 cases r with
 |halt x w'=>exact h.elim
 |ok n w'=>
  simp only [Result.sat] at h
  cases n<;>simp only [Oper.upon]
  case enter f args=>exact Calls.mono h fun e w'' ⟨v,he,hk⟩=>by subst he;exact hk
  all_goals first|exact h|exact False.elim h
theorem jt {P:Program} {o:Oper} {a:Act} {K:Act→World→Prop} {Q:Exit→Act→World→Prop} {w:World} (e:Sem Value) (he:execOp a.eval o=(do pure (.value (←e)))) (h:e.wp P (fun v w'=>K (a.put o.dst v) w') (fun _ _=>False) w):o.wp P a w K Q:=by
 refine p6 ?_
 rw [he]
 rw [Sem.wp_iff_run] at h⊢
 simp only [Sem.run_bind]
 generalize e.run P w=r at h
 cases r with
 |halt x w'=>exact h.elim
 |ok n w'=>exact h
theorem ur {P:Program} {o:Oper} {a:Act} {K:Act→World→Prop} {Q:Exit→Act→World→Prop} {w:World} (e:Sem Value) {ty:Ty} (he:execOp a.eval o=(do pure (.value (←e)))) (h:semV P e ty w fun v w'=>K (a.put o.dst v) w'):o.wp P a w K Q:=by
 refine jt e he ?_
 unfold semV at h
 rw [Sem.wp_iff_run] at h⊢
 generalize e.run P w=r at h
 cases r with
 |halt x w'=>exact h.elim
 |ok n w'=>
  obtain ⟨u,hu,hk⟩:=ve _ _ h
  subst hu
  exact hk
theorem Fd {P:Program} {o:Oper} {a:Act} {K:Act→World→Prop} {Q:Exit→Act→World→Prop} {w:World} (e:Sem Value) (v:Value) (he:execOp a.eval o=(do pure (.value (←e)))) (hr:e.run P w= .ok v w) (h:K (a.put o.dst v) w):o.wp P a w K Q:=by
 refine jt e he ?_
 rw [Sem.wp_iff_run,hr]
 exact h
theorem zfz {P:Program} {o:Oper} {a:Act} {K:Act→World→Prop} {Q:Exit→Act→World→Prop} {w:World} (h:vcS P (execOp a.eval o) (fun n w'=>match n with| .value v=>K (a.put o.dst v) w'| .skip=>K (a.put o.dst undef) w'|_=>False) w):o.wp P a w K Q:=by
 refine p6 ?_
 have:=Pm (E:=fun _ _=>False) _ _ h
 rw [Sem.wp_iff_run] at this⊢
 generalize (execOp a.eval o).run P w=r at this
 cases r with
 |halt x w'=>exact this.elim
 |ok n w'=>cases n<;>first|exact this|exact False.elim this
theorem jk {P:Program} {o:Oper} {a:Act} {K:Act→World→Prop} {Q:Exit→Act→World→Prop} {w:World} (h:vcS P (execOp a.eval o) (fun n w'=>match n with| .value v=>K (a.put o.dst v) w'|_=>False) w):o.wp P a w K Q:=by
 refine p6 ?_
 have:=Pm (E:=fun _ _=>False) _ _ h
 rw [Sem.wp_iff_run] at this⊢
 generalize (execOp a.eval o).run P w=r at this
 cases r with
 |halt x w'=>exact this.elim
 |ok n w'=>cases n<;>first|exact this|exact False.elim this
theorem mh {P:Program} {g:FuncId} (h:entB P g=true) (args:Array Value) (w:World):(callFunc g args).run P w= .ok (.enter g args) w:=by
 unfold entB at h
 split at h
 ·rename_i fn hf
  simp only [Bool.and_eq_true,Bool.not_eq_true'] at h
  have h1:fn.name≠ "runtime.NumGoroutine" :=by simpa using h.2
  have h2:fn.body.isNone=false:=by simpa [Option.isNone_eq_false_iff] using h.1
  simp [callFunc,program,Sem.run,hf,h1]
  intro hb
  simp [hb] at h2
 ·cases h
theorem ji {P:Program} {o:Oper} {a:Act} {K:Act→World→Prop} {Q:Exit→Act→World→Prop} {w:World} (h:vcOp P o a K w):o.wp P a w K Q:=by
 unfold vcOp at h
 split at h
 ·rename_i x ho;exact jt (pure (a.eval x)) (by simp [execOp,ho]) h
 ·rename_i x ho;exact jt (pure (a.eval x)) (by simp [execOp,ho]) h
 ·rename_i c x y ho
  split at h
  ·rename_i b hb
   refine jt (pure (if b=true then a.eval x else a.eval y)) (by simp [execOp,ho,hb,asBool]) ?_
   cases b<;>exact h
  ·exact h.elim
 ·rename_i t x ho
  split at h
  ·rename_i p hp
   cases p with
   |none=>exact h.elim
   |some ad=>
    obtain ⟨v,hk,hr⟩:=Cj (show ldT P t ad w (fun v=>K (a.put o.dst v) w) from h)
    refine jt (loadVar t ad) (by simp [execOp,ho,hp,Instr.loadAt,Instr.sureAddr]) ?_
    rw [Sem.wp_iff_run,hr]
    exact hk
  ·exact h.elim
 ·rename_i x ho
  split at h
  ·rename_i p hp
   cases p with
   |none=>exact h.elim
   |some ad=>exact jt (pure (.pointer (some ad))) (by simp [execOp,ho,hp]) h
  ·exact h.elim
 ·rename_i t x ix ho;exact ur _ (by simp [execOp,ho]) h
 ·rename_i t x ix ho;exact ur _ (by simp [execOp,ho]) h
 ·rename_i t x lo hi mx ho;exact ur _ (by simp [execOp,ho]) h
 ·rename_i t l c ho;exact ur _ (by simp [execOp,ho]) h
 ·rename_i t x y u ho
  split at h
  ·exact jk h
  ·exact ur _ (by simp [execOp,ho,eqGuard]) h
 ·rename_i t x y u ho
  split at h
  ·exact jk h
  ·exact ur _ (by simp [execOp,ho,eqGuard]) h
 ·rename_i t x y u ho
  split at h
  ·exact jk h
  ·exact ur _ (by simp [execOp,ho,eqGuard]) h
 ·rename_i t x y u ho
  split at h
  ·exact jk h
  ·exact ur _ (by simp [execOp,ho,eqGuard]) h
 ·rename_i t x y u ho
  split at h
  ·exact ur _ (by simp [execOp,ho,eqGuard]) h
  ·exact jk h
 ·rename_i src dst x ho
  split at h
  ·exact ur _ (by simp [execOp,ho]) h
  ·exact jk h
 ·rename_i t x u ho
  split at h
  ·rename_i p hp
   split at h
   ·rename_i e hu
    have hv:a.eval (.const (.pointer none))= .pointer none:=rfl
    have hu':P.underlying t=some (.pointer (P.pointee t)):=by rw [hu];simp [Program.pointee,hu]
    exact Fd (binOp .eql t (.pointer p) (.pointer none)) _ (by simp [execOp,ho,hp,hv,eqGuard]) (run_eql_pointer_nil w t p hu') h
   ·exact h.elim
  ·exact h.elim
 ·rename_i t x u ho
  split at h
  ·rename_i p hp
   split at h
   ·rename_i e hu
    have hv:a.eval (.const (.pointer none))= .pointer none:=rfl
    have hu':P.underlying t=some (.pointer (P.pointee t)):=by rw [hu];simp [Program.pointee,hu]
    exact Fd (binOp .neq t (.pointer p) (.pointer none)) _ (by simp [execOp,ho,hp,hv,eqGuard]) (by rw [run_neq_pointer_nil w t p hu'];cases p<;>rfl) h
   ·exact h.elim
  ·exact h.elim
 ·rename_i t x u ho;exact ur _ (by simp [execOp,ho,eqGuard,show a.eval (.const .nilFunc)= .nilFunc from rfl]) h
 ·rename_i t ho;exact ur _ (by simp [execOp,ho]) h
 ·rename_i t x ix ok ho;exact ur _ (by simp [execOp,ho]) h
 ·rename_i t m k x ho
  have he:execOp a.eval o=(do let _←Instr.mapUpdate t (a.eval m) (a.eval k) (a.eval x);pure .skip):=by simp [execOp,ho]
  unfold Oper.wp
  rw [he,Sem.run_bind]
  rw [Sem.wp_iff_run] at h
  generalize (Instr.mapUpdate t (a.eval m) (a.eval k) (a.eval x)).run P w=r at h
  cases r with
  |ok u w'=>exact h
  |halt x w'=>exact h.elim
 ·rename_i args ts ho;exact ur _ (by simp [execOp,ho,resolve,invoke,builtin]) h
 ·rename_i args ts ho;exact ur _ (by simp [execOp,ho,resolve,invoke,builtin]) h
 ·rename_i t args ts ho
  unfold callX at h
  split at h
  ·rename_i g first captured hf
   have hx:execOp a.eval o=callFunc g (first++args.map a.eval++captured):=by
    simp [execOp,ho,resolve,invoke,Deferred.ofValue,hf]
   split at h
   ·rename_i he
    refine p6 ?_
    rw [hx,Sem.wp_iff_run,mh he]
    exact Calls.mono h fun e w' hv=>ve _ _ hv
   ·exact h.elim
  ·exact h.elim
 ·rename_i f args ts hno ho
  split at h
  ·rename_i g first captured hf
   have hx:execOp a.eval o=callFunc g (first++args.map a.eval++captured):=by
    simp [execOp,ho,resolve,invoke,Deferred.ofValue,hf]
   split at h
   ·rename_i he
    refine p6 ?_
    rw [hx,Sem.wp_iff_run,mh he]
    exact Calls.mono h fun e w' hv=>ve _ _ hv
   ·refine p6 ?_
    rw [hx]
    rw [Sem.wp_iff_run] at h⊢
    generalize (callFunc g (first++args.map a.eval++captured)).run P w=r at h
    cases r with
    |halt x w'=>exact h.elim
    |ok n w'=>
     obtain ⟨v,hn,hk⟩:=ve _ _ h
     subst hn
     exact hk
  ·exact h.elim
 ·exact zfz h
def isWant (want b:Bool) (X Y:Prop):Prop:=match want,b with
 |true,true=>X
 |false,false=>X
 |_,_=>Y
def vcOps (P:Program) (ops:Array Oper) (Q:Exit→Act→World→Prop):List Oper→Act→World→Prop
 | [],a,w=>Q .normal a w
 |o::rest,a,w=>match o.guard with
  |none=>vcOp P o a (vcOps P ops Q rest) w
  |some (j,want)=>match (ops[j]?).bind (·.dst) with
   |some d=>match a.tmps[d]? with
    |some (.bool b)=>br b
      (isWant want true (vcOp P o (a.put (some d) (.bool true)) (vcOps P ops Q rest) w) (vcOps P ops Q rest ((a.put (some d) (.bool true)).put o.dst undef) w))
      (isWant want false (vcOp P o (a.put (some d) (.bool false)) (vcOps P ops Q rest) w) (vcOps P ops Q rest ((a.put (some d) (.bool false)).put o.dst undef) w))
    |_=>vcOps P ops Q rest (a.put o.dst undef) w
   |none=>vcOps P ops Q rest (a.put o.dst undef) w
theorem ue {a:Act} {d:Nat} {v:Value} (h:a.tmps[d]? =some v):a.put (some d) v=a:=by
 have:a.tmps.setIfInBounds d v=a.tmps:=by
  apply Array.ext_getElem?
  intro i
  rw [Array.getElem?_setIfInBounds]
  split
  ·rename_i e
   subst e
   split
   ·exact h.symm
   ·rename_i hn;rw [Array.getElem?_eq_none (by omega)] at h;cases h
  ·rfl
 simp [Act.put,this]
theorem nj {P:Program} {ops:Array Oper} {Q:Exit→Act→World→Prop} :∀(l:List Oper) (a:Act) (w:World),vcOps P ops Q l a w→wpList P ops Q l a w
 | [],_,_,h=>h
 |o::rest,a,w,h=>by
  have ih:=nj (P:=P) (ops:=ops) (Q:=Q) rest
  have hK:∀a w,vcOp P o a (vcOps P ops Q rest) w→o.wp P a w (wpList P ops Q rest) Q:=fun a w h=>by
   have:=ji (Q:=Q) h
   unfold Oper.wp at this⊢
   generalize (execOp a.eval o).run P w=r at this
   cases r with
   |halt x w'=>cases x<;>exact this
   |ok n w'=>
    cases n<;>simp only [Oper.upon] at this⊢
    case enter f args=>
     refine Calls.mono this fun e w'' hv=> ?_
     cases e<;>first|exact ih _ _ hv|exact hv
    case row row args=>exact Rows.mono this fun v w'' hv=>ih _ _ hv
    all_goals first|exact ih _ _ this|exact this
  unfold wpList
  rw [vcOps] at h
  have hskip:∀a:Act,Region.wanted o (yielded ops a.tmps)=false→vcOps P ops Q rest (a.put o.dst undef) w→(if Region.wanted o (yielded ops a.tmps) then o.wp P a w (wpList P ops Q rest) Q∨(o.asks P a w∧LetsOut Q) else wpList P ops Q rest (a.put o.dst undef) w):=by
   intro a hw h
   rw [if_neg (by simp [hw])]
   exact ih _ _ h
  split at h
  ·rename_i hg
   rw [if_pos (by simp [Region.wanted,hg])]
   exact .inl (hK _ _ h)
  ·rename_i j want hg
   split at h
   ·rename_i d hd
    split at h
    ·rename_i b hb
     have hy:yielded ops a.tmps j=some b:=by simp [yielded,hd,hb]
     have hwant:Region.wanted o (yielded ops a.tmps)=(b==want):=by simp [Region.wanted,hg,hy]
     cases b
     ·rw [br,ue hb] at h
      cases want
      ·rw [if_pos (by simp [hwant])]
       exact .inl (hK _ _ h)
      ·exact hskip a (by simp [hwant]) h
     ·rw [br,ue hb] at h
      cases want
      ·exact hskip a (by simp [hwant]) h
      ·rw [if_pos (by simp [hwant])]
       exact .inl (hK _ _ h)
    ·rename_i hb
     refine hskip a ?_ h
     have hy:yielded ops a.tmps j=none:=by
      simp only [yielded,hd,Option.bind_some]
      all_goals
       generalize a.tmps[d]? =v at hb
       cases v with
       |none=>rfl
       |some v=>cases v<;>first|rfl|exact absurd rfl (hb _)
     simp [Region.wanted,hg,hy]
   ·rename_i hd
    refine hskip a ?_ h
    have hy:yielded ops a.tmps j=none:=by simp [yielded,hd]
    simp [Region.wanted,hg,hy]
def Ahead (w w':World):Prop:=Below w.heap.size w w'
theorem Ahead.refl (w:World):Ahead w w:=Below.refl _ _
theorem Ahead.trans {a b c} (h:Ahead a b) (k:Ahead b c):Ahead a c:=Below.trans h (k.mono h.size)
theorem Ahead.cell {w w'} (h:Ahead w w') {ad:Addr} {v:Value} (hc:w.cell? ad=some v):w'.cell? ad=some v:=by
 have hb:ad.block<w.heap.size:=by
  unfold World.cell? at hc
  split at hc
  ·rename_i hh;exact (Array.getElem?_eq_some_iff.1 hh).1
  ·cases hc
 rw [Below.cell h hb];exact hc
def pureRun (P:Program) {α:Type}:Sem α→Option α
 | .pure a=>some a
 | .program k=>pureRun P (k P)
 | .mark _ k=>pureRun P k
 |_=>none
theorem kg {P:Program} {α:Type} (w:World):∀(e:Sem α) (v:α),pureRun P e=some v→e.run P w= .ok v w:=by
 intro e
 induction e with
 |pure a=>intro v h;simp only [pureRun,Option.some.injEq] at h;subst h;rfl
 |program k ih=>intro v h;rw [pureRun] at h;exact ih _ v h
 |mark m k ih=>intro v h;rw [pureRun] at h;exact ih v h
 |_=>intro v h;simp [pureRun] at h
def fixV (P:Program) (e:Sem Value) (ty:Ty) (w:World) (K:Value→Prop):Prop:=
 exV ty fun v=>(∀w',Ahead w w'→e.run P w'= .ok v w')∧K v
def anyV (P:Program) (e:Sem Value) (ty:Ty) (K:Value→Prop):Prop:=
 exV ty fun v=>(∀w',e.run P w'= .ok v w')∧K v
def vcQOp (P:Program) (o:Oper) (a:Act) (w:World) (K:Act→Prop):Prop:=
 match o.op with
 | .pick c x y=>match a.eval c with
  | .bool b=>br b (K (a.put o.dst (a.eval x))) (K (a.put o.dst (a.eval y)))
  |_=>False
 | .load t x=>match a.eval x with
  | .pointer p=>onSome p fun ad=>ldT P t ad w fun v=>K (a.put o.dst v)
  |_=>False
 | .nilCheck x=>match a.eval x with
  | .pointer p=>onSome p fun ad=>K (a.put o.dst (.pointer (some ad)))
  |_=>False
 | .indexAddr t x ix=>fixV P (Instr.indexAt t (a.eval x) (a.eval ix)) .pa w fun v=>K (a.put o.dst v)
 | .index t x ix=>fixV P (Instr.index t (a.eval x) (a.eval ix)) (tyF P 8 o.type) w fun v=>K (a.put o.dst v)
 | .slice t x lo hi mx=>fixV P (Instr.sliceAt t (a.eval x) (lo.map a.eval) (hi.map a.eval) (mx.map a.eval)) (tyF P 8 o.type) w fun v=>K (a.put o.dst v)
 | .binOp .quo t x y _=>match isConstOp y with
  |true=>match pureRun P (execOp a.eval o) with
   |some (.value v)=>K (a.put o.dst v)
   |_=>False
  |false=>fixV P (binOp .quo t (a.eval x) (a.eval y)) (tyF P 8 t) w fun v=>K (a.put o.dst v)
 | .binOp .rem t x y _=>match isConstOp y with
  |true=>match pureRun P (execOp a.eval o) with
   |some (.value v)=>K (a.put o.dst v)
   |_=>False
  |false=>fixV P (binOp .rem t (a.eval x) (a.eval y)) (tyF P 8 t) w fun v=>K (a.put o.dst v)
 | .binOp .shl t x y _=>match isConstOp y with
  |true=>match pureRun P (execOp a.eval o) with
   |some (.value v)=>K (a.put o.dst v)
   |_=>False
  |false=>fixV P (binOp .shl t (a.eval x) (a.eval y)) (tyF P 8 t) w fun v=>K (a.put o.dst v)
 | .binOp .shr t x y _=>match isConstOp y with
  |true=>match pureRun P (execOp a.eval o) with
   |some (.value v)=>K (a.put o.dst v)
   |_=>False
  |false=>fixV P (binOp .shr t (a.eval x) (a.eval y)) (tyF P 8 t) w fun v=>K (a.put o.dst v)
 | .call {callee:= .value f,args, .. }=>match a.eval f with
  | .func (.func g) first captured=>match entB P g with
   |true=>exV (tyF P 8 o.type) fun v=>(∀w',Ahead w w'→Calls P g (first++args.map a.eval++captured) w' fun e w''=>e= .returned v∧Ahead w' w'')∧K (a.put o.dst v)
   |false=>False
  |_=>False
 |_=>match pureRun P (execOp a.eval o) with
  |some (.value v)=>K (a.put o.dst v)
  |_=>False
def vcQ (P:Program) (ops:Array Oper) (w:World) (Q:Act→Prop):List Oper→Act→Prop
 | [],a=>Q a
 |o::rest,a=>match o.guard with
  |none=>vcQOp P o a w (vcQ P ops w Q rest)
  |some (j,want)=>match (ops[j]?).bind (·.dst) with
   |some d=>match a.tmps[d]? with
    |some (.bool b)=>br b
      (isWant want true (vcQOp P o (a.put (some d) (.bool true)) w (vcQ P ops w Q rest)) (vcQ P ops w Q rest ((a.put (some d) (.bool true)).put o.dst undef)))
      (isWant want false (vcQOp P o (a.put (some d) (.bool false)) w (vcQ P ops w Q rest)) (vcQ P ops w Q rest ((a.put (some d) (.bool false)).put o.dst undef)))
    |_=>vcQ P ops w Q rest (a.put o.dst undef)
   |none=>vcQ P ops w Q rest (a.put o.dst undef)
theorem j3 {P:Program} {o:Oper} {a:Act} {w:World} {K:Act→Prop} (e:Sem Value) (v:Value) (he:execOp a.eval o=(do pure (.value (←e)))) (hr:∀w',Ahead w w'→e.run P w'= .ok v w') (hk:K (a.put o.dst v)):o.quiet P a (Ahead w) K:=by
 refine ⟨v,fun w' hw=> ?_,hk⟩
 unfold Oper.quietAt
 rw [he]
 simp [Sem.run_bind,hr w' hw,Result.andThen,Oper.quietUpon]
theorem Q9 {P:Program} {ad:Addr} {w:World} :∀(ts:List Ty) (i:Nat) (k:List Value→Prop),ldL ad w i ts k→∃vs,k vs∧∀(acc:Array Value) (w':World),Ahead w w'→(loadCellsFrom ad i ts.length acc).run P w'= .ok (acc++vs.toArray) w'
 | [],i,k,h=>⟨[],h,by simp [loadCellsFrom]⟩
 |t::ts,i,k,h=>by
  rw [ldL] at h
  obtain ⟨v,hc,h⟩:=ve _ _ h
  obtain ⟨vs,hk,hr⟩:=Q9 (P:=P) ts (i+1) _ h
  refine ⟨v::vs,hk,fun acc w' hw=> ?_⟩
  simp only [List.length_cons,loadCellsFrom,Sem.run_bind,load,Sem.run,hw.cell hc,Result.andThen,hr _ w' hw]
  simp
theorem Pa {P:Program} {t:TypeId} {ad:Addr} {w:World} {k:Value→Prop} (h:ldT P t ad w k):∃v,k v∧∀w',Ahead w w'→(loadVar t ad).run P w'= .ok v w':=by
 unfold ldT at h
 have agg:∀ts:List Ty,(P.info? t).map (·.size)=some ts.length→ldL ad w 0 ts (fun vs=>k (.agg vs.toArray))→(∀w',(isAgg t).run P w'= .ok true w')→
   ∃v,k v∧∀w',Ahead w w'→(loadVar t ad).run P w'= .ok v w':=by
  intro ts hs hl ha
  obtain ⟨vs,hk,hr⟩:=Q9 (P:=P) ts 0 _ hl
  refine ⟨_,hk,fun w' hw=> ?_⟩
  obtain ⟨inf,hi,hsz⟩:=Option.map_eq_some_iff.1 hs
  have hsize:(sizeOf t).run P w'= .ok ts.length w':=by
   simp [sizeOf,typeInfo,program,Sem.run,hi,hsz]
  simp only [loadVar,Sem.run_bind,ha,Result.andThen,if_true,hsize,loadCells,hr _ w' hw,Sem.run_pure]
  simp
 split at h
 ·rename_i fs hu
  split at h
  ·split at h
   ·rename_i hb;exact agg _ (by simpa using hb) h (fun w'=>by simp [isAgg,underlying,program,Sem.run,hu])
   ·exact h.elim
  ·exact h.elim
 ·rename_i n e hu
  split at h
  ·split at h
   ·rename_i hb;exact agg _ (by simpa using hb) h (fun w'=>by simp [isAgg,underlying,program,Sem.run,hu])
   ·exact h.elim
  ·exact h.elim
 ·rename_i d hns hna hu
  obtain ⟨v,hc,hk⟩:=ve _ _ h
  refine ⟨v,hk,fun w' hw=> ?_⟩
  have ha:(isAgg t).run P w'= .ok false w':=by
   simp only [isAgg,underlying,program,Sem.run_bind,Sem.run,Result.andThen,hu]
   cases d<;>simp_all
  have hc':=hw.cell hc
  simp only [loadVar,Sem.run_bind,ha,Result.andThen,load,Sem.run]
  simp [Sem.run,hc']
 ·exact h.elim
theorem pd {P:Program} {o:Oper} {a:Act} {w:World} {K:Act→Prop} (e:Sem Value) {ty:Ty} (he:execOp a.eval o=(do pure (.value (←e)))) (h:fixV P e ty w fun v=>K (a.put o.dst v)):o.quiet P a (Ahead w) K:=by
 obtain ⟨v,hr,hk⟩:=ve _ _ h
 exact j3 e v he hr hk
theorem mt {P:Program} {o:Oper} {a:Act} {w:World} {K:Act→Prop} (h:match pureRun P (execOp a.eval o) with|some (.value v)=>K (a.put o.dst v)|_=>False):o.quiet P a (Ahead w) K:=by
 split at h
 ·rename_i v hv
  refine ⟨v,fun w' _=> ?_,h⟩
  unfold Oper.quietAt
  rw [kg w' _ _ hv]
  exact ⟨rfl,rfl⟩
 ·exact h.elim
theorem Du {P:Program} {o:Oper} {a:Act} {w:World} {K:Act→Prop} (h:vcQOp P o a w K):o.quiet P a (Ahead w) K:=by
 unfold vcQOp at h
 split at h
 ·rename_i c x y ho
  split at h
  ·rename_i b hb
   refine j3 (pure (if b=true then a.eval x else a.eval y)) _ (by simp [execOp,ho,hb,asBool]) (fun w' _=>rfl) ?_
   cases b<;>exact h
  ·exact h.elim
 ·rename_i t x ho
  split at h
  ·rename_i p hp
   cases p with
   |none=>exact h.elim
   |some ad=>
    obtain ⟨v,hk,hr⟩:=Pa (show ldT P t ad w (fun v=>K (a.put o.dst v)) from h)
    exact j3 (loadVar t ad) v (by simp [execOp,ho,hp,Instr.loadAt,Instr.sureAddr]) hr hk
  ·exact h.elim
 ·rename_i x ho
  split at h
  ·rename_i p hp
   cases p with
   |none=>exact h.elim
   |some ad=>exact j3 (pure (.pointer (some ad))) _ (by simp [execOp,ho,hp]) (fun w' _=>rfl) h
  ·exact h.elim
 ·rename_i t x ix ho;exact pd _ (by simp [execOp,ho]) h
 ·rename_i t x ix ho;exact pd _ (by simp [execOp,ho]) h
 ·rename_i t x lo hi mx ho;exact pd _ (by simp [execOp,ho]) h
 ·rename_i t x y u ho
  split at h
  ·exact mt h
  ·exact pd _ (by simp [execOp,ho,eqGuard]) h
 ·rename_i t x y u ho
  split at h
  ·exact mt h
  ·exact pd _ (by simp [execOp,ho,eqGuard]) h
 ·rename_i t x y u ho
  split at h
  ·exact mt h
  ·exact pd _ (by simp [execOp,ho,eqGuard]) h
 ·rename_i t x y u ho
  split at h
  ·exact mt h
  ·exact pd _ (by simp [execOp,ho,eqGuard]) h
 ·rename_i f args ts ho
  split at h
  ·rename_i g first captured hf
   have hx:execOp a.eval o=callFunc g (first++args.map a.eval++captured):=by
    simp [execOp,ho,resolve,invoke,Deferred.ofValue,hf]
   split at h
   ·rename_i he
    obtain ⟨v,hc,hk⟩:=ve _ _ h
    refine ⟨v,fun w' hw=> ?_,hk⟩
    unfold Oper.quietAt
    rw [hx,mh he]
    exact ⟨rfl,Calls.mono (hc w' hw) fun e w'' ⟨h1,h2⟩=>⟨h1,hw.trans h2⟩⟩
   ·exact h.elim
  ·exact h.elim
 ·exact mt h
theorem Pj {P:Program} {ops:Array Oper} {w:World} {Q:Act→Prop} :∀(l:List Oper) (a:Act),vcQ P ops w Q l a→wpQuiet P ops (Ahead w) Q l a
 | [],_,h=>h
 |o::rest,a,h=>by
  have ih:=Pj (P:=P) (ops:=ops) (w:=w) (Q:=Q) rest
  have hK:∀a,vcQOp P o a w (vcQ P ops w Q rest)→o.quiet P a (Ahead w) (wpQuiet P ops (Ahead w) Q rest):=fun a h=>
   Oper.quiet_mono ih (Du h)
  unfold wpQuiet
  rw [vcQ] at h
  have hskip:∀a:Act,Region.wanted o (yielded ops a.tmps)=false→vcQ P ops w Q rest (a.put o.dst undef)→(if Region.wanted o (yielded ops a.tmps) then o.quiet P a (Ahead w) (wpQuiet P ops (Ahead w) Q rest) else wpQuiet P ops (Ahead w) Q rest (a.put o.dst undef)):=by
   intro a hw h
   rw [if_neg (by simp [hw])]
   exact ih _ h
  split at h
  ·rename_i hg
   rw [if_pos (by simp [Region.wanted,hg])]
   exact hK _ h
  ·rename_i j want hg
   split at h
   ·rename_i d hd
    split at h
    ·rename_i b hb
     have hy:yielded ops a.tmps j=some b:=by simp [yielded,hd,hb]
     have hwant:Region.wanted o (yielded ops a.tmps)=(b==want):=by simp [Region.wanted,hg,hy]
     cases b
     ·rw [br,ue hb] at h
      cases want
      ·rw [if_pos (by simp [hwant])]
       exact hK _ h
      ·exact hskip a (by simp [hwant]) h
     ·rw [br,ue hb] at h
      cases want
      ·exact hskip a (by simp [hwant]) h
      ·rw [if_pos (by simp [hwant])]
       exact hK _ h
    ·rename_i hb
     refine hskip a ?_ h
     have hy:yielded ops a.tmps j=none:=by
      simp only [yielded,hd,Option.bind_some]
      all_goals
       generalize a.tmps[d]? =v at hb
       cases v with
       |none=>rfl
       |some v=>cases v<;>first|rfl|exact absurd rfl (hb _)
     simp [Region.wanted,hg,hy]
   ·rename_i hd
    refine hskip a ?_ h
    have hy:yielded ops a.tmps j=none:=by simp [yielded,hd]
    simp [Region.wanted,hg,hy]
def isCall:Op→Bool
 | .call {callee:= .value _, .. }=>true
 |_=>false
theorem Zm {P:Program} {o:Oper} {a:Act} {w:World} {K:Act→Prop} (hn:isCall o.op=false) (h:vcQOp P o a w K):∃v,(∀w',Ahead w w'→(execOp a.eval o).run P w'= .ok (.value v) w')∧K (a.put o.dst v):=by
 have val:∀(e:Sem Value) (v:Value),execOp a.eval o=(do pure (.value (←e)))→(∀w',Ahead w w'→e.run P w'= .ok v w')→K (a.put o.dst v)→
   ∃v,(∀w',Ahead w w'→(execOp a.eval o).run P w'= .ok (.value v) w')∧K (a.put o.dst v):=by
  intro e v he hr hk
  refine ⟨v,fun w' hw=> ?_,hk⟩
  rw [he]
  simp [Sem.run_bind,hr w' hw,Result.andThen]
 have fix:∀(e:Sem Value) (ty:Ty),execOp a.eval o=(do pure (.value (←e)))→fixV P e ty w (fun v=>K (a.put o.dst v))→
   ∃v,(∀w',Ahead w w'→(execOp a.eval o).run P w'= .ok (.value v) w')∧K (a.put o.dst v):=by
  intro e ty he h
  obtain ⟨v,hr,hk⟩:=ve _ _ h
  exact val e v he hr hk
 have pur:(match pureRun P (execOp a.eval o) with
   |some (.value v)=>K (a.put o.dst v)
   |_=>False)→∃v,(∀w',Ahead w w'→(execOp a.eval o).run P w'= .ok (.value v) w')∧K (a.put o.dst v):=by
  intro h
  split at h
  ·rename_i v hv
   exact ⟨v,fun w' _=>kg w' _ _ hv,h⟩
  ·exact h.elim
 unfold vcQOp at h
 split at h
 ·rename_i c x y ho
  split at h
  ·rename_i b hb
   refine val (pure (if b=true then a.eval x else a.eval y)) _ (by simp [execOp,ho,hb,asBool]) (fun w' _=>rfl) ?_
   cases b<;>exact h
  ·exact h.elim
 ·rename_i t x ho
  split at h
  ·rename_i p hp
   cases p with
   |none=>exact h.elim
   |some ad=>
    obtain ⟨v,hk,hr⟩:=Pa (show ldT P t ad w (fun v=>K (a.put o.dst v)) from h)
    exact val (loadVar t ad) v (by simp [execOp,ho,hp,Instr.loadAt,Instr.sureAddr]) hr hk
  ·exact h.elim
 ·rename_i x ho
  split at h
  ·rename_i p hp
   cases p with
   |none=>exact h.elim
   |some ad=>exact val (pure (.pointer (some ad))) _ (by simp [execOp,ho,hp]) (fun w' _=>rfl) h
  ·exact h.elim
 ·rename_i t x ix ho;exact fix _ _ (by simp [execOp,ho]) h
 ·rename_i t x ix ho;exact fix _ _ (by simp [execOp,ho]) h
 ·rename_i t x lo hi mx ho;exact fix _ _ (by simp [execOp,ho]) h
 ·rename_i t x y u ho
  split at h
  ·exact pur h
  ·exact fix _ _ (by simp [execOp,ho,eqGuard]) h
 ·rename_i t x y u ho
  split at h
  ·exact pur h
  ·exact fix _ _ (by simp [execOp,ho,eqGuard]) h
 ·rename_i t x y u ho
  split at h
  ·exact pur h
  ·exact fix _ _ (by simp [execOp,ho,eqGuard]) h
 ·rename_i t x y u ho
  split at h
  ·exact pur h
  ·exact fix _ _ (by simp [execOp,ho,eqGuard]) h
 ·rename_i f args ts ho
  rw [ho] at hn
  cases hn
 ·exact pur h
theorem Pk {P:Program} {ops:Array Oper} {w:World} {Q:Act→Prop} :∀(l:List Oper) (a:Act),l.all (fun o=> !isCall o.op)=true→vcQ P ops w Q l a→wpStill P ops w.drew Q l a
 | [],_,_,h=>h
 |o::rest,a,hl,h=>by
  simp only [List.all_cons,Bool.and_eq_true,Bool.not_eq_true'] at hl
  have ih:=fun a=>Pk (P:=P) (ops:=ops) (w:=w) (Q:=Q) rest a hl.2
  have hK:∀a,vcQOp P o a w (vcQ P ops w Q rest)→o.still P a w.drew (wpStill P ops w.drew Q rest):=fun a h=>by
   obtain ⟨v,hr,hk⟩:=Zm hl.1 h
   unfold Oper.still
   rw [hr w.drew (show Below _ _ _ from (Below.refl _ w).drew)]
   exact ⟨rfl,ih _ hk⟩
  unfold wpStill
  rw [vcQ] at h
  have hskip:∀a:Act,Region.wanted o (yielded ops a.tmps)=false→vcQ P ops w Q rest (a.put o.dst undef)→(if Region.wanted o (yielded ops a.tmps) then o.still P a w.drew (wpStill P ops w.drew Q rest) else wpStill P ops w.drew Q rest (a.put o.dst undef)):=by
   intro a hw h
   rw [if_neg (by simp [hw])]
   exact ih _ h
  split at h
  ·rename_i hg
   rw [if_pos (by simp [Region.wanted,hg])]
   exact hK _ h
  ·rename_i j want hg
   split at h
   ·rename_i d hd
    split at h
    ·rename_i b hb
     have hy:yielded ops a.tmps j=some b:=by simp [yielded,hd,hb]
     have hwant:Region.wanted o (yielded ops a.tmps)=(b==want):=by simp [Region.wanted,hg,hy]
     cases b
     ·rw [br,ue hb] at h
      cases want
      ·rw [if_pos (by simp [hwant])]
       exact hK _ h
      ·exact hskip a (by simp [hwant]) h
     ·rw [br,ue hb] at h
      cases want
      ·exact hskip a (by simp [hwant]) h
      ·rw [if_pos (by simp [hwant])]
       exact hK _ h
    ·rename_i hb
     refine hskip a ?_ h
     have hy:yielded ops a.tmps j=none:=by
      simp only [yielded,hd,Option.bind_some]
      all_goals
       generalize a.tmps[d]? =v at hb
       cases v with
       |none=>rfl
       |some v=>cases v<;>first|rfl|exact absurd rfl (hb _)
     simp [Region.wanted,hg,hy]
   ·rename_i hd
    refine hskip a ?_ h
    have hy:yielded ops a.tmps j=none:=by simp [yielded,hd]
    simp [Region.wanted,hg,hy]
theorem Gi {P:Program} {id:Nat} {ops:Array Oper} {Q:Exit→Act→World→Prop} {a:Act} {w:World} (hm:P.follows .mixedOrders=true) (hB:Region.lexB .any ops=true) (h:vcQ P ops w (fun a'=>∀w',Ahead w w'→Q .normal a' w') ops.toList a):(Code.region id ops true).wp P Q a w:=
 wp_region_quiet (C:=Ahead w) hm hB (show Below _ _ _ from (Below.refl _ w).drew) (Pj _ _ h)
theorem F4 {P:Program} {id:Nat} {ops:Array Oper} {Q:Exit→Act→World→Prop} {a:Act} {w:World} (n:Nat) (hm:P.follows .mixedOrders=true) (hB:Region.lexTailB .any ops n=true) (hc:(ops.toList.take n).all (fun o=> !isCall o.op)=true) (h:vcQ P ops w (fun a'=>vcOps P ops Q (ops.toList.drop n) a' w.drew) (ops.toList.take n) a):(Code.region id ops true).wp P Q a w:=by
 have hl:ops=ops.toList.toArray:=by simp
 have:=Pk _ _ hc h
 rw [hl]
 refine wp_region_still_tail (P:=P) n hm (by simpa using hB) ?_
 have hmono:∀(l:List Oper) (a:Act) (Q Q':Act→Prop),(∀a,Q a→Q' a)→wpStill P ops w.drew Q l a→wpStill P ops w.drew Q' l a:=by
  intro l
  induction l with
  |nil=>intro a Q Q' hq h;exact hq _ h
  |cons o l ih=>
   intro a Q Q' hq h
   unfold wpStill at h⊢
   split at h
   ·rename_i hw;rw [if_pos hw];exact Oper.still_mono (fun a h=>ih a Q Q' hq h) h
   ·rename_i hw;rw [if_neg hw];exact ih _ Q Q' hq h
 exact hmono _ _ _ _ (fun a' h'=>nj _ _ _ h') (by simpa using this)
def isLoud:Op→Bool
 | .call {callee:= .value _, .. }=>true
 | .call {callee:= .builtin .append, .. }=>true
 | .call {callee:= .builtin .copy, .. }=>true
 | .alloc _=>true
 | .box .. =>true
 | .buildSlice .. =>true
 | .makeSlice .. =>true
 | .store .. =>true
 |_=>false
def wpAnyT (P:Program) (md:Region.Mode) (ops:Array Oper) (Q:Exit→Act→World→Prop) (n:Nat) (C:Nat→World→World→Prop):Nat→Array Bool→Act→World→Prop
 |0,listed,a,w=>Region.ready md ops listed= []∧Q .normal a w
 |f+1,listed,a,w=>(Region.ready md ops listed= []→Q .normal a w)∧
  ∀i∈Region.ready md ops listed,wpOp P ops Q i (fun a' w'=>(i<n→C i w w')∧wpAnyT P md ops Q n C f (listed.setIfInBounds i true) a' w') a w
theorem dj {P:Program} {md:Region.Mode} {ops:Array Oper} {Q:Exit→Act→World→Prop} {n:Nat} {C:Nat→World→World→Prop} :∀(f:Nat) (listed:Array Bool) (a:Act) (w:World),wpAnyT P md ops Q n C f listed a w→wpAny P md ops Q f listed a w
 |0,_,_,_,h=>h
 |f+1,_,_,_,h=>⟨h.1,fun i hi=>wpOp_mono (fun a' w' h'=>dj f _ a' w' h'.2) (h.2 i hi)⟩
def WaitsT (md:Region.Mode) (ops:Array Oper) (n:Nat):Prop:=∀listed:Array Bool,HeadInv md ops n listed→∀i,i<n→listed.getD i true=false→∀t,n≤t→t∉Region.ready md ops listed
theorem Zp {P:Program} {md:Region.Mode} {ops:Array Oper} {Q:Exit→Act→World→Prop} {n:Nat} {C:Nat→World→World→Prop} {S:World→Prop} {i:Nat} {oi:Oper} {v:Value} (hi:ops[i]? =some oi) (hin:i<n) (hsel:∀(j:Nat) (o:Oper) cs b,ops[j]? =some o→o.op≠ .select cs b) (hQ:∀c a w,¬Q (.panic c) a w) (hT:WaitsT md ops n) (hC:∀w,C i w w) (hkeep:∀listed,HeadInv md ops n listed→listed.getD i true=false→∀j∈Region.ready md ops listed,∀w w',C j w w'→S w→S w'):∀(f:Nat) (listed:Array Bool) (a:Act) (w:World),HeadInv md ops n listed→(∀j oj,ops[j]? =some oj→j≠i→listed.getD j true=false→(∀e∈oj.after,Region.binds md e=true→e.on≠i)→oi.apart ops oj=true)→i∈Region.ready md ops listed→YieldsIf P ops S oi v a→S w→wpAnyT P md ops Q n C f (listed.setIfInBounds i true) (a.put oi.dst v) w→wpAnyT P md ops Q n C (f+1) listed a w:=by
 intro f
 induction f with
 |zero=>
  intro listed a w inv _ hr hy hS H
  refine ⟨fun h=>absurd (h▸hr) (by simp),fun j hj=> ?_⟩
  by_cases hji:j=i
  ·subst hji;exact hy.wpOp hi hS ⟨fun _=>hC w,H⟩
  ·exact absurd (H.1▸ready_mono hj hji) (by simp)
 |succ f ih=>
  intro listed a w inv hfree hr hy hS H
  refine ⟨fun h=>absurd (h▸hr) (by simp),fun j hj=> ?_⟩
  by_cases hji:j=i
  ·subst hji;exact hy.wpOp hi hS ⟨fun _=>hC w,H⟩
  have hun:=(mem_ready.1 hr).1
  have hjn:j<n:=by
   rcases Nat.lt_or_ge j n with h|h
   ·exact h
   ·exact absurd hj (hT listed inv i hin hun j h)
  obtain ⟨hjun,oj,hoj,hall⟩:=mem_ready.1 hj
  have hnot:∀e∈oj.after,Region.binds md e=true→e.on≠i:=fun e he hb heq=>by
   have h1:=hall e he hb
   rw [heq,getD_both hun] at h1
   cases h1
  have hfree':∀k ok,ops[k]? =some ok→k≠i→(listed.setIfInBounds j true).getD k true=false→
    (∀e∈ok.after,Region.binds md e=true→e.on≠i)→oi.apart ops ok=true:=fun k ok hk hki hu hno=>by
   refine hfree k ok hk hki ?_ hno
   by_cases hjk:j=k
   ·subst hjk;exact hjun
   ·rwa [getD_set_ne true hjk] at hu
  have h2:=wpOp_putIf hoj (hfree j oj hoj hji hjun hnot) (fun cs b=>hsel i oi cs b hi) (fun cs b=>hsel j oj cs b hoj) (fun c a w h=>absurd h (hQ c _ w)) hy (H.2 j (ready_mono hj hji))
  refine wpOp_mono (fun a' w' h3=>⟨h3.2.1,ih _ a' w' (inv.set hj hjn) hfree' (ready_mono hr (Ne.symm hji)) h3.1 (hkeep listed inv hun j hj w w' (h3.2.1 hjn) hS) ?_⟩) h2
  rw [Array.setIfInBounds_comm _ _ hji]
  exact h3.2.2
theorem ja {P:Program} {md:Region.Mode} {ops:Array Oper} {Q:Exit→Act→World→Prop} {n:Nat} {S:Nat→World→World→Prop} :∀(l:List Oper) (k:Nat) (listed:Array Bool) (a:Act) (w:World),n≤k→(∀j,l[j]? =ops[k+j]?)→Region.seqB md ops l.length k listed=true→wpList P ops Q l a w→wpAnyT P md ops Q n S l.length listed a w
 | [],_,_,_,_,_,_,hB,h=>⟨by simpa [Region.seqB] using hB,h⟩
 |o::l,k,listed,a,w,hk,hl,hB,h=>by
  have h0:ops[k]? =some o:=by simpa using (hl 0).symm
  simp only [List.length_cons,Region.seqB,Bool.and_eq_true,decide_eq_true_eq] at hB
  refine ⟨fun h1=>absurd (h1▸hB.1) (by simp),fun i hi=> ?_⟩
  obtain rfl:i=k:=by rw [hB.1] at hi;simpa using hi
  have hw:wpOp P ops Q i (wpList P ops Q l) a w:=by unfold wpOp;simp only [h0];exact h
  exact wpOp_mono (fun a' w' h'=>⟨fun hn=>absurd hn (by omega),ja l (i+1) _ a' w' (by omega) (fun j=>by have:=hl (j+1);simpa [Nat.add_assoc,Nat.add_comm 1 j] using this) hB.2 h'⟩) hw
def vcG (ops:Array Oper) (o:Oper) (run skip:Act→Prop) (a:Act):Prop:=match o.guard with
 |none=>run a
 |some (j,want)=>match (ops[j]?).bind (·.dst) with
  |some d=>match a.tmps[d]? with
   |some (.bool b)=>br b
     (isWant want true (run (a.put (some d) (.bool true))) (skip ((a.put (some d) (.bool true)).put o.dst undef)))
     (isWant want false (run (a.put (some d) (.bool false))) (skip ((a.put (some d) (.bool false)).put o.dst undef)))
   |_=>skip (a.put o.dst undef)
  |none=>skip (a.put o.dst undef)
theorem C9 {ops:Array Oper} {o:Oper} {run skip:Act→Prop} {a:Act} (h:vcG ops o run skip a):(Region.wanted o (yielded ops a.tmps)=true∧run a)∨(Region.wanted o (yielded ops a.tmps)=false∧skip (a.put o.dst undef)):=by
 unfold vcG at h
 split at h
 ·rename_i hg
  exact .inl ⟨by simp [Region.wanted,hg],h⟩
 ·rename_i j want hg
  split at h
  ·rename_i d hd
   split at h
   ·rename_i b hb
    have hy:yielded ops a.tmps j=some b:=by simp [yielded,hd,hb]
    have hwant:Region.wanted o (yielded ops a.tmps)=(b==want):=by simp [Region.wanted,hg,hy]
    cases b
    ·rw [br,ue hb] at h
     cases want
     ·exact .inl ⟨by simp [hwant],h⟩
     ·exact .inr ⟨by simp [hwant],h⟩
    ·rw [br,ue hb] at h
     cases want
     ·exact .inr ⟨by simp [hwant],h⟩
     ·exact .inl ⟨by simp [hwant],h⟩
   ·rename_i hb
    refine .inr ⟨?_,h⟩
    have hy:yielded ops a.tmps j=none:=by
     simp only [yielded,hd,Option.bind_some]
     all_goals
      generalize a.tmps[d]? =v at hb
      cases v with
      |none=>rfl
      |some v=>cases v<;>first|rfl|exact absurd rfl (hb _)
    simp [Region.wanted,hg,hy]
  ·rename_i hd
   refine .inr ⟨?_,h⟩
   have hy:yielded ops a.tmps j=none:=by simp [yielded,hd]
   simp [Region.wanted,hg,hy]
structure Bar (V:Nat→Prop) (w w':World):Prop where
  os:w'.os=w.os
  tape:w'.tape=w.tape
  output:w'.output=w.output
  size:w.heap.size≤w'.heap.size
  block:∀k,k<w.heap.size→¬V k→w'.heap[k]? =w.heap[k]?
theorem Bar.refl (V:Nat→Prop) (w:World):Bar V w w:=⟨rfl,rfl,rfl,Nat.le_refl _,fun _ _ _=>rfl⟩
theorem Bar.trans {V:Nat→Prop} {a b c} (h:Bar V a b) (k:Bar V b c):Bar V a c:=
 ⟨k.os.trans h.os,k.tape.trans h.tape,k.output.trans h.output,Nat.le_trans h.size k.size,fun i hi hv=>(k.block i (Nat.lt_of_lt_of_le hi h.size) hv).trans (h.block i hi hv)⟩
theorem Bar.of_ahead {V:Nat→Prop} {a b} (h:Ahead a b):Bar V a b:=⟨h.os,h.tape,h.output,h.size,fun k hk _=>Below.block h k hk⟩
theorem Bar.cell {V:Nat→Prop} {w w'} (h:Bar V w w') {ad:Addr} {v:Value} (hv:¬V ad.block) (hc:w.cell? ad=some v):w'.cell? ad=some v:=by
 have hb:ad.block<w.heap.size:=by
  unfold World.cell? at hc
  split at hc
  ·rename_i hh;exact (Array.getElem?_eq_some_iff.1 hh).1
  ·cases hc
 rw [World.cell?_of_block (h.block _ hb hv)];exact hc
def Out (V:Nat→Prop) (ad:Addr) (p:Prop):Prop:=¬V ad.block∧p
theorem ki (ad:Addr) (i:Nat):(ad.add i).block=ad.block:=by
 unfold Addr.add;split<;>rfl
theorem Ht {P:Program} {ad:Addr} {w:World} {G:World→Prop} (hG:∀w',G w'→∀(ad':Addr) v,ad'.block=ad.block→w.cell? ad'=some v→w'.cell? ad'=some v):∀(ts:List Ty) (i:Nat) (k:List Value→Prop),ldL ad w i ts k→∃vs,k vs∧∀(acc:Array Value) (w':World),G w'→(loadCellsFrom ad i ts.length acc).run P w'= .ok (acc++vs.toArray) w'
 | [],i,k,h=>⟨[],h,by simp [loadCellsFrom]⟩
 |t::ts,i,k,h=>by
  rw [ldL] at h
  obtain ⟨v,hc,h⟩:=ve _ _ h
  obtain ⟨vs,hk,hr⟩:=Ht (P:=P) hG ts (i+1) _ h
  refine ⟨v::vs,hk,fun acc w' hw=> ?_⟩
  simp only [List.length_cons,loadCellsFrom,Sem.run_bind,load,Sem.run,hG w' hw _ _ (ki _ _) hc,Result.andThen,hr _ w' hw]
  simp
theorem zdf {P:Program} {t:TypeId} {ad:Addr} {w:World} {k:Value→Prop} {G:World→Prop} (hG:∀w',G w'→∀(ad':Addr) v,ad'.block=ad.block→w.cell? ad'=some v→w'.cell? ad'=some v) (h:ldT P t ad w k):∃v,k v∧∀w',G w'→(loadVar t ad).run P w'= .ok v w':=by
 unfold ldT at h
 have agg:∀ts:List Ty,(P.info? t).map (·.size)=some ts.length→ldL ad w 0 ts (fun vs=>k (.agg vs.toArray))→(∀w',(isAgg t).run P w'= .ok true w')→
   ∃v,k v∧∀w',G w'→(loadVar t ad).run P w'= .ok v w':=by
  intro ts hs hl ha
  obtain ⟨vs,hk,hr⟩:=Ht (P:=P) hG ts 0 _ hl
  refine ⟨_,hk,fun w' hw=> ?_⟩
  obtain ⟨inf,hi,hsz⟩:=Option.map_eq_some_iff.1 hs
  have hsize:(sizeOf t).run P w'= .ok ts.length w':=by
   simp [sizeOf,typeInfo,program,Sem.run,hi,hsz]
  simp only [loadVar,Sem.run_bind,ha,Result.andThen,if_true,hsize,loadCells,hr _ w' hw,Sem.run_pure]
  simp
 split at h
 ·rename_i fs hu
  split at h
  ·split at h
   ·rename_i hb;exact agg _ (by simpa using hb) h (fun w'=>by simp [isAgg,underlying,program,Sem.run,hu])
   ·exact h.elim
  ·exact h.elim
 ·rename_i n e hu
  split at h
  ·split at h
   ·rename_i hb;exact agg _ (by simpa using hb) h (fun w'=>by simp [isAgg,underlying,program,Sem.run,hu])
   ·exact h.elim
  ·exact h.elim
 ·rename_i d hns hna hu
  obtain ⟨v,hc,hk⟩:=ve _ _ h
  refine ⟨v,hk,fun w' hw=> ?_⟩
  have ha:(isAgg t).run P w'= .ok false w':=by
   simp only [isAgg,underlying,program,Sem.run_bind,Sem.run,Result.andThen,hu]
   cases d<;>simp_all
  have hc':=hG w' hw ad v rfl hc
  simp only [loadVar,Sem.run_bind,ha,Result.andThen,load,Sem.run]
  simp [Sem.run,hc']
 ·exact h.elim
def vcVOp (P:Program) (V:Nat→Prop) (o:Oper) (a:Act) (w:World) (K:Act→Prop):Prop:=
 match o.op with
 | .pick c x y=>match a.eval c with
  | .bool b=>br b (K (a.put o.dst (a.eval x))) (K (a.put o.dst (a.eval y)))
  |_=>False
 | .load t x=>match a.eval x with
  | .pointer p=>onSome p fun ad=>Out V ad (ldT P t ad w fun v=>K (a.put o.dst v))
  |_=>False
 | .nilCheck x=>match a.eval x with
  | .pointer p=>onSome p fun ad=>K (a.put o.dst (.pointer (some ad)))
  |_=>False
 | .indexAddr t x ix=>anyV P (Instr.indexAt t (a.eval x) (a.eval ix)) .pa fun v=>K (a.put o.dst v)
 | .slice t x lo hi mx=>anyV P (Instr.sliceAt t (a.eval x) (lo.map a.eval) (hi.map a.eval) (mx.map a.eval)) .sl fun v=>K (a.put o.dst v)
 | .index .. =>False
 |_=>match pureRun P (execOp a.eval o) with
  |some (.value v)=>K (a.put o.dst v)
  |_=>False
theorem Pn {P:Program} {V:Nat→Prop} {o:Oper} {a:Act} {w:World} {K:Act→Prop} (h:vcVOp P V o a w K):∃v,(∀w',Bar V w w'→(execOp a.eval o).run P w'= .ok (.value v) w')∧K (a.put o.dst v):=by
 have val:∀(e:Sem Value) (v:Value),execOp a.eval o=(do pure (.value (←e)))→(∀w',Bar V w w'→e.run P w'= .ok v w')→K (a.put o.dst v)→
   ∃v,(∀w',Bar V w w'→(execOp a.eval o).run P w'= .ok (.value v) w')∧K (a.put o.dst v):=by
  intro e v he hr hk
  refine ⟨v,fun w' hw=> ?_,hk⟩
  rw [he]
  simp [Sem.run_bind,hr w' hw,Result.andThen]
 unfold vcVOp at h
 split at h
 ·rename_i c x y ho
  split at h
  ·rename_i b hb
   refine val (pure (if b=true then a.eval x else a.eval y)) _ (by simp [execOp,ho,hb,asBool]) (fun w' _=>rfl) ?_
   cases b<;>exact h
  ·exact h.elim
 ·rename_i t x ho
  split at h
  ·rename_i p hp
   cases p with
   |none=>exact h.elim
   |some ad=>
    obtain ⟨hv,hl⟩:=(show Out V ad (ldT P t ad w (fun v=>K (a.put o.dst v))) from h)
    obtain ⟨v,hk,hr⟩:=zdf (G:=Bar V w) (fun w' hw ad' v hb hc=>hw.cell (by rw [hb];exact hv) hc) hl
    exact val (loadVar t ad) v (by simp [execOp,ho,hp,Instr.loadAt,Instr.sureAddr]) hr hk
  ·exact h.elim
 ·rename_i x ho
  split at h
  ·rename_i p hp
   cases p with
   |none=>exact h.elim
   |some ad=>exact val (pure (.pointer (some ad))) _ (by simp [execOp,ho,hp]) (fun w' _=>rfl) h
  ·exact h.elim
 ·rename_i t x ix ho
  obtain ⟨v,hr,hk⟩:=ve _ _ h
  exact val (Instr.indexAt t (a.eval x) (a.eval ix)) v (by simp [execOp,ho]) (fun w' _=>hr w') hk
 ·rename_i t x lo hi mx ho
  obtain ⟨v,hr,hk⟩:=ve _ _ h
  exact val (Instr.sliceAt t (a.eval x) (lo.map a.eval) (hi.map a.eval) (mx.map a.eval)) v (by simp [execOp,ho]) (fun w' _=>hr w') hk
 ·exact h.elim
 ·split at h
  ·rename_i v hv
   exact ⟨v,fun w' _=>kg w' _ _ hv,h⟩
  ·exact h.elim
def waitsOf (o:Oper):List Nat:=o.after.toList.filterMap fun e=>match Region.binds .any e with
 |true=>some e.on
 |false=>none
def hasN (l:List Nat) (i:Nat):Bool:=match l with
 | []=>false
 |j::l=>match Nat.beq j i with
  |true=>true
  |false=>hasN l i
def readyN (rem:List Nat) (ws:List Nat):Bool:=match ws with
 | []=>true
 |j::ws=>match hasN rem j with
  |true=>false
  |false=>readyN rem ws
def pickN (its:List (Nat×Bool×List Nat)) (rem:List Nat):Option Nat:=match its with
 | []=>none
 |(i,l,ws)::its=>match !l&&hasN rem i&&readyN rem ws with
  |true=>some i
  |false=>pickN its rem
def loudN (its:List (Nat×Bool×List Nat)) (rem:List Nat):List Nat:=match its with
 | []=> []
 |(i,l,ws)::its=>match l&&hasN rem i&&readyN rem ws with
  |true=>i::loudN its rem
  |false=>loudN its rem
def dropN (l:List Nat) (i:Nat):List Nat:=match l with
 | []=> []
 |j::l=>match Nat.beq j i with
  |true=>l
  |false=>j::dropN l i
def itemsOf:Nat→List Oper→List (Nat×Bool×List Nat)
 |_, []=> []
 |k,o::l=>(k,isLoud o.op,waitsOf o)::itemsOf (k+1) l
def forkN (l:List Nat) (K:Nat→Prop):Prop:=match l with
 | []=>False
 |i::l=>match l with
  | []=>K i
  |_::_=>K i∧forkN l K
theorem Q4 {K:Nat→Prop} :∀{l:List Nat},forkN l K→∀i∈l,K i
 | [],h,_,_=>h.elim
 | [i],h,j,hj=>by
  have:j=i:=by simpa using hj
  subst this;exact h
 |i::k::l,h,j,hj=>by
  obtain ⟨h1,h2⟩:=h
  rcases List.mem_cons.1 hj with rfl|hj
  ·exact h1
  ·exact Q4 h2 j hj
def needK (G:Nat→World→World→Prop) (w w':World) (p:Prop):List Nat→Prop
 | []=>p
 |q::l=>G q w w'∧needK G w w' p l
theorem jy {G:Nat→World→World→Prop} {w w':World} {p:Prop} :∀{l:List Nat},needK G w w' p l→(∀q∈l,G q w w')∧p
 | [],h=>⟨fun q hq=>(by cases hq),h⟩
 |q::l,h=>by
  refine ⟨fun q' hq=> ?_,(jy h.2).2⟩
  rcases List.mem_cons.1 hq with rfl|hq
  ·exact h.1
  ·exact (jy h.2).1 q' hq
def vcT (P:Program) (G:Nat→World→World→Prop) (need:Nat→List Nat) (Lq:Nat→Oper→Act→World→(Act→Prop)→Prop) (ops:Array Oper) (its:List (Nat×Bool×List Nat)) (Q:Act→World→Prop):Nat→List Nat→Act→World→Prop
 |0,_,a,w=>Q a w
 |f+1,rem,a,w=>match pickN its rem with
  |some i=>match ops[i]? with
   |none=>False
   |some o=>vcG ops o (fun a=>Lq i o a w (fun a'=>vcT P G need Lq ops its Q f (dropN rem i) a' w)) (fun a=>vcT P G need Lq ops its Q f (dropN rem i) a w) a
  |none=>forkN (loudN its rem) fun i=>match ops[i]? with
   |none=>False
   |some o=>vcG ops o (fun a=>vcOp P o a (fun a' w'=>needK G w w' (vcT P G need Lq ops its Q f (dropN rem i) a' w') (need i)) w) (fun a=>vcT P G need Lq ops its Q f (dropN rem i) a w) a
def addN (l:List Nat) (i:Nat):List Nat:=match hasN l i with
 |true=>l
 |false=>i::l
def unionN (l:List Nat):List Nat→List Nat
 | []=>l
 |i::m=>unionN (addN l i) m
def nthN:List (List Nat)→Nat→List Nat
 | [],_=> []
 |x::_,0=>x
 |_::l,i+1=>nthN l i
def closE (acc:List (List Nat)):List Nat→List Nat
 | []=> []
 |i::ws=>unionN (addN (closE acc ws) i) (nthN acc i)
def closN:List Oper→List (List Nat)→List (List Nat)
 | [],acc=>acc
 |o::l,acc=>closN l (acc++ [closE acc (waitsOf o)])
def preOf (ops:Array Oper) (j q:Nat):Bool:=hasN (nthN (closN ops.toList []) j) q
def isLd:Op→Bool
 | .load .. =>true
 |_=>false
def memAt (ops:Array Oper) (q:Nat):Bool:=match ops[q]? with
 |some o=>isLd o.op
 |none=>false
def keepN (ops:Array Oper) (pre:List Nat):List Nat→List Nat
 | []=> []
 |q::l=>match memAt ops q&& !hasN pre q with
  |true=>q::keepN ops pre l
  |false=>keepN ops pre l
def needOf (ops:Array Oper) (j:Nat):List Nat:=keepN ops (nthN (closN ops.toList []) j) (List.range ops.size)
theorem Y0 {l:List Nat} {i:Nat} :hasN l i=true↔i∈l:=by
 induction l with
 |nil=>simp [hasN]
 |cons j l ih=>
  unfold hasN
  cases hb:Nat.beq j i with
  |true=>have:=Nat.eq_of_beq_eq_true hb;subst this;simp
  |false=>
   have hne:¬i=j:=fun e=>by subst e;rw [Nat.beq_refl] at hb;cases hb
   simp [ih,hne]
theorem Hc {l:List Nat} {i q:Nat} (h:q∈addN l i):q=i∨q∈l:=by
 unfold addN at h
 split at h
 ·exact .inr h
 ·exact List.mem_cons.1 h
theorem Te:∀ {m l:List Nat} {q:Nat} ,q∈unionN l m→q∈l∨q∈m
 | [],_,_,h=> .inl h
 |i::m,l,q,h=>by
  rcases Te (m:=m) h with h|h
  ·rcases Hc h with rfl|h
   ·exact .inr (by simp)
   ·exact .inl h
  ·exact .inr (by simp [h])
theorem Q3 {acc:List (List Nat)} :∀{ws:List Nat} {q:Nat},q∈closE acc ws→∃i∈ws,q=i∨q∈nthN acc i
 | [],_,h=>by cases h
 |i::ws,q,h=>by
  rcases Te h with h|h
  ·rcases Hc h with rfl|h
   ·exact ⟨q,by simp, .inl rfl⟩
   ·obtain ⟨k,hk,hq⟩:=Q3 h
    exact ⟨k,by simp [hk],hq⟩
  ·exact ⟨i,by simp, .inr h⟩
theorem F3 {l:List (List Nat)} {x:List Nat} {j:Nat} :nthN (l++ [x]) j=if j<l.length then nthN l j else if j=l.length then x else []:=by
 induction l generalizing j with
 |nil=>cases j<;>simp [nthN]
 |cons y l ih=>
  cases j with
  |zero=>simp [nthN]
  |succ j=>simp [nthN,ih]
theorem Dw {o:Oper} {i:Nat} (h:i∈waitsOf o):∃e∈o.after,Region.binds .any e=true∧e.on=i:=by
 unfold waitsOf at h
 rw [List.mem_filterMap] at h
 obtain ⟨e,he,hb⟩:=h
 split at hb
 ·rename_i h1
  exact ⟨e,by simpa using he,h1,Option.some.inj hb⟩
 ·cases hb
def Met (ops:Array Oper) (listed:Array Bool) (j:Nat):Prop:=∀o,ops[j]? =some o→∀e∈o.after,Region.binds .any e=true→listed.getD e.on false=true
theorem V7 {ops:Array Oper} {n:Nat} {listed:Array Bool} (inv:HeadInv .any ops n listed):∀(l:List Oper) (acc:List (List Nat)),(∀k,l[k]? =ops[acc.length+k]?)→(∀j q,q∈nthN acc j→Met ops listed j→listed.getD q false=true)→∀j q,q∈nthN (closN l acc) j→Met ops listed j→listed.getD q false=true
 | [],acc,_,h=>h
 |o::l,acc,hl,h=>by
  refine V7 inv l _ (fun k=> ?_) (fun j q hq hm=> ?_)
  ·have:=hl (k+1)
   simp only [List.getElem?_cons_succ] at this
   rw [this,List.length_append,List.length_singleton]
   congr 1;omega
  ·rw [F3] at hq
   split at hq
   ·exact h j q hq hm
   ·split at hq
    ·rename_i h1 h2
     subst h2
     have ho:ops[acc.length]? =some o:=by simpa using (hl 0).symm
     obtain ⟨i,hi,hqi⟩:=Q3 hq
     obtain ⟨e,he,hb,rfl⟩:=Dw hi
     have hle:=hm o ho e he hb
     rcases hqi with rfl|hqi
     ·exact hle
     ·refine h _ q hqi fun o' ho' e' he' hb'=> ?_
      exact inv.closed _ o' ho' hle e' he' hb'
    ·cases hq
theorem H9 {ops:Array Oper} {n:Nat} {listed:Array Bool} (inv:HeadInv .any ops n listed) {j q:Nat} (hj:j∈Region.ready .any ops listed) (hq:listed.getD q true=false):preOf ops j q=false:=by
 cases hp:preOf ops j q with
 |false=>rfl
 |true=>
  obtain ⟨_,o,ho,hall⟩:=mem_ready.1 hj
  have:=V7 inv ops.toList [] (fun k=>by simp) (fun j q hq=>by cases hq) j q (Y0.1 hp) (fun o' ho' e he hb=>by
   rw [ho] at ho';obtain rfl:=Option.some.inj ho'
   exact hall e he hb)
  rw [getD_both hq] at this
  cases this
theorem zav {ops:Array Oper} {j q:Nat} (hm:memAt ops q=true) (hp:preOf ops j q=false):q∈needOf ops j:=by
 have hlt:q<ops.size:=by
  unfold memAt at hm
  split at hm
  ·rename_i o ho;exact (Array.getElem?_eq_some_iff.1 ho).1
  ·cases hm
 have key:∀l:List Nat,q∈l→q∈keepN ops (nthN (closN ops.toList []) j) l:=by
  intro l
  induction l with
  |nil=>intro h;cases h
  |cons k l ih=>
   intro h
   unfold keepN
   rcases List.mem_cons.1 h with rfl|h
   ·have hp':hasN (nthN (closN ops.toList []) j) q=false:=hp
    rw [hm,hp']
    simp
   ·split
    ·exact List.mem_cons_of_mem _ (ih h)
    ·exact ih h
 exact key _ (by simpa using hlt)
def heldT (md:Region.Mode) (ops:Array Oper) (n:Nat) (its:List (Nat×Bool×List Nat)):Nat→List Nat→Array Bool→Bool
 |0,_,listed=>Region.seqB md ops (ops.size -n) n listed
 |f+1,rem,listed=>match pickN its rem with
  |some i=>Nat.blt i n&&(match ops[i]? with
   |none=>false
   |some o=> !isLoud o.op&&((Region.ready md ops listed).contains i&&Region.free md ops listed i))&&heldT md ops n its f (dropN rem i) (listed.setIfInBounds i true)
  |none=> !(loudN its rem).isEmpty&&decide (Region.ready md ops listed=loudN its rem)&&(loudN its rem).all fun i=>Nat.blt i n&&(match ops[i]? with
   |none=>false
   |some o=>isLoud o.op)&&heldT md ops n its f (dropN rem i) (listed.setIfInBounds i true)
theorem Ui {o:Op} (h:isLoud o=false):isCall o=false:=by
 cases hc:isCall o with
 |false=>rfl
 |true=>
  unfold isCall at hc
  split at hc
  ·simp [isLoud] at h
  ·cases hc
def loudAt (ops:Array Oper) (j:Nat):Bool:=match ops[j]? with
 |some o=>isLoud o.op
 |none=>false
def StepT (ops:Array Oper) (G:Nat→World→World→Prop) (j:Nat) (w w':World):Prop:=
 (loudAt ops j=true→∀q,preOf ops j q=false→G q w w')∧(loudAt ops j=false→w'=w)
theorem Zn {P:Program} {ops:Array Oper} {Q:Exit→Act→World→Prop} {n:Nat} {its:List (Nat×Bool×List Nat)} {G GV:Nat→World→World→Prop} {need:Nat→List Nat} {Lq:Nat→Oper→Act→World→(Act→Prop)→Prop} (gr:∀q w,G q w w) (gt:∀{q a b c},G q a b→G q b c→G q a c) (hL:∀{i o a w K},ops[i]? =some o→isLoud o.op=false→Lq i o a w K→∃v,(∀w',G i w w'→(execOp a.eval o).run P w'= .ok (.value v) w')∧K (a.put o.dst v)) (hneed:∀j w w',(∀q∈need j,GV q w w')→∀q,preOf ops j q=false→G q w w') (hn:n≤ops.size) (hsel:Region.noSelect ops=true) (hQ:∀c a w,¬Q (.panic c) a w) (hT:WaitsT .any ops n):∀(f:Nat) (rem:List Nat) (listed:Array Bool) (a:Act) (w:World),HeadInv .any ops n listed→heldT .any ops n its f rem listed=true→vcT P GV need Lq ops its (fun a' w'=>vcOps P ops Q (ops.toList.drop n) a' w') f rem a w→wpAnyT P .any ops Q n (StepT ops G) (f+(ops.size -n)) listed a w
 |0,rem,listed,a,w,inv,hB,h=>by
  have hlen:(ops.toList.drop n).length=ops.size -n:=by simp
  have:=ja (md:= .any) (n:=n) (S:=StepT ops G) (ops.toList.drop n) n listed a w (Nat.le_refl _) (fun j=>by simp [List.getElem?_drop]) (by rw [hlen];exact hB) (nj _ _ _ h)
  rw [hlen] at this
  simpa using this
 |f+1,rem,listed,a,w,inv,hB,h=>by
  rw [show f+1+(ops.size -n)=(f+(ops.size -n))+1 by omega]
  rw [vcT] at h
  rw [heldT] at hB
  cases hp:pickN its rem with
  |some i=>
   rw [hp] at h hB
   simp only [Bool.and_eq_true] at h hB
   obtain ⟨⟨hin,hkind⟩,hB'⟩:=hB
   have hin':i<n:=by simpa [Nat.blt_eq] using hin
   cases ho:ops[i]? with
   |none=>rw [ho] at h;exact h.elim
   |some o=>
    rw [ho] at h hkind
    simp only [Bool.and_eq_true,Bool.not_eq_true'] at h hkind
    obtain ⟨hl,hmem,hfree⟩:=hkind
    have hmem:i∈Region.ready .any ops listed:=by simpa using hmem
    have hli:loudAt ops i=false:=by unfold loudAt;rw [ho];exact hl
    have ih:=fun a w h=>Zn (P:=P) gr gt hL hneed hn hsel hQ hT f (dropN rem i) (listed.setIfInBounds i true) a w (inv.set hmem hin') hB' h
    have fin:∀v,YieldsIf P ops (G i w) o v a→vcT P GV need Lq ops its (fun a' w'=>vcOps P ops Q (ops.toList.drop n) a' w') f (dropN rem i) (a.put o.dst v) w→_:=fun v hy h=>
     Zp (C:=StepT ops G) ho hin' (Region.noSelect_spec hsel) hQ hT (fun w=>⟨fun h=>(by rw [hli] at h;cases h),fun _=>rfl⟩)
      (fun listed' inv' hun j hj w1 w2 hc hs=>by
       cases hlj:loudAt ops j with
       |true=>exact gt hs (hc.1 hlj i (H9 inv' hj hun))
       |false=>rw [hc.2 hlj];exact hs) _ listed a w inv (Region.free_spec ho hfree) hmem hy (gr _ _) (ih _ _ h)
    rcases C9 h with ⟨hw,h⟩|⟨hw,h⟩
    ·obtain ⟨v,hv,hk⟩:=hL ho hl h
     exact fin v (.inl ⟨hw,hv⟩) hk
    ·exact fin undef (.inr ⟨hw,rfl⟩) h
  |none=>
   rw [hp] at h hB
   simp only [Bool.and_eq_true,decide_eq_true_eq] at h hB
   obtain ⟨⟨hne,hready⟩,hall⟩:=hB
   refine ⟨fun h0=> ?_,fun i hi=> ?_⟩
   ·rw [hready] at h0;rw [h0] at hne;simp at hne
   ·have hi':i∈loudN its rem:=by rw [←hready];exact hi
    have h1:=Q4 h i hi'
    have h2:=List.all_eq_true.1 hall i hi'
    simp only [Bool.and_eq_true] at h1 h2
    obtain ⟨⟨hin,hkind⟩,hB'⟩:=h2
    have hin':i<n:=by simpa [Nat.blt_eq] using hin
    cases ho:ops[i]? with
    |none=>rw [ho] at h1;exact h1.elim
    |some o=>
     rw [ho] at h1 hkind
     simp only at h1 hkind
     have hli:loudAt ops i=true:=by unfold loudAt;rw [ho];exact hkind
     have ih:=fun a w h=>Zn (P:=P) gr gt hL hneed hn hsel hQ hT f (dropN rem i) (listed.setIfInBounds i true) a w (inv.set hi hin') hB' h
     unfold wpOp
     simp only [ho]
     rcases C9 h1 with ⟨hw,h⟩|⟨hw,h⟩
     ·rw [if_pos hw]
      exact .inl (Oper.wp_mono (fun a' w' hh=>⟨fun _=>⟨fun _=>hneed i w w' (jy hh).1,fun h=>(by rw [hli] at h;cases h)⟩,ih a' w' (jy hh).2⟩) (ji h))
     ·rw [if_neg (by simp [hw])]
      exact ⟨fun _=>⟨fun _ q _=>gr q w,fun _=>rfl⟩,ih _ _ h⟩
def headN (ops:Array Oper):Nat:=match ops.toList.findIdx? fun o=>match o.op with
  | .store .. =>true
  |_=>false with
 |some n=>n
 |none=>ops.size
def planOf (ops:Array Oper):List (Nat×Bool×List Nat):=itemsOf 0 (ops.toList.take (headN ops))
def heldAllB (ops:Array Oper) (n:Nat) (its:List (Nat×Bool×List Nat)):Bool:=
 Region.noSelect ops&&(Nat.beq n ops.size||(Nat.blt n ops.size&&Region.sinkB .any ops n&&Region.chainB .any ops n))&&heldT .any ops n its n (List.range n) (Array.replicate ops.size false)
theorem j7 {P:Program} {id:Nat} {ops:Array Oper} {Q:Exit→Act→World→Prop} {a:Act} {w:World} (n:Nat) (its:List (Nat×Bool×List Nat)) {G GV:Nat→World→World→Prop} {need:Nat→List Nat} {Lq:Nat→Oper→Act→World→(Act→Prop)→Prop} (gr:∀q w,G q w w) (gt:∀{q a b c},G q a b→G q b c→G q a c) (hL:∀{i o a w K},ops[i]? =some o→isLoud o.op=false→Lq i o a w K→∃v,(∀w',G i w w'→(execOp a.eval o).run P w'= .ok (.value v) w')∧K (a.put o.dst v)) (hneed:∀j w w',(∀q∈need j,GV q w w')→∀q,preOf ops j q=false→G q w w') (hm:P.follows .mixedOrders=true) (hB:heldAllB ops n its=true) (h:vcT P GV need Lq ops its (fun a' w'=>vcOps P ops Q (ops.toList.drop n) a' w') n (List.range n) a w.drew):(Code.region id ops true).wp P Q a w:=by
 simp only [heldAllB,Bool.and_eq_true,Bool.or_eq_true,Nat.beq_eq,Nat.blt_eq] at hB
 obtain ⟨⟨hsel,hn⟩,hB⟩:=hB
 have hn':n≤ops.size:=by omega
 have hT:WaitsT .any ops n:=fun listed inv i hi hu t ht=>by
  rcases hn with hn|⟨⟨h1,h2⟩,h3⟩
  ·intro hr
   obtain ⟨_,o,ho,_⟩:=mem_ready.1 hr
   have:=(Array.getElem?_eq_some_iff.1 ho).1
   omega
  ·exact tail_waits h2 h3 h1 inv _ i rfl hi hu t ht
 have inv0:HeadInv .any ops n (Array.replicate ops.size false):=
  ⟨by simp,fun j oj _ hl=>(by rw [getD_replicate_false] at hl;cases hl),fun t _ ht=>getD_in (by simpa using ht) (getD_replicate_false _ _)⟩
 let Q':Exit→Act→World→Prop:=fun e a w=>match e with| .normal=>Q .normal a w|_=>False
 have hq:∀e a w,Q' e a w→Q e a w:=fun e a w h=>by cases e<;>first|exact h|exact h.elim
 have heq:∀l:List Oper,vcOps P ops Q l=vcOps P ops Q' l:=by
  intro l
  induction l with
  |nil=>rfl
  |cons o l ih=>funext a w;simp only [vcOps,ih]
 rw [heq] at h
 have:=Zn (Q:=Q') gr gt hL hneed hn' hsel (fun c a w h=>h) hT n (List.range n) _ a w.drew inv0 hB h
 rw [show n+(ops.size -n)=ops.size by omega] at this
 exact wp_mono (wp_region_any hm (dj _ _ _ _ this)) hq
theorem zcv {P:Program} {V:Nat→Prop} {o:Oper} {a:Act} {w:World} {K:Act→Prop} (hn:isLd o.op=false) (h:vcVOp P V o a w K):∃v,(∀w',(execOp a.eval o).run P w'= .ok (.value v) w')∧K (a.put o.dst v):=by
 have val:∀(e:Sem Value) (v:Value),execOp a.eval o=(do pure (.value (←e)))→(∀w',e.run P w'= .ok v w')→K (a.put o.dst v)→
   ∃v,(∀w',(execOp a.eval o).run P w'= .ok (.value v) w')∧K (a.put o.dst v):=by
  intro e v he hr hk
  refine ⟨v,fun w'=> ?_,hk⟩
  rw [he]
  simp [Sem.run_bind,hr w',Result.andThen]
 unfold vcVOp at h
 split at h
 ·rename_i c x y ho
  split at h
  ·rename_i b hb
   refine val (pure (if b=true then a.eval x else a.eval y)) _ (by simp [execOp,ho,hb,asBool]) (fun w'=>rfl) ?_
   cases b<;>exact h
  ·exact h.elim
 ·rename_i t x ho
  rw [ho] at hn;cases hn
 ·rename_i x ho
  split at h
  ·rename_i p hp
   cases p with
   |none=>exact h.elim
   |some ad=>exact val (pure (.pointer (some ad))) _ (by simp [execOp,ho,hp]) (fun w'=>rfl) h
  ·exact h.elim
 ·rename_i t x ix ho
  obtain ⟨v,hr,hk⟩:=ve _ _ h
  exact val (Instr.indexAt t (a.eval x) (a.eval ix)) v (by simp [execOp,ho]) (fun w'=>hr w') hk
 ·rename_i t x lo hi mx ho
  obtain ⟨v,hr,hk⟩:=ve _ _ h
  exact val (Instr.sliceAt t (a.eval x) (lo.map a.eval) (hi.map a.eval) (mx.map a.eval)) v (by simp [execOp,ho]) (fun w'=>hr w') hk
 ·exact h.elim
 ·split at h
  ·rename_i v hv
   exact ⟨v,fun w'=>kg w' _ _ hv,h⟩
  ·exact h.elim
def GMem (ops:Array Oper) (V:Nat→Nat→Prop) (q:Nat) (w w':World):Prop:=match memAt ops q with
 |true=>Bar (V q) w w'
 |false=>True
theorem GMem.refl {ops:Array Oper} {V:Nat→Nat→Prop} {q:Nat} (w:World):GMem ops V q w w:=by
 unfold GMem;split
 ·exact Bar.refl _ _
 ·trivial
theorem GMem.trans {ops:Array Oper} {V:Nat→Nat→Prop} {q:Nat} {a b c} (h:GMem ops V q a b) (k:GMem ops V q b c):GMem ops V q a c:=by
 unfold GMem at*;split
 ·rename_i hq;rw [hq] at h k;exact Bar.trans h k
 ·trivial
theorem zcw {P:Program} {ops:Array Oper} {V:Nat→Nat→Prop} {i:Nat} {o:Oper} {a:Act} {w:World} {K:Act→Prop} (hi:ops[i]? =some o) (h:vcVOp P (V i) o a w K):∃v,(∀w',GMem ops V i w w'→(execOp a.eval o).run P w'= .ok (.value v) w')∧K (a.put o.dst v):=by
 have hm:memAt ops i=isLd o.op:=by unfold memAt;rw [hi]
 cases hb:isLd o.op with
 |true=>
  obtain ⟨v,h1,h2⟩:=Pn h
  refine ⟨v,fun w' hg=>h1 w' ?_,h2⟩
  unfold GMem at hg;rw [hm,hb] at hg;exact hg
 |false=>
  obtain ⟨v,h1,h2⟩:=zcv hb h
  exact ⟨v,fun w' _=>h1 w',h2⟩
def isAl (o:Oper):Bool:=match o.op with
 | .alloc _=>true
 |_=>false
def alAt (ops:Array Oper) (j:Nat):Bool:=match ops[j]? with
 |some o=>isAl o
 |none=>false
def mainL0 (ops:Array Oper) (n:Nat):List Nat:=(List.range n).filter fun j=> !alAt ops j
def rdyB (ops:Array Oper) (pend:List Nat) (loud:Bool) (i:Nat):Bool:=match ops[i]? with
 |some o=>(loud|| !isLoud o.op)&&o.after.toList.all fun e=> !Region.binds .any e|| !hasN pend e.on
 |none=>false
def ordL (ops:Array Oper):Nat→List Nat→List Nat
 |0,_=> []
 |f+1,pend=>match pend.find? (rdyB ops pend false) with
  |some i=>i::ordL ops f (pend.erase i)
  |none=>match pend.find? (rdyB ops pend true) with
   |some i=>i::ordL ops f (pend.erase i)
   |none=>match pend with
    | []=> []
    |i::r=>i::ordL ops f r
def mainL (ops:Array Oper) (n:Nat):List Nat:=ordL ops n (mainL0 ops n)
theorem Zc (ops:Array Oper):∀(f:Nat) (p:List Nat),p.length≤f→(ordL ops f p).Perm p
 |0,p,h=>by
  have:p= []:=List.eq_nil_of_length_eq_zero (by omega)
  subst this
  exact List.Perm.refl _
 |f+1,p,h=>by
  have key:∀i∈p,(i::ordL ops f (p.erase i)).Perm p:=fun i hi=>by
   have hp:=List.perm_cons_erase hi
   have hl:=hp.length_eq
   simp at hl
   exact ((Zc ops f (p.erase i) (by omega)).cons i).trans hp.symm
  unfold ordL
  split
  ·rename_i i hi;exact key i (List.mem_of_find?_eq_some hi)
  ·split
   ·rename_i i hi;exact key i (List.mem_of_find?_eq_some hi)
   ·cases p with
    |nil=>exact List.Perm.refl _
    |cons i r=>exact (Zc ops f r (by simp at h;omega)).cons i
def alL (ops:Array Oper) (n:Nat):List Nat:=(List.range n).filter fun j=>alAt ops j
def zc (P:Program) (t:TypeId):Option (Array Value):=match P.info? t with
 |some i=>match i.zero with
  |some v=>some v.cells
  |none=>none
 |none=>none
def vcF (P:Program) (ops:Array Oper) (fin:Act→World→Prop):List Nat→Act→World→Prop
 | [],a,w=>∀w',Ahead w w'→fin a w'
 |i::r,a,w=>match ops[i]? with
  |some o=>match isLoud o.op with
   |true=>∀w1,Ahead w w1→vcOp P o a (fun a' w'=>Ahead w1 w'∧vcF P ops fin r a' w') w1
   |false=>vcQOp P o a w fun a'=>vcF P ops fin r a' w
  |none=>False
def NewB (w0:World) (used:List Nat) (w:World) (b:Nat) (cs:Array Value) (t:TypeId):Prop:=w0.heap.size≤b∧(∀k∈used,b≠k)∧w.heap[b]? =some (.cells cs t (0,0))
def vcA (P:Program) (ops:Array Oper) (w0:World) (fin:Act→World→Prop):List Nat→List Nat→Act→World→Prop
 | [],_,a,w=>fin a w
 |i::r,used,a,w=>match ops[i]? with
  |some o=>match o.op with
   | .alloc t=>match zc P t with
    |some cs=>∀b,NewB w0 used w b cs t→vcA P ops w0 fin r (b::used) (a.put o.dst (.pointer (some ⟨b,0,none⟩))) w
    |none=>False
   |_=>False
  |none=>False
def apAll (ops:Array Oper) (als:List Nat) (j0:Nat) (o:Oper):Bool:=als.all fun j=>Nat.beq j j0||(match ops[j]? with
 |some oa=>oa.apart ops o
 |none=>false)
def fB (ops:Array Oper) (n:Nat) (als:List Nat):List Nat→Bool
  | []=>true
  |i::r=>(match ops[i]? with
    |none=>false
    |some o=>Nat.blt i n&&o.guard.isNone&&apAll ops als ops.size o&&(o.after.toList.all fun e=> !Region.binds .any e||(Nat.blt e.on n&& !hasN (i::r) e.on&& !hasN als e.on))&&
      (match isLoud o.op with
       |true=>r.all fun j=>match ops[j]? with
         |some oj=>oj.after.toList.any fun e=>Region.binds .any e&&hasN (i::r) e.on
         |none=>false
       |false=> !isCall o.op&&(List.range ops.size).all fun j=>Nat.beq j i||(Nat.blt j n&& !hasN r j&& !hasN als j)||(match ops[j]? with
         |some oj=>(oj.after.toList.any fun e=>Region.binds .any e&&Nat.beq e.on i)||o.apart ops oj
         |none=>true)))&&fB ops n als r
def aB (P:Program) (ops:Array Oper) (n:Nat) (als:List Nat):Bool:=als.all fun j=>Nat.blt j n&&(match ops[j]? with
 |some o=>(match o.op with
  | .alloc t=>(zc P t).isSome
  |_=>false)&&o.guard.isNone&&(o.after.toList.all fun e=> !Region.binds .any e)&&apAll ops als j o
 |none=>false)
def fullA (ops:Array Oper) (n:Nat):Array Bool:=(List.replicate n true++List.replicate (ops.size -n) false).toArray
def floatB (P:Program) (ops:Array Oper):Bool:=Region.noSelect ops&&(Nat.beq (headN ops) ops.size||(Nat.blt (headN ops) ops.size&&Region.sinkB .any ops (headN ops)&&Region.chainB .any ops (headN ops)))&&
 (aB P ops (headN ops) (alL ops (headN ops))&&fB ops (headN ops) (alL ops (headN ops)) (mainL ops (headN ops))&&Region.seqB .any ops (ops.size -headN ops) (headN ops) (fullA ops (headN ops)))
def dstOf (ops:Array Oper) (j:Nat):Option Tmp:=(ops[j]?).bind (·.dst)
def putB (ops:Array Oper) (β:Nat→Option Nat):List Nat→Act→Act
 | [],a=>a
 |j::r,a=>putB ops β r (match β j with
  |some b=>a.put (dstOf ops j) (.pointer (some ⟨b,0,none⟩))
  |none=>a)
theorem jc {l:List Nat} {i:Nat} (h:hasN l i=false):i∉l:=fun hm=>by rw [Y0.2 hm] at h;cases h
theorem jr {ops:Array Oper} {β:Nat→Option Nat} {x:Option Tmp} {v:Value} :∀(als:List Nat) (a:Act),(∀j∈als,∀d,x=some d→dstOf ops j≠some d)→putB ops β als (a.put x v)=(putB ops β als a).put x v
 | [],a,_=>rfl
 |j::r,a,h=>by
  unfold putB
  have hr:=fun k hk=>h k (List.mem_cons_of_mem _ hk)
  cases hb:β j with
  |none=>exact jr r a hr
  |some b=>
   show putB ops β r ((a.put x v).put _ _)=(putB ops β r (a.put _ _)).put x v
   rw [Act.put_comm a v _ (h j (by simp)),jr r _ hr]
theorem Ga {ops:Array Oper} {β γ:Nat→Option Nat} :∀(als:List Nat) (a:Act),(∀j∈als,β j=γ j)→putB ops β als a=putB ops γ als a
 | [],a,_=>rfl
 |j::r,a,h=>by
  unfold putB
  rw [h j (by simp)]
  exact Ga r _ fun k hk=>h k (List.mem_cons_of_mem _ hk)
def upB (β:Nat→Option Nat) (j b:Nat):Nat→Option Nat:=fun k=>if k=j then some b else β k
theorem Ct {ops:Array Oper} {β:Nat→Option Nat} {j b:Nat} :∀(als:List Nat) (a:Act),als.Nodup→j∈als→β j=none→(∀k∈als,k≠j→∀d,dstOf ops j=some d→dstOf ops k≠some d)→putB ops (upB β j b) als a=(putB ops β als a).put (dstOf ops j) (.pointer (some ⟨b,0,none⟩))
 | [],a,_,hj,_,_=>by cases hj
 |k::r,a,hn,hj,hb,hd=>by
  have hkr:=(List.nodup_cons.1 hn).1
  have hnr:=(List.nodup_cons.1 hn).2
  unfold putB
  by_cases hk:k=j
  ·subst hk
   simp only [upB,if_pos,hb]
   rw [Ga (γ:=β) r _ (fun i hi=>by unfold upB;rw [if_neg (show ¬i=k from fun e=>hkr (e▸hi))])]
   exact jr r a fun i hi d hd'=>hd i (List.mem_cons_of_mem _ hi) (fun e=>hkr (e▸hi)) d hd'
  ·have hjr:j∈r:=by
    rcases List.mem_cons.1 hj with h|h
    ·exact absurd h.symm hk
    ·exact h
   have e1:upB β j b k=β k:=if_neg hk
   rw [e1]
   exact Ct r _ hnr hjr hb fun i hi=>hd i (List.mem_cons_of_mem _ hi)
structure Free (ops:Array Oper) (als:List Nat) (o:Oper):Prop where
  look:∀j∈als,∀d,dstOf ops j=some d→d∉o.looksAt ops
  dst:∀j∈als,∀d,o.dst=some d→dstOf ops j≠some d
theorem V5 {ops:Array Oper} {als:List Nat} {o:Oper} {j0:Nat} (h:apAll ops als j0 o=true) (h0:j0∉als):Free ops als o:=by
 have key:∀j∈als,∃oa,ops[j]? =some oa∧oa.apart ops o=true:=fun j hj=>by
  have:=List.all_eq_true.1 h j hj
  rw [Bool.or_eq_true] at this
  rcases this with h1|h1
  ·exact absurd (Nat.eq_of_beq_eq_true h1▸hj) h0
  ·split at h1
   ·exact ⟨_,by assumption,h1⟩
   ·cases h1
 refine ⟨fun j hj d hd=> ?_,fun j hj d hd hj2=> ?_⟩
 ·obtain ⟨oa,h1,h2⟩:=key j hj
  exact (Oper.apart_spec h2).1 d (by simpa [dstOf,h1] using hd)
 ·obtain ⟨oa,h1,h2⟩:=key j hj
  exact (Oper.apart_spec h2).2.1 d (by simpa [dstOf,h1] using hj2) hd
theorem cv {ops:Array Oper} {β:Nat→Option Nat} {o:Oper} (hs:∀cs b,o.op≠ .select cs b):∀(als:List Nat) (a:Act),(∀j∈als,∀d,dstOf ops j=some d→d∉o.looksAt ops)→execOp (putB ops β als a).eval o=execOp a.eval o
 | [],a,_=>rfl
 |j::r,a,h=>by
  unfold putB
  rw [cv hs r _ fun k hk=>h k (List.mem_cons_of_mem _ hk)]
  cases hb:β j with
  |none=>rfl
  |some b=>exact execOp_put o hs a _ _ (h j (by simp))
theorem zfb {P:Program} {ops:Array Oper} {β:Nat→Option Nat} {als:List Nat} {o:Oper} {a:Act} {w:World} {K:Act→World→Prop} {Q:Exit→Act→World→Prop} (hs:∀cs b,o.op≠ .select cs b) (hf:Free ops als o) (h:o.wp P a w K (fun _ _ _=>False)):o.wp P (putB ops β als a) w (fun a' w'=>∃a0,a'=putB ops β als a0∧K a0 w') Q:=by
 have hput:∀(a:Act) (v:Value),(putB ops β als a).put o.dst v=putB ops β als (a.put o.dst v):=fun a v=>(jr als a hf.dst).symm
 have hdef:∀(als:List Nat) (a:Act) (d:Deferred),({putB ops β als a with defers:=d::(putB ops β als a).defers}:Act)=putB ops β als {a with defers:=d::a.defers}:=by
  intro als
  induction als with
  |nil=>intro a d;rfl
  |cons j r ih=>
   intro a d
   unfold putB
   rw [ih]
   cases β j with
   |none=>rfl
   |some b=>simp only;rw [Act.put_defers]
 unfold Oper.wp at*
 rw [cv hs als a hf.look]
 generalize (execOp a.eval o).run P w=r at*
 cases r with
 |ok n w'=>
  cases n<;>simp only [Oper.upon] at h⊢
  case value u=>exact ⟨_,hput a u,h⟩
  case skip=>exact ⟨_,hput a _,h⟩
  case defer d=>exact ⟨_,by rw [hdef,hput],h⟩
  case enter f args=>
   refine Calls.mono h fun e w'' he=> ?_
   cases e with
   |returned u=>exact ⟨_,hput a u,he⟩
   |panicked c=>exact he.elim
   |outgrown=>obtain ⟨_,_,h⟩:=he;exact h.elim
  case row row args=>exact Rows.mono h fun u w'' he=>⟨_,hput a u,he⟩
 |halt x w'=>
  cases x<;>simp only [Oper.upon] at h⊢
theorem zft {P:Program} {o:Oper} {t:TypeId} {cs:Array Value} (ho:o.op= .alloc t) (hz:zc P t=some cs) (ρ:Operand→Value) (w:World):(execOp ρ o).run P w= .ok (.value (.pointer (some ⟨w.heap.size,0,none⟩))) (w.alloc (.cells cs t (0,0))):=by
 unfold zc at hz
 split at hz
 ·rename_i i hi
  split at hz
  ·rename_i v hv
   obtain rfl:=Option.some.inj hz
   simp [execOp,ho,Instr.alloc,newVar,newRow,newObj,zeroValue,typeInfo,program,Sem.run_bind,Sem.run,Result.andThen,hi,hv]
  ·cases hz
 ·cases hz
theorem T3 {ops:Array Oper} {n:Nat} {als:List Nat} {i:Nat} {r:List Nat} (h:fB ops n als (i::r)=true):∃o,ops[i]? =some o∧i<n∧o.guard=none∧apAll ops als ops.size o=true∧(∀e∈o.after,Region.binds .any e=true→e.on<n∧e.on∉i::r∧e.on∉als)∧((isLoud o.op=true∧∀j∈r,∃oj,ops[j]? =some oj∧∃e∈oj.after,Region.binds .any e=true∧e.on∈i::r)∨(isLoud o.op=false∧isCall o.op=false∧∀j oj,ops[j]? =some oj→j≠i→(j∈r∨j∈als∨n≤j)→(∀e∈oj.after,Region.binds .any e=true→e.on≠i)→o.apart ops oj=true))∧fB ops n als r=true:=by
 unfold fB at h
 rw [Bool.and_eq_true] at h
 obtain ⟨h,hr⟩:=h
 split at h
 ·cases h
 ·rename_i o ho
  simp only [Bool.and_eq_true] at h
  obtain ⟨⟨⟨⟨h1,h2⟩,h3⟩,h4⟩,h5⟩:=h
  refine ⟨o,ho,by simpa [Nat.blt_eq] using h1,by simpa using h2,h3,fun e he hb=> ?_, ?_,hr⟩
  ·have:=List.all_eq_true.1 h4 e (by simpa using he)
   simp only [hb,Bool.not_true,Bool.false_or,Bool.and_eq_true,Bool.not_eq_true',Nat.blt_eq] at this
   exact ⟨this.1.1,jc this.1.2,jc this.2⟩
  ·split at h5
   ·rename_i hl
    refine .inl ⟨hl,fun j hj=> ?_⟩
    have:=List.all_eq_true.1 h5 j hj
    split at this
    ·rename_i oj hoj
     obtain ⟨e,he,hb⟩:=List.any_eq_true.1 this
     rw [Bool.and_eq_true] at hb
     exact ⟨oj,hoj,e,by simpa using he,hb.1,Y0.1 hb.2⟩
    ·cases this
   ·rename_i hl
    rw [Bool.and_eq_true] at h5
    refine .inr ⟨hl,by simpa using h5.1,fun j oj hoj hji hj hno=> ?_⟩
    have hjs:j<ops.size:=(Array.getElem?_eq_some_iff.1 hoj).1
    have:=List.all_eq_true.1 h5.2 j (by simpa using hjs)
    simp only [Bool.or_eq_true,Bool.and_eq_true,Bool.not_eq_true',hoj,Nat.blt_eq] at this
    rcases this with (h|⟨⟨h1,h2⟩,h3⟩)|h|h
    ·exact absurd (Nat.eq_of_beq_eq_true h) hji
    ·rcases hj with hj|hj|hj
     ·exact absurd hj (jc h2)
     ·exact absurd hj (jc h3)
     ·omega
    ·obtain ⟨e,he,hb⟩:=List.any_eq_true.1 h
     rw [Bool.and_eq_true] at hb
     exact absurd (Nat.eq_of_beq_eq_true hb.2) (hno e (by simpa using he) hb.1)
    ·exact h
theorem Vz {P:Program} {ops:Array Oper} {n:Nat} {als:List Nat} (h:aB P ops n als=true) {j:Nat} (hj:j∈als):j<n∧∃o t cs,ops[j]? =some o∧o.op= .alloc t∧zc P t=some cs∧o.guard=none∧(∀e∈o.after,Region.binds .any e=false)∧apAll ops als j o=true:=by
 have:=List.all_eq_true.1 h j hj
 rw [Bool.and_eq_true] at this
 obtain ⟨h1,h2⟩:=this
 refine ⟨by simpa [Nat.blt_eq] using h1, ?_⟩
 split at h2
 ·rename_i o ho
  simp only [Bool.and_eq_true] at h2
  obtain ⟨⟨⟨h2,h3⟩,h4⟩,h5⟩:=h2
  split at h2
  ·rename_i t hop
   obtain ⟨cs,hcs⟩:=Option.isSome_iff_exists.1 h2
   refine ⟨o,t,cs,ho,hop,hcs,by simpa using h3,fun e he=> ?_,h5⟩
   simpa using List.all_eq_true.1 h4 e (by simpa using he)
  ·cases h2
 ·cases h2
theorem C8 {P:Program} {ops:Array Oper} {w0 w:World} {β:Nat→Option Nat} {fin:Act→World→Prop} :∀(r used:List Nat) (a:Act),r.Nodup→(∀j∈r,∃b o t cs,β j=some b∧ops[j]? =some o∧o.op= .alloc t∧zc P t=some cs∧w0.heap.size≤b∧w.heap[b]? =some (.cells cs t (0,0))∧∀k∈used,b≠k)→(∀j∈r,∀k∈r,∀b,β j=some b→β k=some b→j=k)→vcA P ops w0 fin r used a w→fin (putB ops β r a) w
 | [],_,_,_,_,_,h=>h
 |j::r,used,a,hn,hb,hi,h=>by
  obtain ⟨b,o,t,cs,e1,e2,e3,e4,h1,h2,h3⟩:=hb j (by simp)
  unfold vcA at h
  simp only [e2,e3,e4] at h
  unfold putB
  simp only [e1]
  have hd:dstOf ops j=o.dst:=by simp [dstOf,e2]
  rw [hd]
  refine C8 r (b::used) _ (List.nodup_cons.1 hn).2 (fun k hk=> ?_) (fun x hx y hy=>hi x (List.mem_cons_of_mem _ hx) y (List.mem_cons_of_mem _ hy)) (h b ⟨h1,h3,h2⟩)
  obtain ⟨b',o',t',cs',f1,f2,f3,f4,g1,g2,g3⟩:=hb k (List.mem_cons_of_mem _ hk)
  refine ⟨b',o',t',cs',f1,f2,f3,f4,g1,g2,fun x hx=> ?_⟩
  rcases List.mem_cons.1 hx with rfl|hx
  ·intro he
   subst he
   have:=hi j (by simp) k (List.mem_cons_of_mem _ hk) _ e1 f1
   exact (List.nodup_cons.1 hn).1 (this▸hk)
  ·exact g3 x hx
theorem zbq {β:Nat→Option Nat} {j b:Nat} :∀(als:List Nat),als.Nodup→j∈als→β j=none→(als.filter fun k=>(β k).isNone).length=(als.filter fun k=>(upB β j b k).isNone).length+1
 | [],_,hj,_=>by cases hj
 |k::r,hn,hj,hb=>by
  by_cases hk:k=j
  ·subst hk
   have e:r.filter (fun i=>(upB β k b i).isNone)=r.filter fun i=>(β i).isNone:=List.filter_congr fun i hi=>by
    unfold upB;rw [if_neg (show ¬i=k from fun e=>(List.nodup_cons.1 hn).1 (e▸hi))]
   have u:upB β k b k=some b:=if_pos rfl
   simp [List.filter_cons,hb,u,e]
  ·have hjr:j∈r:=by
    rcases List.mem_cons.1 hj with h|h
    ·exact absurd h.symm hk
    ·exact h
   have:=zbq (b:=b) r (List.nodup_cons.1 hn).2 hjr hb
   have e1:upB β j b k=β k:=if_neg hk
   cases h:β k<;>simp [List.filter_cons,e1,h,this]
structure FSt (P:Program) (ops:Array Oper) (n:Nat) (als:List Nat) (w0:World) (M:List Nat) (listed:Array Bool) (β:Nat→Option Nat) (a0 a:Act) (w1 w:World):Prop where
  inv:HeadInv .any ops n listed
  mem:∀j,j<n→(listed.getD j false=false↔(j∈M∨(j∈als∧β j=none)))
  act:a=putB ops β als a0
  ah:Ahead w1 w
  ah0:w0.heap.size≤w.heap.size
  blk:∀j∈als,∀b,β j=some b→∃o t cs,ops[j]? =some o∧o.op= .alloc t∧zc P t=some cs∧w0.heap.size≤b∧w.heap[b]? =some (.cells cs t (0,0))
  inj:∀j∈als,∀k∈als,∀b,β j=some b→β k=some b→j=k
theorem gb {ops:Array Oper} {o:Oper} {a:Act} (h:o.guard=none):Region.wanted o (yielded ops a.tmps)=true:=by simp [Region.wanted,h]
theorem zdc {P:Program} {ops:Array Oper} {Q:Exit→Act→World→Prop} {n:Nat} {als:List Nat} {w0:World} (hA:aB P ops n als=true) (hnd:als.Nodup) (hsel:Region.noSelect ops=true) (hQ:∀c a w,¬Q (.panic c) a w) (hT:WaitsT .any ops n) (hn:n≤ops.size) (hseq:Region.seqB .any ops (ops.size -n) n (fullA ops n)=true):∀(f:Nat) (M:List Nat) (listed:Array Bool) (β:Nat→Option Nat) (a0 a:Act) (w1 w:World),f=M.length+(als.filter fun j=>(β j).isNone).length→FSt P ops n als w0 M listed β a0 a w1 w→fB ops n als M=true→M.Nodup→(∀j∈M,j∉als)→vcF P ops (fun a' w'=>vcA P ops w0 (fun a2 w2=>vcOps P ops Q (ops.toList.drop n) a2 w2) als [] a' w') M a0 w1→wpAnyT P .any ops Q n (fun _=>Ahead) (f+(ops.size -n)) listed a w:=by
 have hals:ops.size∉als:=fun h=>by have:=(Vz hA h).1;omega
 intro f
 induction f with
 |zero=>
  intro M listed β a0 a w1 w hc S hB hM hMa h
  have hM0:M= []:=List.eq_nil_of_length_eq_zero (by omega)
  subst hM0
  have hall:∀j∈als,∃b,β j=some b:=fun j hj=>by
   cases hb:β j with
   |some b=>exact ⟨b,rfl⟩
   |none=>
    have:j∈als.filter fun j=>(β j).isNone:=List.mem_filter.2 ⟨hj,by simp [hb]⟩
    have:=List.length_pos_of_mem this
    simp at hc
    omega
  have hfin:=C8 (β:=β) als [] a0 hnd (fun j hj=>by
   obtain ⟨b,hb⟩:=hall j hj
   obtain ⟨o,t,cs,e2,e3,e4,h1,h2⟩:=S.blk j hj b hb
   exact ⟨b,o,t,cs,hb,e2,e3,e4,h1,h2,fun k hk=>by cases hk⟩) S.inj (h w S.ah)
  rw [←S.act] at hfin
  have hfull:listed=fullA ops n:=by
   apply Array.ext
   ·rw [S.inv.size];simp [fullA];omega
   ·intro i h1 h2
    have hs:=S.inv.size
    by_cases hi:i<n
    ·have:listed.getD i false=true:=by
      cases hl:listed.getD i false with
      |true=>rfl
      |false=>
       rcases (S.mem i hi).1 hl with h|⟨h,h'⟩
       ·cases h
       ·obtain ⟨b,hb⟩:=hall i h;rw [hb] at h';cases h'
     have e1:listed[i]=true:=by simpa [h1] using this
     rw [e1]
     simp [fullA,List.getElem_append,hi]
    ·have:=S.inv.tail i (by omega) (by omega)
     have e1:listed[i]=false:=by simpa [h1] using this
     rw [e1]
     simp [fullA,List.getElem_append,hi]
  have hlen:(ops.toList.drop n).length=ops.size -n:=by simp
  have:=ja (P:=P) (Q:=Q) (md:= .any) (n:=n) (S:=fun _=>Ahead) (ops.toList.drop n) n listed a w (Nat.le_refl _) (fun j=>by simp [List.getElem?_drop]) (by rw [hlen,hfull];exact hseq) (nj _ _ _ hfin)
  rw [hlen] at this
  simpa using this
 |succ f ih=>
  intro M listed β a0 a w1 w hc S hB hM hMa h
  rw [show f+1+(ops.size -n)=(f+(ops.size -n))+1 by omega]
  have lis:∀{j:Nat},j<n→j∉M→j∉als→listed.getD j false=true:=fun {j} hj h1 h2=>by
   cases hl:listed.getD j false with
   |true=>rfl
   |false=>
    rcases (S.mem j hj).1 hl with h|⟨h,_⟩
    ·exact absurd h h1
    ·exact absurd h h2
  have unl:∀{j:Nat},j<n→(j∈M∨(j∈als∧β j=none))→listed.getD j true=false:=fun {j} hj h=>getD_in (by rw [S.inv.size];omega) ((S.mem j hj).2 h)
  have memOf:∀{j:Nat},j<n→listed.getD j true=false→j∈M∨(j∈als∧β j=none):=fun {j} hj h=>(S.mem j hj).1 (getD_both h)
  have stepMem:∀{i:Nat} {r:List Nat},M=i::r→i<n→∀j,j<n→((listed.setIfInBounds i true).getD j false=false↔(j∈r∨(j∈als∧β j=none))):=by
   intro i r hMe hin j hj
   subst hMe
   by_cases hij:i=j
   ·subst hij
    have hlt:i<listed.size:=by rw [S.inv.size];omega
    constructor
    ·intro h;simp [hlt] at h
    ·rintro (h|⟨h,_⟩)
     ·exact absurd h (List.nodup_cons.1 hM).1
     ·exact absurd h (hMa i (by simp))
   ·rw [getD_set_ne false hij,S.mem j hj]
    simp [Ne.symm hij]
  by_cases hq:∃i r o,M=i::r∧ops[i]? =some o∧isLoud o.op=false
  ·obtain ⟨i,r,o,rfl,ho,hl⟩:=hq
   obtain ⟨o',ho',hin,hg,hap,haf,hk,hBr⟩:=T3 hB
   rw [ho] at ho'
   obtain rfl:=Option.some.inj ho'
   rcases hk with ⟨hl',_⟩|⟨_,hcall,hfree⟩
   ·rw [hl] at hl';cases hl'
   have hFr:=V5 hap hals
   unfold vcF at h
   simp only [ho,hl] at h
   obtain ⟨v,hv,hkk⟩:=Zm hcall h
   have hready:i∈Region.ready .any ops listed:=mem_ready.2 ⟨unl hin (.inl (by simp)),o,ho,fun e he hb=>by obtain ⟨h1,h2,h3⟩:=haf e he hb;exact lis h1 h2 h3⟩
   refine Zp (C:=fun _=>Ahead) (S:=Ahead w1) (v:=v) ho hin (Region.noSelect_spec hsel) hQ hT (fun w=>Ahead.refl w) (fun _ _ _ j _ x y hc hs=>hs.trans hc) _ listed a w S.inv ?_ hready (.inl ⟨gb hg,fun w' hS=> ?_⟩) S.ah ?_
   ·intro j oj hoj hji hun hno
    refine hfree j oj hoj hji ?_ hno
    rcases Nat.lt_or_ge j n with hjn|hjn
    ·rcases memOf hjn hun with h|h
     ·rcases List.mem_cons.1 h with h|h
      ·exact absurd h hji
      ·exact .inl h
     ·exact .inr (.inl h.1)
    ·exact .inr (.inr hjn)
   ·rw [S.act,cv (Region.noSelect_spec hsel i o · · ho) als a0 hFr.look];exact hv w' hS
   ·refine ih r _ β (a0.put o.dst v) _ w1 w (by simp at hc;omega) ⟨S.inv.set hready hin,stepMem rfl hin,by rw [S.act,jr als a0 hFr.dst],S.ah,S.ah0,S.blk,S.inj⟩ hBr (List.nodup_cons.1 hM).2 (fun j hj=>hMa j (List.mem_cons_of_mem _ hj)) hkk
  ·
   have hex:∃j,j<n∧listed.getD j true=false∧j∈Region.ready .any ops listed:=by
    cases M with
    |cons i r=>
     obtain ⟨o,ho,hin,hg,hap,haf,hk,hBr⟩:=T3 hB
     exact ⟨i,hin,unl hin (.inl (by simp)),mem_ready.2 ⟨unl hin (.inl (by simp)),o,ho,fun e he hb=>by obtain ⟨h1,h2,h3⟩:=haf e he hb;exact lis h1 h2 h3⟩⟩
    |nil=>
     have hpos:0<(als.filter fun j=>(β j).isNone).length:=by simp at hc;omega
     obtain ⟨j,hj⟩:=List.exists_mem_of_length_pos hpos
     obtain ⟨hja,hjb⟩:=List.mem_filter.1 hj
     obtain ⟨hjn,o,t,cs,ho,_,_,_,haf,_⟩:=Vz hA hja
     have hu:=unl hjn (.inr ⟨hja,by simpa using hjb⟩)
     exact ⟨j,hjn,hu,mem_ready.2 ⟨hu,o,ho,fun e he hb=>by rw [haf e he] at hb;cases hb⟩⟩
   obtain ⟨j0,hj0,hu0,hr0⟩:=hex
   refine ⟨fun h0=>absurd (h0▸hr0) (by simp),fun i hi=> ?_⟩
   have hin:i<n:=by
    rcases Nat.lt_or_ge i n with h|h
    ·exact h
    ·exact absurd hi (hT listed S.inv j0 hj0 hu0 i h)
   obtain ⟨hiu,oi,hoi,hall⟩:=mem_ready.1 hi
   rcases memOf hin hiu with hiM|⟨hia,hib⟩
   ·cases M with
    |nil=>cases hiM
    |cons i0 r=>
     obtain ⟨o,ho,hin0,hg,hap,haf,hk,hBr⟩:=T3 hB
     rcases hk with ⟨hl,hdep⟩|⟨hl,_,_⟩
     ·have hii:i=i0:=by
       rcases List.mem_cons.1 hiM with h|h
       ·exact h
       ·obtain ⟨oj,hoj,e,he,hb,hon⟩:=hdep i h
        rw [hoi] at hoj
        obtain rfl:=Option.some.inj hoj
        have h1:=hall e he hb
        have hlt:e.on<n:=by
         rcases List.mem_cons.1 hon with h|h
         ·rw [h];exact hin0
         ·rcases Nat.lt_or_ge e.on n with h2|h2
          ·exact h2
          ·rcases Nat.lt_or_ge e.on ops.size with h3|h3
           ·have:=getD_both (S.inv.tail _ h2 h3);rw [this] at h1;cases h1
           ·rw [Array.getD_eq_getD_getElem?,Array.getElem?_eq_none (by rw [S.inv.size];exact h3)] at h1;cases h1
        rw [getD_both (unl hlt (.inl hon))] at h1
        cases h1
      subst hii
      rw [hoi] at ho
      obtain rfl:=Option.some.inj ho
      unfold vcF at h
      simp only [hoi,hl] at h
      have hFr:=V5 hap hals
      have hw:=zfb (β:=β) (Q:=Q) (Region.noSelect_spec hsel i oi · · hoi) hFr (ji (h w S.ah))
      rw [←S.act] at hw
      unfold wpOp
      simp only [hoi]
      rw [if_pos (gb hg)]
      refine .inl (Oper.wp_mono (fun a' w' ⟨a0',ea,hA',hK⟩=>⟨fun _=>hA', ?_⟩) hw)
      refine ih r _ β a0' a' w' w' (by simp at hc;omega) ⟨S.inv.set hi hin,stepMem rfl hin,ea,Ahead.refl _,Nat.le_trans S.ah0 (Below.size hA'),fun j hj b hb=> ?_,S.inj⟩ hBr (List.nodup_cons.1 hM).2 (fun j hj=>hMa j (List.mem_cons_of_mem _ hj)) hK
      obtain ⟨o,t,cs,e2,e3,e4,h1,h2⟩:=S.blk j hj b hb
      exact ⟨o,t,cs,e2,e3,e4,h1,by rw [Below.block hA' b (Array.getElem?_eq_some_iff.1 h2).1];exact h2⟩
     ·exact absurd ⟨i0,r,o,rfl,ho,hl⟩ hq
   ·obtain ⟨_,o,t,cs,ho,hop,hz,hg,haf,hap⟩:=Vz hA hia
    rw [hoi] at ho
    obtain rfl:=Option.some.inj ho
    unfold wpOp
    simp only [hoi]
    rw [if_pos (gb hg)]
    refine .inl ?_
    unfold Oper.wp
    rw [zft hop hz]
    have hdst:dstOf ops i=oi.dst:=by simp [dstOf,hoi]
    have hal:Ahead w (w.alloc (.cells cs t (0,0))):=Below.alloc (Below.refl _ _) (Nat.le_refl _) _
    have hsz:(w.alloc (.cells cs t (0,0))).heap.size=w.heap.size+1:=by show (w.heap.push _).size=_;simp
    have hget:(w.alloc (.cells cs t (0,0))).heap[w.heap.size]? =some (.cells cs t (0,0)):=by show (w.heap.push _)[w.heap.size]? =_;simp
    have hdd:∀k∈als,k≠i→∀d,dstOf ops i=some d→dstOf ops k≠some d:=fun k hk hki d hd hd2=>by
     have:=List.all_eq_true.1 hap k hk
     rw [Bool.or_eq_true] at this
     rcases this with h1|h1
     ·exact hki (Nat.eq_of_beq_eq_true h1)
     ·obtain ⟨_,ok,_,_,hok,_⟩:=Vz hA hk
      simp only [hok] at h1
      exact (Oper.apart_spec h1).2.1 d (by simpa [dstOf,hok] using hd2) (by rw [←hdst];exact hd)
    refine ⟨fun _=>hal,ih M _ (upB β i w.heap.size) a0 _ w1 _ (by have:=zbq (b:=w.heap.size) als hnd hia hib;omega) ⟨S.inv.set hi hin,fun j hj=> ?_, ?_,S.ah.trans hal,Nat.le_trans S.ah0 (Below.size hal),fun j hj b hb=> ?_,fun j hj k hk b h1 h2=> ?_⟩ hB hM hMa h⟩
    ·by_cases hij:i=j
     ·subst hij
      have hlt:i<listed.size:=by rw [S.inv.size];omega
      have u:upB β i w.heap.size i=some w.heap.size:=if_pos rfl
      constructor
      ·intro h;simp [hlt] at h
      ·rintro (h|⟨_,h⟩)
       ·exact absurd hia (hMa i h)
       ·rw [u] at h;cases h
     ·have u:upB β i w.heap.size j=β j:=if_neg (Ne.symm hij)
      rw [getD_set_ne false hij,S.mem j hj,u]
    ·rw [S.act,Ct als a0 hnd hia hib hdd,hdst]
    ·by_cases hji:j=i
     ·subst hji
      have u:upB β j w.heap.size j=some w.heap.size:=if_pos rfl
      rw [u] at hb
      obtain rfl:=Option.some.inj hb
      exact ⟨oi,t,cs,hoi,hop,hz,S.ah0,hget⟩
     ·have u:upB β i w.heap.size j=β j:=if_neg hji
      rw [u] at hb
      obtain ⟨o,t',cs',e2,e3,e4,h1,h2⟩:=S.blk j hj b hb
      exact ⟨o,t',cs',e2,e3,e4,h1,by rw [Below.block hal b (Array.getElem?_eq_some_iff.1 h2).1];exact h2⟩
    ·have lt:∀j∈als,∀b,β j=some b→b<w.heap.size:=fun j hj b hb=>by
      obtain ⟨o,t',cs',_,_,_,_,h2⟩:=S.blk j hj b hb
      exact (Array.getElem?_eq_some_iff.1 h2).1
     by_cases hji:j=i<;>by_cases hki:k=i
     ·rw [hji,hki]
     ·have u1:upB β i w.heap.size j=some w.heap.size:=if_pos hji
      have u2:upB β i w.heap.size k=β k:=if_neg hki
      rw [u1] at h1;rw [u2] at h2
      have:=lt k hk b h2
      have:=Option.some.inj h1
      omega
     ·have u1:upB β i w.heap.size j=β j:=if_neg hji
      have u2:upB β i w.heap.size k=some w.heap.size:=if_pos hki
      rw [u1] at h1;rw [u2] at h2
      have:=lt j hj b h1
      have:=Option.some.inj h2
      omega
     ·have u1:upB β i w.heap.size j=β j:=if_neg hji
      have u2:upB β i w.heap.size k=β k:=if_neg hki
      rw [u1] at h1;rw [u2] at h2
      exact S.inj j hj k hk b h1 h2
theorem Gh {P:Program} {id:Nat} {ops:Array Oper} {Q:Exit→Act→World→Prop} {a:Act} {w:World} (hm:P.follows .mixedOrders=true) (hB:floatB P ops=true) (h:vcF P ops (fun a1 w1=>vcA P ops w.drew (fun a2 w2=>vcOps P ops Q (ops.toList.drop (headN ops)) a2 w2) (alL ops (headN ops)) [] a1 w1) (mainL ops (headN ops)) a w.drew):(Code.region id ops true).wp P Q a w:=by
 simp only [floatB,Bool.and_eq_true,Bool.or_eq_true,Nat.beq_eq,Nat.blt_eq] at hB
 obtain ⟨⟨hsel,hn⟩,⟨hA,hF⟩,hseq⟩:=hB
 generalize hnn:headN ops=n at*
 have hn':n≤ops.size:=by omega
 have hT:WaitsT .any ops n:=fun listed inv i hi hu t ht=>by
  rcases hn with hn|⟨⟨h1,h2⟩,h3⟩
  ·intro hr
   obtain ⟨_,o,ho,_⟩:=mem_ready.1 hr
   have:=(Array.getElem?_eq_some_iff.1 ho).1
   omega
  ·exact tail_waits h2 h3 h1 inv _ i rfl hi hu t ht
 have inv0:HeadInv .any ops n (Array.replicate ops.size false):=
  ⟨by simp,fun j oj _ hl=>(by rw [getD_replicate_false] at hl;cases hl),fun t _ ht=>getD_in (by simpa using ht) (getD_replicate_false _ _)⟩
 let Q':Exit→Act→World→Prop:=fun e a w=>match e with| .normal=>Q .normal a w|_=>False
 have hq:∀e a w,Q' e a w→Q e a w:=fun e a w h=>by cases e<;>first|exact h|exact h.elim
 have heq:∀l:List Oper,vcOps P ops Q l=vcOps P ops Q' l:=by
  intro l
  induction l with
  |nil=>rfl
  |cons o l ih=>funext a w;simp only [vcOps,ih]
 rw [heq] at h
 have hnodup:(List.range n).Nodup:=List.nodup_range
 have hlen0:(mainL0 ops n).length≤n:=by
  have:=List.length_filter_le (fun j=> !alAt ops j) (List.range n)
  rw [List.length_range] at this
  exact this
 have hperm:(mainL ops n).Perm (mainL0 ops n):=Zc ops n _ hlen0
 have:=zdc (Q:=Q') (w0:=w.drew) hA (hnodup.filter _) hsel (fun c a w h=>h) hT hn' hseq n (mainL ops n) (Array.replicate ops.size false) (fun _=>none) a a w.drew w.drew ?_ ⟨inv0,fun j hj=> ?_, ?_,Ahead.refl _,Nat.le_refl _,fun j _ b hb=>(by cases hb),fun j _ k _ b hb=>(by cases hb)⟩ hF (hperm.nodup_iff.2 (hnodup.filter _)) (fun j hj hj'=> ?_) h
 ·rw [show n+(ops.size -n)=ops.size by omega] at this
  exact wp_mono (wp_region_any hm (dj _ _ _ _ this)) hq
 ·have e1:(alL ops n).filter (fun j=>((fun _=>none:Nat→Option Nat) j).isNone)=alL ops n:=by simp
  rw [e1,hperm.length_eq,mainL0,alL]
  have:∀l:List Nat,l.length=(l.filter fun j=> !alAt ops j).length+(l.filter fun j=>alAt ops j).length:=by
   intro l
   induction l with
   |nil=>rfl
   |cons x l ih=>cases hx:alAt ops x<;>simp [List.filter_cons,hx]<;>omega
  have:=this (List.range n)
  rw [List.length_range] at this
  exact this
 ·rw [getD_replicate_false]
  simp only [true_iff]
  cases hx:alAt ops j
  ·exact .inl (hperm.mem_iff.2 (List.mem_filter.2 ⟨by simpa using hj,by simp [hx]⟩))
  ·exact .inr ⟨List.mem_filter.2 ⟨by simpa using hj,hx⟩,by trivial⟩
 ·have:∀(l:List Nat) (a:Act),putB ops (fun _=>none) l a=a:=by
   intro l
   induction l with
   |nil=>intro a;rfl
   |cons x l ih=>intro a;exact ih a
  exact (this _ _).symm
 ·have h1:=(List.mem_filter.1 (hperm.mem_iff.1 hj)).2
  have h2:=(List.mem_filter.1 hj').2
  rw [h2] at h1;cases h1
def marks (ids:List Nat) (cut:Nat→Option ((Act→World→Prop)×(Act→World→Nat))):Nat→Option ((Act→World→Prop)×(Act→World→Nat)):=fun i=>match hasN ids i with
 |true=>some (fun _ _=>True,fun _ _=>0)
 |false=>cut i
structure Hold (p:Prop):Prop where
  out:p
theorem kcast {A:Prop} (h:A) {B:Prop} (e:A=B):Hold B:=⟨e▸h⟩
def tailAt (ops:Array Oper):Option Nat:=ops.toList.findIdx? fun o=>match o.op with
 | .store .. =>true
 |_=>false
def heldAt (ops:Array Oper):Bool:=(ops.toList.take (headN ops)).any fun o=>isLoud o.op
def entry:Code→Nat
 | .region id _ _=>id+1
 | .seq x y=>match entry x with
  |0=>entry y
  |n+1=>n+1
 | .cond _ x y=>match entry x with
  |0=>entry y
  |n+1=>n+1
 | .block _ c=>entry c
 | .loop c=>entry c
 |_=>0
def notDefer (o:Oper):Bool:=match o.op with
 | .defer _=>false
 |_=>true
theorem Mh {o:Oper} (h:notDefer o=true):∀c,o.op≠ .defer c:=fun c e=>by simp [notDefer,e] at h
abbrev rd (l:Nat):Fence:=Fence.wide.inRound l
theorem ze0 {l n:Nat} {P:Program} {row:String} {args:Array Value} {w} {R:Value→World→Prop} (h:Rows P row args w R):RowsIn (rd l) n P row args w R:=
 fun c cs _=>let ⟨v,w',r,s⟩:=h c cs;⟨v,w',r,stepsIn_wide.2 s⟩
theorem zey {l n:Nat} {P:Program} {o:Oper} {a:Act} {w:World} {next:Act→World→Prop} {Q:Exit→Act→World→Prop} (hd:notDefer o=true) (h:o.wp P a w next Q):o.wpIn (rd l) n P a w next Q:=by
 refine ⟨fun f _=>trivial, ?_⟩
 show o.uponIn (rd l) n P a next Q ((o.semAt (some l) a.eval).run P w)
 rw [Oper.semAt_some l _ _ (Mh hd)]
 unfold Oper.wp at h
 generalize (execOp a.eval o).run P w=r at h
 cases r with
 |halt x w'=>cases x<;>exact h
 |ok nx w'=>
  cases nx<;>simp only [Oper.upon] at h
  case enter f args=>exact ⟨fun hh=>(by cases hh),CallsIn.inRound l (callsIn_wide.2 h)⟩
  case row row args=>exact ⟨fun hh=>(by cases hh),ze0 h⟩
  all_goals exact h
theorem zcc {l n:Nat} {P:Program} {ops:Array Oper} {Q:Exit→Act→World→Prop} :∀(L:List Oper) (i:Nat) (a:Act) (w:World),(∀j,L[j]? =ops[i+j]?)→L.all notDefer=true→vcOps P ops Q L a w→wpOpsIn (rd l) n P ops Q (List.range' i L.length) a w
 | [],_,_,_,_,_,h=>h
 |o::rest,i,a,w,hL,hn,h=>by
  have h0:ops[i]? =some o:=by simpa using (hL 0).symm
  simp only [List.all_cons,Bool.and_eq_true] at hn
  have ih:=fun a w=>zcc (l:=l) (n:=n) (P:=P) (ops:=ops) (Q:=Q) rest (i+1) a w (fun j=>by have:=hL (j+1);simpa [Nat.add_assoc,Nat.add_comm 1 j] using this) hn.2
  have hK:∀a w,vcOp P o a (vcOps P ops Q rest) w→o.wpIn (rd l) n P a w (wpOpsIn (rd l) n P ops Q (List.range' (i+1) rest.length)) Q:=fun a w h=>
   zey hn.1 (Oper.wp_mono (fun a w h=>ih a w h) (ji (Q:=Q) h))
  rw [List.length_cons,List.range'_succ]
  unfold wpOpsIn
  simp only [h0]
  rw [vcOps] at h
  have hskip:∀a:Act,Region.wanted o (yielded ops a.tmps)=false→vcOps P ops Q rest (a.put o.dst undef) w→(if Region.wanted o (yielded ops a.tmps) then o.wpIn (rd l) n P a w (wpOpsIn (rd l) n P ops Q (List.range' (i+1) rest.length)) Q else (∀f,o.about P w a.eval=some f→(rd l).fn f)∧wpOpsIn (rd l) n P ops Q (List.range' (i+1) rest.length) (a.put o.dst undef) w):=by
   intro a hw h
   rw [if_neg (by simp [hw])]
   exact ⟨fun _ _=>trivial,ih _ _ h⟩
  split at h
  ·rename_i hg
   rw [if_pos (by simp [Region.wanted,hg])]
   exact hK _ _ h
  ·rename_i j want hg
   split at h
   ·rename_i d hd
    split at h
    ·rename_i b hb
     have hy:yielded ops a.tmps j=some b:=by simp [yielded,hd,hb]
     have hwant:Region.wanted o (yielded ops a.tmps)=(b==want):=by simp [Region.wanted,hg,hy]
     cases b
     ·rw [br,ue hb] at h
      cases want
      ·rw [if_pos (by simp [hwant])]
       exact hK _ _ h
      ·exact hskip a (by simp [hwant]) h
     ·rw [br,ue hb] at h
      cases want
      ·exact hskip a (by simp [hwant]) h
      ·rw [if_pos (by simp [hwant])]
       exact hK _ _ h
    ·rename_i hb
     refine hskip a ?_ h
     have hy:yielded ops a.tmps j=none:=by
      simp only [yielded,hd,Option.bind_some]
      all_goals
       generalize a.tmps[d]? =v at hb
       cases v with
       |none=>rfl
       |some v=>cases v<;>first|rfl|exact absurd rfl (hb _)
     simp [Region.wanted,hg,hy]
   ·rename_i hd
    refine hskip a ?_ h
    have hy:yielded ops a.tmps j=none:=by simp [yielded,hd]
    simp [Region.wanted,hg,hy]
def roundB:Code→Bool
 | .skip=>true
 | .region _ ops draw=> !draw&&ops.toList.all notDefer
 | .seq x y=>roundB x&&roundB y
 | .cond _ x y=>roundB x&&roundB y
 | .block _ c=>roundB c
 | .exit _=>true
 | .label _=>true
 | .ret=>true
 |_=>false
def asgOps:List Oper→Act→Option Act
 | [],a=>some a
 |o::r,a=>match o.guard with
  |none=>match o.op with
   | .assign x=>asgOps r (a.put o.dst (a.eval x))
   | .move x=>asgOps r (a.put o.dst (a.eval x))
   |_=>none
  |some _=>none
def asgA:Code→Act→Option Act
 | .region _ ops draw,a=>match draw with
  |false=>asgOps ops.toList a
  |true=>none
 | .seq x y,a=>match asgA x a with
  |some a1=>asgA y a1
  |none=>none
 | .skip,a=>some a
 |_,_=>none
def exitsOf:Code→List Nat
 | .seq x y=>exitsOf x++exitsOf y
 | .cond _ x y=>exitsOf x++exitsOf y
 | .block id c=>(exitsOf c).filter fun i=> !Nat.beq i id
 | .exit i=> [i]
 |_=> []
abbrev pI (p:Int×Int):Array Value:= #[.int .i64 p.1, .int .i64 p.2]
def exP {α:Type} (f:α→Prop):List α→Prop
 | []=>True
 |i::r=>f i∧exP f r
theorem Cg {α:Type} {f:α→Prop} {i:α} :∀{l:List α},exP f l→i∈l→f i
 | [],_,h=>by cases h
 |j::r,h,hm=>by
  rcases List.mem_cons.1 hm with e|e
  ·rw [e];exact h.1
  ·exact Cg h.2 e
structure IterP (P:Program) (gf:Nat) (lb:Array Value) (Kp:World→World→Prop) (S Sp:List (Int×Int)→Prop) (N:Nat) (w:World):Prop where
  seq:SeqStopsK Fence.wide 4 P gf lb pI Kp S Sp N w
  enters:∀args w,(callFunc gf args).run P w= .ok (.enter gf args) w
  trans:∀{A B C:World},Kp A B→Kp B C→Kp A C
  obj:∀(W:World) (l:Nat) (o o':Obj),w.heap.size≤l→W.heap[l]? =some o→o.isCells=false→o.isWalk=false→Kp W (W.putObj l o')
def rangeP (P:Program) (gv:Value) (w:World) (asg:Int→Int→Bool) (body:Int→Int→World→(World→Prop)→(World→Prop)→(Nat→World→Prop)→Prop) (done ret:Nat→World→Prop) (exs:List (Nat×(Nat→World→Prop))):Prop:=
 ∃(gf:Nat) (lb:Array Value) (Kp:World→World→Prop) (S Sp:List (Int×Int)→Prop) (N:Nat) (I Xr:List (Int×Int)→World→Prop) (Xe:Nat→List (Int×Int)→World→Prop),
  gv= .func (.func gf) #[] lb∧IterP P gf lb Kp S Sp N w∧(∀x y,asg x y=true)∧OwnFrom w.heap.size I∧OwnFrom w.heap.size Xr∧(∀i,OwnFrom w.heap.size (Xe i))∧I [] w∧
  (∀(pre:List (Int×Int)) (x y:Int) (W:World),I pre W→pre.length<N→body x y W (fun W2=>KeepsFrom w.heap.size W W2∧Kp W W2∧I (pre++ [(x,y)]) W2) (fun W2=>KeepsFrom w.heap.size W W2∧Xr (pre++ [(x,y)]) W2) (fun i W2=>i∈exs.map (·.1)∧KeepsFrom w.heap.size W W2∧Xe i (pre++ [(x,y)]) W2))∧
  (∀(D:Nat) (xs:List (Int×Int)) (W:World),w.heap.size≤D→S xs→I xs W→W.heap[D]? =some (.deferred (some []))→done D W)∧
  (∀(D:Nat) (pre:List (Int×Int)) (W:World),w.heap.size≤D→Sp pre→Xr pre W→W.heap[D]? =some (.deferred (some []))→ret D W)∧
  exP (fun p=>∀(D:Nat) (pre:List (Int×Int)) (W:World),w.heap.size≤D→Sp pre→Xe p.1 pre W→W.heap[D]? =some (.deferred (some []))→p.2 D W) exs
def markOf (D:Nat):Deferred:={target:= .collected D,args:= #[]}
def roundAct (ps:Array Tmp) (a:Act) (x y:Int):Act:={tmps:=(ps.zip (pI (x,y))).foldl (fun t (p,v)=>t.setIfInBounds p v) a.tmps,defers:= []}
def vc (P:Program) (cut:Nat→Option ((Act→World→Prop)×(Act→World→Nat))):Code→(Exit→Act→World→Prop)→Act→World→Prop
 | .skip,Q,a,w=>Q .normal a w
 | .region id ops draw,Q,a,w=>match draw with
  |false=>vcOps P ops Q ops.toList a w
  |true=>match cut (4000000+id) with
   |some _=>vcF P ops (fun a1 w1=>vcA P ops w.drew (fun a2 w2=>vcOps P ops Q (ops.toList.drop (headN ops)) a2 w2) (alL ops (headN ops)) [] a1 w1) (mainL ops (headN ops)) a w.drew
   |none=>match cut (2000000+id) with
   |some _=>∃V:Nat→Nat→Prop,vcT P (fun q=>Bar (V q)) (needOf ops) (fun q=>vcVOp P (V q)) ops (itemsOf 0 ops.toList) (fun a' w'=>vcOps P ops Q (ops.toList.drop ops.size) a' w') ops.size (List.range ops.size) a w.drew
   |none=>match heldAt ops with
    |true=>match cut (1000000+id) with
     |none=>vcT P (fun _=>Ahead) (fun _=> [0]) (fun _=>vcQOp P) ops (planOf ops) (fun a' w'=>vcOps P ops Q (ops.toList.drop (headN ops)) a' w') (headN ops) (List.range (headN ops)) a w.drew
     |some _=>∃V:Nat→Prop,vcT P (fun _=>Bar V) (fun _=> [0]) (fun _=>vcVOp P V) ops (planOf ops) (fun a' w'=>vcOps P ops Q (ops.toList.drop (headN ops)) a' w') (headN ops) (List.range (headN ops)) a w.drew
    |false=>match tailAt ops with
     |none=>vcQ P ops w (fun a'=>∀w',Ahead w w'→Q .normal a' w') ops.toList a
     |some n=>vcQ P ops w (fun a'=>vcOps P ops Q (ops.toList.drop n) a' w.drew) (ops.toList.take n) a
 | .seq x y,Q,a,w=>match cut (3000000+entry y) with
  |some L=>vc P cut x (Exit.then (fun a w=>L.1 a w) Q) a w
  |none=>vc P cut x (Exit.then (vc P cut y Q) Q) a w
 | .cond c x y,Q,a,w=>match c with
  | .tmp d=>match a.tmps[d]? with
   |some (.bool b)=>br b (vc P cut x Q (a.put (some d) (.bool true)) w) (vc P cut y Q (a.put (some d) (.bool false)) w)
   |_=>False
  |_=>False
 | .block id c,Q,a,w=>match cut id with
  |some L=>L.1 a w
  |none=>vc P cut c (Exit.inBlock id Q) a w
 | .exit id,Q,a,w=>Q (.exit id) a w
 | .label _,Q,a,w=>Q .normal a w
 | .ret,Q,a,w=>Q .ret a w
 | .rangeFunc g ps ag body,Q,a,w=>rangeP P (a.eval g) w (fun x y=>(asgA ag (roundAct ps a x y)).isSome)
   (fun x y W Kn Kr Ke=>match asgA ag (roundAct ps a x y) with
    |some a1=>vc P (fun _=>none) body (fun e _ W2=>match e with
     | .normal=>Kn W2
     | .ret=>Kr W2
     | .exit i=>Ke i W2
     |_=>False) a1 W
    |none=>False)
   (fun D W=>Q .normal {a with defers:=markOf D::a.defers} W) (fun D W=>Q .ret {a with defers:=markOf D::a.defers} W) ((exitsOf body).map fun i=>(i,fun D W=>Q (.exit i) {a with defers:=markOf D::a.defers} W))
 |_,_,_,_=>False
def obl (P:Program) (cut:Nat→Option ((Act→World→Prop)×(Act→World→Nat))):Code→(Exit→Act→World→Prop)→Prop→Prop
 | .region id ops draw,_,rest=>match draw with
  |false=>rest
  |true=>match cut (4000000+id) with
   |some _=>floatB P ops=true∧rest
   |none=>match cut (2000000+id) with
   |some _=>heldAllB ops ops.size (itemsOf 0 ops.toList)=true∧rest
   |none=>match heldAt ops with
    |true=>heldAllB ops (headN ops) (planOf ops)=true∧rest
    |false=>match tailAt ops with
     |none=>Region.lexB .any ops=true∧rest
     |some n=>(Region.lexTailB .any ops n=true∧(ops.toList.take n).all (fun o=> !isCall o.op)=true)∧rest
 | .seq x y,Q,rest=>match cut (3000000+entry y) with
  |some L=>obl P cut x (Exit.then (fun a w=>L.1 a w) Q) ((∀a w,L.1 a w→∃cut':Nat→Option ((Act→World→Prop)×(Act→World→Nat)),vc P cut' y Q a w∧obl P cut' y Q True)∧rest)
  |none=>obl P cut x (Exit.then (vc P cut y Q) Q) (obl P cut y Q rest)
 | .cond _ x y,Q,rest=>obl P cut x Q (obl P cut y Q rest)
 | .block id c,Q,rest=>match cut id with
  |some L=>match c with
   | .loop body=>(∀a w,L.1 a w→∃cut':Nat→Option ((Act→World→Prop)×(Act→World→Nat)),vc P cut' body (Exit.then (fun a' w'=>L.1 a' w'∧L.2 a' w'<L.2 a w) (Exit.inBlock id Q)) a w∧
     obl P cut' body (Exit.then (fun a' w'=>L.1 a' w'∧L.2 a' w'<L.2 a w) (Exit.inBlock id Q)) True)∧rest
   |_=>False
  |none=>obl P cut c (Exit.inBlock id Q) rest
 | .rangeFunc _ ps ag body,_,rest=>((roundB ag&&roundB body)&&Nat.beq ps.size 2)=true∧rest
 |_,_,rest=>rest
theorem qk {P:Program} {cut:Nat→Option ((Act→World→Prop)×(Act→World→Nat))} :∀(c:Code) (Q:Exit→Act→World→Prop) (rest:Prop),obl P cut c Q rest→rest
 | .skip,_,_,h=>h
 | .region _ ops draw,_,_,h=>by
  unfold obl at h
  split at h
  ·exact h
  ·split at h
   ·exact h.2
   ·split at h
    ·exact h.2
    ·split at h
     ·exact h.2
     ·split at h<;>exact h.2
 | .seq x y,Q,rest,h=>by
  unfold obl at h
  split at h
  ·exact (qk x _ _ h).2
  ·exact qk y _ _ (qk x _ _ h)
 | .cond _ x y,Q,rest,h=>by unfold obl at h;exact qk y _ _ (qk x _ _ h)
 | .block id c,Q,rest,h=>by
  unfold obl at h
  split at h
  ·split at h
   ·exact h.2
   ·exact h.elim
  ·exact qk c _ _ h
 | .loop _,_,_,h=>h
 | .rangeFunc ..,_,_,h=>h.2
 | .exit _,_,_,h=>h
 | .scope _,_,_,h=>h
 | .label _,_,_,h=>h
 | .goto _,_,_,h=>h
 | .ret,_,_,h=>h
 | .refuse _,_,_,h=>h
theorem pc {P:Program} {cut:Nat→Option ((Act→World→Prop)×(Act→World→Nat))} :∀(c:Code) (Q:Exit→Act→World→Prop) (r r':Prop),(r→r')→obl P cut c Q r→obl P cut c Q r'
 | .skip,_,_,_,hr,h=>hr h
 | .region _ ops draw,_,_,_,hr,h=>by
  unfold obl at h⊢
  split at h
  ·exact hr h
  ·split at h
   ·exact ⟨h.1,hr h.2⟩
   ·split at h
    ·exact ⟨h.1,hr h.2⟩
    ·split at h
     ·exact ⟨h.1,hr h.2⟩
     ·split at h<;>exact ⟨h.1,hr h.2⟩
 | .seq x y,Q,r,r',hr,h=>by
  unfold obl at h⊢
  split at h
  ·exact pc x _ _ _ (fun h=>⟨h.1,hr h.2⟩) h
  ·exact pc x _ _ _ (pc y _ _ _ hr) h
 | .cond _ x y,Q,r,r',hr,h=>by unfold obl at h⊢;exact pc x _ _ _ (pc y _ _ _ hr) h
 | .block id c,Q,r,r',hr,h=>by
  unfold obl at h⊢
  split at h
  ·split at h
   ·exact ⟨h.1,hr h.2⟩
   ·exact h.elim
  ·exact pc c _ _ _ hr h
 | .loop _,_,_,_,hr,h=>hr h
 | .rangeFunc ..,_,_,_,hr,h=>⟨h.1,hr h.2⟩
 | .exit _,_,_,_,hr,h=>hr h
 | .scope _,_,_,_,hr,h=>hr h
 | .label _,_,_,_,hr,h=>hr h
 | .goto _,_,_,_,hr,h=>hr h
 | .ret,_,_,_,hr,h=>hr h
 | .refuse _,_,_,_,hr,h=>hr h
theorem j1 {P:Program} {cut:Nat→Option ((Act→World→Prop)×(Act→World→Nat))} (c:Code) (Q:Exit→Act→World→Prop) {r:Prop} (h:obl P cut c Q r):obl P cut c Q True:=pc c Q _ _ (fun _=>trivial) h
theorem dh {l n:Nat} {P:Program} :∀(c:Code) (Q:Exit→Act→World→Prop) (a:Act) (w:World),roundB c=true→vc P (fun _=>none) c Q a w→c.wpIn (rd l) n P Q a w
 | .skip,Q,a,w,_,h=>wpIn_skip h
 | .region id ops draw,Q,a,w,hr,h=>by
  simp only [roundB,Bool.and_eq_true,Bool.not_eq_true'] at hr
  obtain ⟨rfl,hn⟩:=hr
  unfold vc at h
  refine wpIn_region ?_
  have:=zcc (l:=l) (n:=n) ops.toList 0 a w (fun j=>by simp) hn h
  rwa [←List.range_eq_range',Array.length_toList] at this
 | .seq x y,Q,a,w,hr,h=>by
  simp only [roundB,Bool.and_eq_true] at hr
  unfold vc at h
  refine wpIn_seq (wpIn_mono (dh x _ a w hr.1 h) fun e a w he=> ?_)
  cases e<;>first|exact dh y Q a w hr.2 he|exact he
 | .cond c x y,Q,a,w,hr,h=>by
  simp only [roundB,Bool.and_eq_true] at hr
  unfold vc at h
  split at h
  ·rename_i d
   split at h
   ·rename_i b hb
    have he:a.eval (.tmp d)= .bool b:=by simp [Act.eval,Array.getD_eq_getD_getElem?,hb]
    cases b
    ·rw [br,ue hb] at h
     exact wpIn_cond_false he (dh y Q a w hr.2 h)
    ·rw [br,ue hb] at h
     exact wpIn_cond_true he (dh x Q a w hr.1 h)
   ·exact h.elim
  ·exact h.elim
 | .block id c,Q,a,w,hr,h=>by
  unfold vc at h
  exact wpIn_block (dh c _ a w hr h)
 | .loop _,_,_,_,hr,_=>by cases hr
 | .rangeFunc ..,_,_,_,hr,_=>by cases hr
 | .exit _,_,_,_,_,h=>wpIn_exit h
 | .scope _,_,_,_,hr,_=>by cases hr
 | .label _,_,_,_,_,h=>wpIn_label h
 | .goto _,_,_,_,hr,_=>by cases hr
 | .ret,_,_,_,_,h=>wpIn_ret h
 | .refuse _,_,_,_,hr,_=>by cases hr
theorem asgOpsSound {P:Program} {ops:Array Oper} {Q:Exit→Act→World→Prop} {w:World} :∀(l:List Oper) (a a1:Act),asgOps l a=some a1→Q .normal a1 w→vcOps P ops Q l a w
 | [],a,a1,h,hQ=>by cases h;exact hQ
 |o::r,a,a1,h,hQ=>by
  unfold asgOps at h
  rw [vcOps]
  split at h
  ·rename_i hg
   rw [hg]
   simp only
   unfold vcOp
   split at h
   ·rename_i x ho
    simp only [ho]
    exact asgOpsSound r _ a1 h hQ
   ·rename_i x ho
    simp only [ho]
    exact asgOpsSound r _ a1 h hQ
   ·cases h
  ·cases h
theorem asgSound {P:Program} {w:World} :∀(c:Code) (Q:Exit→Act→World→Prop) (a a1:Act),asgA c a=some a1→Q .normal a1 w→vc P (fun _=>none) c Q a w
 | .skip,Q,a,a1,h,hQ=>by cases h;exact hQ
 | .region _ ops draw,Q,a,a1,h,hQ=>by
  unfold asgA at h
  cases draw
  ·exact asgOpsSound _ _ _ h hQ
  ·cases h
 | .seq x y,Q,a,a1,h,hQ=>by
  unfold asgA at h
  unfold vc
  simp only
  split at h
  ·rename_i a2 h2
   exact asgSound x _ a a2 h2 (asgSound y Q a2 a1 h hQ)
  ·cases h
 | .cond ..,_,_,_,h,_=>by cases h
 | .block ..,_,_,_,h,_=>by cases h
 | .loop ..,_,_,_,h,_=>by cases h
 | .rangeFunc ..,_,_,_,h,_=>by cases h
 | .exit ..,_,_,_,h,_=>by cases h
 | .scope ..,_,_,_,h,_=>by cases h
 | .label ..,_,_,_,h,_=>by cases h
 | .goto ..,_,_,_,h,_=>by cases h
 | .ret,_,_,_,h,_=>by cases h
 | .refuse ..,_,_,_,h,_=>by cases h
theorem Gc {P:Program} {g:Operand} {ps:Array Tmp} {ag body:Code} {Q:Exit→Act→World→Prop} {a:Act} {w:World} (ha:roundB ag=true) (hb:roundB body=true) (hp:ps.size=2) (h:vc P (fun _=>none) (.rangeFunc g ps ag body) Q a w):(Code.rangeFunc g ps ag body).wp P Q a w:=by
 unfold vc at h
 obtain ⟨gf,lb,Kp,S,Sp,N,I,Xr,Xe,hg,hit,hasg,hI,hXr,hXe,h0,hbody,hdone,hret,hex⟩:=h
 have hsome:∀x y,∃a1,asgA ag (roundAct ps a x y)=some a1:=fun x y=>Option.isSome_iff_exists.1 (hasg x y)
 refine wpIn_wide.1 (wpIn_rangeFunc_ownG (F:=Fence.wide) (n:=5) rfl (by omega) hg trivial hit.enters (encs:=pI) hit.seq (fun h k=>hit.trans h k) hit.obj (Below.refl _ _) (fun _=>hp.symm) I
  (fun c pre W=>match c with
   | .ret=>Xr pre W
   | .exit i=>i∈exitsOf body∧Xe i pre W
   |_=>False) hI (fun c=> ?_) h0 (fun x=>(asgA ag (roundAct ps a x.1 x.2)).getD a) ?_ ?_ ?_ ?_)
 ·intro s A B row hs hg hr
  cases c<;>first|exact hXr s A B row hs hg hr|exact ⟨hs.1,hXe _ s A B row hs.2 hg hr⟩|exact hs
 ·intro l x W K hK
  obtain ⟨a1,h1⟩:=hsome x.1 x.2
  rw [h1] at hK
  exact dh (l:=l) ag _ _ W ha (asgSound ag _ _ a1 h1 hK)
 ·intro l pre x W hi hlen
  obtain ⟨a1,h1⟩:=hsome x.1 x.2
  have:=hbody pre x.1 x.2 W hi hlen
  simp only [h1] at this⊢
  refine wpIn_mono (dh (l:=l) body _ a1 W hb this) fun e a2 W2 he=> ?_
  cases e<;>first|exact he|exact ⟨he.2.1,by simpa using he.1,he.2.2⟩|exact he.elim
 ·intro D xs W hD hs hi hd
  exact hdone D xs W hD hs hi hd
 ·intro D c pre W hD hs hx hd
  cases c<;>first|exact hx.elim|skip
  ·rename_i i
   exact wpIn_exit (Cg hex (List.mem_map.2 ⟨i,hx.1,rfl⟩) D pre W hD hs hx.2 hd)
  ·exact wpIn_ret (hret D pre W hD hs hx hd)
theorem qm {P:Program} (hm:P.follows .mixedOrders=true):∀(c:Code) {cut:Nat→Option ((Act→World→Prop)×(Act→World→Nat))} (Q:Exit→Act→World→Prop) (a:Act) (w:World),obl P cut c Q True→vc P cut c Q a w→c.wp P Q a w
 | .skip,_,Q,a,w,_,h=>wp_skip h
 | .region id ops draw,_,Q,a,w,ho,h=>by
  unfold obl at ho
  unfold vc at h
  cases draw
  ·exact wp_region_list (nj _ _ _ h)
  ·simp only at ho h
   split at ho
   ·rename_i h4
    rw [h4] at h
    exact Gh hm ho.1 h
   rename_i h4
   rw [h4] at h
   simp only at h
   split at ho
   ·rename_i hs
    rw [hs] at h
    obtain ⟨V,h⟩:=h
    refine j7 (G:=fun q=>GMem ops V q) _ _ (fun q w=>GMem.refl w) (fun h k=>GMem.trans h k) (fun hi _ h=>zcw hi h) (fun j w w' hh q hp=> ?_) hm ho.1 h
    unfold GMem
    split
    ·rename_i hq;exact hh q (zav hq hp)
    ·trivial
   rename_i hs
   rw [hs] at h
   simp only at h
   split at ho
   ·rename_i hh
    rw [hh] at h
    simp only at h
    split at h
    ·exact j7 (G:=fun _=>Ahead) _ _ (fun _ _=>Ahead.refl _) (fun h k=>Ahead.trans h k) (fun _ hl h=>Zm (Ui hl) h) (fun j w w' hh q _=>hh 0 (by simp)) hm ho.1 h
    ·obtain ⟨V,h⟩:=h
     exact j7 (G:=fun _=>Bar V) _ _ (fun _ _=>Bar.refl _ _) (fun h k=>Bar.trans h k) (fun _ _ h=>Pn h) (fun j w w' hh q _=>hh 0 (by simp)) hm ho.1 h
   ·rename_i hh
    rw [hh] at h
    simp only at h
    split at ho
    ·rename_i ht
     rw [ht] at h
     exact Gi hm ho.1 h
    ·rename_i n ht
     rw [ht] at h
     exact F4 n hm ho.1.1 ho.1.2 h
 | .seq x y,_,Q,a,w,ho,h=>by
  unfold obl at ho
  unfold vc at h
  split at ho
  ·rename_i L hL
   rw [hL] at h
   have hx:=qm hm x _ a w (j1 _ _ ho) h
   have hoy:=(qk _ _ _ ho).1
   refine wp_seq (wp_mono hx fun e a w he=> ?_)
   cases e
   case normal=>
    obtain ⟨cut',h1,h2⟩:=hoy a w he
    exact qm hm y Q a w h2 h1
   all_goals exact he
  ·rename_i hL
   rw [hL] at h
   have hx:=qm hm x _ a w (j1 _ _ ho) h
   have hoy:=qk _ _ _ ho
   refine wp_seq (wp_mono hx fun e a w he=> ?_)
   cases e<;>first|exact qm hm y Q a w hoy he|exact he
 | .cond c x y,_,Q,a,w,ho,h=>by
  unfold obl at ho
  unfold vc at h
  split at h
  ·rename_i d
   split at h
   ·rename_i b hb
    have he:a.eval (.tmp d)= .bool b:=by simp [Act.eval,Array.getD_eq_getD_getElem?,hb]
    cases b
    ·rw [br,ue hb] at h
     exact wp_cond_false he (qm hm y Q a w (j1 _ _ (qk _ _ _ ho)) h)
    ·rw [br,ue hb] at h
     exact wp_cond_true he (qm hm x Q a w (j1 _ _ ho) h)
   ·exact h.elim
  ·exact h.elim
 | .block id c,_,Q,a,w,ho,h=>by
  unfold obl at ho
  unfold vc at h
  split at ho
  ·rename_i L hL
   rw [hL] at h
   split at ho
   ·rename_i body
    refine wp_block (wp_loop L.1 L.2 h fun a w hI=> ?_)
    obtain ⟨cut',h1,h2⟩:=ho.1 a w hI
    exact qm hm body _ a w h2 h1
   ·exact ho.elim
  ·rename_i hL
   rw [hL] at h
   exact wp_block (qm hm c _ a w ho h)
 | .loop _,_,_,_,_,_,h=>by unfold vc at h;exact h.elim
 | .rangeFunc g ps ag body,_,Q,a,w,ho,h=>by
  unfold obl at ho
  simp only [Bool.and_eq_true] at ho
  refine Gc ho.1.1.1 ho.1.1.2 (Nat.eq_of_beq_eq_true ho.1.2) ?_
  unfold vc at h⊢
  exact h
 | .exit _,_,_,_,_,_,h=>wp_exit h
 | .scope _,_,_,_,_,_,h=>by unfold vc at h;exact h.elim
 | .label _,_,_,_,_,_,h=>wp_label h
 | .goto _,_,_,_,_,_,h=>by unfold vc at h;exact h.elim
 | .ret,_,_,_,_,_,h=>wp_ret h
 | .refuse _,_,_,_,_,_,h=>by unfold vc at h;exact h.elim
def resC (P:Program) (tmps:Array Value) (w:World):List ResultVar→(List Value→Prop)→Prop
 | [],k=>k []
 | .tmp t::r,k=>resC P tmps w r fun vs=>k (tmps.getD t undef::vs)
 | .cell p t::r,k=>match tmps.getD p undef with
  | .pointer q=>onSome q fun ad=>ldT P t ad w fun v=>resC P tmps w r fun vs=>k (v::vs)
  |_=>False
def resV:List Value→Value
 | [v]=>v
 |vs=> .tuple vs.toArray
def endM (P:Program) (fn:Func) (R:Ending→World→Prop) (tmps:Array Value):List Deferred→World→Prop
 | [],w=>resC P tmps w fn.results.toList fun vs=>R (.returned (resV vs)) w
 |d::ds,w=>match d.target with
  | .collected r=>w.heap[r]? =some (.deferred (some []))∧endM P fn R tmps ds (w.putObj r (.deferred none))
  |_=>False
def vcPost (P:Program) (fn:Func) (R:Ending→World→Prop):Exit→Act→World→Prop
 | .normal,a,w=>endM P fn R a.tmps a.defers w
 | .ret,a,w=>endM P fn R a.tmps a.defers w
 |_,_,_=>False
theorem Y9 {P:Program} {tmps:Array Value} {w:World} :∀(rs:List ResultVar) (k:List Value→Prop),resC P tmps w rs k→∃vs,k vs∧∀f:ResultVar→Sem Value,(∀u,f (.tmp u)=pure (tmps.getD u undef))→(∀a t,f (.cell a t)=(do loadVar t (←asAddr (tmps.getD a undef))))→(rs.mapM f).run P w= .ok vs w
 | [],k,h=>⟨[],h,by simp⟩
 | .tmp t::r,k,h=>by
  unfold resC at h
  obtain ⟨vs,hk,hr⟩:=Y9 r _ h
  exact ⟨_,hk,fun f hf hc=>by rw [List.mapM_cons,hf];simp [hr f hf hc,Result.andThen]⟩
 | .cell p t::r,k,h=>by
  unfold resC at h
  split at h
  ·rename_i q hq
   cases q with
   |none=>exact h.elim
   |some ad=>
    obtain ⟨v,hk,hv⟩:=Cj (show ldT P t ad w (fun v=>resC P tmps w r fun vs=>k (v::vs)) from h)
    obtain ⟨vs,hk,hr⟩:=Y9 r _ hk
    exact ⟨_,hk,fun f hf hc=>by rw [List.mapM_cons,hc,hq];simp [asAddr,hv,hr f hf hc,Result.andThen]⟩
  ·exact h.elim
theorem F5 {P:Program} {fn:Func} {R:Ending→World→Prop} {tmps:Array Value} {w:World} (h:resC P tmps w fn.results.toList fun vs=>R (.returned (resV vs)) w):∃v,(results fn tmps).run P w= .ok v w∧R (.returned v) w:=by
 obtain ⟨vs,hk,hr⟩:=Y9 _ _ h
 refine ⟨resV vs, ?_,hk⟩
 generalize hrs:fn.results.toList=rs at hr
 have hrs':fn.results=rs.toArray:=by rw [←hrs]
 unfold results
 rw [hrs',List.mapM_toArray]
 simp only [Sem.run_bind,Sem.run_map]
 rw [hr _ (fun _=>rfl) (fun _ _=>rfl)]
 match vs with
 | []=>simp [resV]
 | [v]=>simp [resV]
 |v::v'::vs=>simp [resV]
theorem Ug {P:Program} {fn:Func} {R:Ending→World→Prop} {tmps:Array Value} {n:Nat} :∀(ds:List Deferred) (w:World),endM P fn R tmps ds w→LeavesInM Fence.wide n P fn tmps R ds .returning w
 | [],w,h=>by
  obtain ⟨v,h1,h2⟩:=F5 h
  exact ⟨v,h1,h2⟩
 |d::ds,w,h=>by
  unfold endM at h
  split at h
  ·rename_i r hr
   exact ⟨by simp, .inl ⟨r,_,hr,run_takeDeferred h.1,Ug ds _ h.2⟩⟩
  ·exact h.elim
theorem G6 {P:Program} {fn:Func} {R:Ending→World→Prop} {e:Exit} {a:Act} {w:World} (h:vcPost P fn R e a w):bodyPostM Fence.wide 5 P fn R e a w:=by
 cases e<;>first|exact Ug _ _ h|exact False.elim h
theorem zk {P:Program} {f:FuncId} {fn:Func} {c:Code} {args:Array Value} {w:World} {R:Ending→World→Prop} (cut:Nat→Option ((Act→World→Prop)×(Act→World→Nat))) (hm:P.follows .mixedOrders=true) (hf:P.funcs[f]? =some fn) (hb:fn.body=some c) (h:Hold (vc P cut c (vcPost P fn R) {tmps:=args++Array.replicate (fn.ntmps -args.size) undef,defers:= []} w)) (ho:obl P cut c (vcPost P fn R) True):Calls P f args w R:=
 callsIn_wide.1 (callsIn_of_wp_marks (F:=Fence.wide) (n:=5) hf hb trivial (wpIn_wide.2 (wp_mono (qm hm c _ _ _ ho h.out) fun _ _ _ h=>G6 h)))
def semS (P:Program) (e:Sem Value) (w:World) (K:Slc→World→Prop):Prop:=e.wp P (fun v w'=>∃x:Slc,v=x.v∧K x w') (fun _ _=>False) w
def semI (P:Program) (k:IntKind) (e:Sem Value) (w:World) (K:Int→World→Prop):Prop:=e.wp P (fun v w'=>∃x:Int,v= .int k x∧K x w') (fun _ _=>False) w
def semA (P:Program) (e:Sem Value) (w:World) (K:Addr→World→Prop):Prop:=e.wp P (fun v w'=>∃x:Addr,v= .pointer (some x)∧K x w') (fun _ _=>False) w
def semN (P:Program) (e:Sem Value) (w:World) (K:ByteArray→World→Prop):Prop:=e.wp P (fun v w'=>∃x:ByteArray,v= .string x∧K x w') (fun _ _=>False) w
def fixS (P:Program) (e:Sem Value) (w:World) (K:Slc→Prop):Prop:=∃x:Slc,(∀w',Ahead w w'→e.run P w'= .ok x.v w')∧K x
def fixI (P:Program) (k:IntKind) (e:Sem Value) (w:World) (K:Int→Prop):Prop:=∃x:Int,(∀w',Ahead w w'→e.run P w'= .ok (.int k x) w')∧K x
def anyA (P:Program) (e:Sem Value) (K:Addr→Prop):Prop:=∃x:Addr,(∀w',e.run P w'= .ok (.pointer (some x)) w')∧K x
def fixA (P:Program) (e:Sem Value) (w:World) (K:Addr→Prop):Prop:=∃x:Addr,(∀w',Ahead w w'→e.run P w'= .ok (.pointer (some x)) w')∧K x
def ldI (k:IntKind) (ad:Addr) (w:World) (K:Int→Prop):Prop:=∃x:Int,w.cell? ad=some (.int k x)∧K x
def ldS (ad:Addr) (w:World) (K:Slc→Prop):Prop:=∃x:Slc,w.cell? ad=some x.v∧K x
def ldB (ad:Addr) (w:World) (K:Bool→Prop):Prop:=∃x:Bool,w.cell? ad=some (.bool x)∧K x
def ldV (ad:Addr) (w:World) (K:Value→Prop):Prop:=∃x:Value,w.cell? ad=some x∧K x
def stC (ad:Addr) (v:Value) (w:World) (K:World→Prop):Prop:=(∃u,w.cell? ad=some u)∧w.frozen? ad=false∧K (w.setCell ad v)
def newC (w:World) (c:Array Value) (t:TypeId) (K:Addr→World→Prop):Prop:=K ⟨w.heap.size,0,none⟩ (w.alloc (.cells c t))
def andI (k:IntKind) (x y:Int):Int:=k.wrap (BitVec.ofInt k.bits x&&&BitVec.ofInt k.bits y).toNat
def orI (k:IntKind) (x y:Int):Int:=k.wrap (BitVec.ofInt k.bits x|||BitVec.ofInt k.bits y).toNat
def maxI (x y:Int):Int:=if y>x then y else x
def minI (x y:Int):Int:=if y<x then y else x
def atS (a:Act) (d:Nat) (K:Slc→Prop):Prop:=match a.tmps[d]? with|some (.slice A n c)=>K ⟨A,n,c⟩|_=>False
def atI (k:IntKind) (a:Act) (d:Nat) (K:Int→Prop):Prop:=match a.tmps[d]? with|some (.int k' x)=>(match k==k' with|true=>K x|false=>False)|_=>False
def atB (a:Act) (d:Nat) (K:Bool→Prop):Prop:=match a.tmps[d]? with|some (.bool x)=>K x|_=>False
def atA (a:Act) (d:Nat) (K:Addr→Prop):Prop:=match a.tmps[d]? with|some (.pointer (some x))=>K x|_=>False
def atSz (a:Act) (n:Nat) (K:Prop):Prop:=match a.tmps.size==n with|true=>(match a.defers with| []=>K|_=>False)|false=>False
def atG (a:Act) (d n:Nat) (K:Array Value→Prop):Prop:=match a.tmps[d]? with|some (.agg q)=>(match q.size==n with|true=>K q|false=>False)|_=>False
def mG (a:Act) (d:Nat) (K:Array Value→Nat):Nat:=match a.tmps[d]? with|some (.agg q)=>K q|_=>0
def mS (a:Act) (d:Nat) (K:Slc→Nat):Nat:=match a.tmps[d]? with|some (.slice A n c)=>K ⟨A,n,c⟩|_=>0
def mI (a:Act) (d:Nat) (K:Int→Nat):Nat:=match a.tmps[d]? with|some (.int _ x)=>K x|_=>0
def mB (a:Act) (d:Nat) (K:Bool→Nat):Nat:=match a.tmps[d]? with|some (.bool x)=>K x|_=>0
def mA (a:Act) (d:Nat) (K:Addr→Nat):Nat:=match a.tmps[d]? with|some (.pointer (some x))=>K x|_=>0
theorem zeg {a:Act} {d n:Nat} {K:Array Value→Prop} (h:atG a d n K):∃q:Array Value,a.tmps[d]? =some (.agg q)∧q.size=n∧K q:=by
 unfold atG at h;split at h
 ·rename_i q hh
  split at h
  ·rename_i hb;exact ⟨q,hh,by simpa using hb,h⟩
  ·exact h.elim
 ·exact h.elim
def aggL (g:Array Value):Nat→List Value→Prop
 |_, []=>True
 |i,v::l=>g[i]? =some v∧aggL g (i+1) l
theorem Hd {g:Array Value} :∀(l:List Value) (i j:Nat),aggL g i l→j<l.length→g[i+j]? =l[j]?
 | [],_,_,_,hj=>by simp at hj
 |v::l,i,0,h,_=>by simpa using h.1
 |v::l,i,j+1,h,hj=>by
  have:=Hd l (i+1) j h.2 (by simpa using hj)
  rw [show i+(j+1)=i+1+j by omega,this];simp
theorem zfc {g:Array Value} {l:List Value} (hn:g.size=l.length) (h:aggL g 0 l):g=l.toArray:=by
 apply Array.ext_getElem?
 intro j
 rcases Nat.lt_or_ge j l.length with hj|hj
 ·have:=Hd l 0 j h hj
  rw [Nat.zero_add] at this
  simpa using this
 ·rw [Array.getElem?_eq_none (by omega),Array.getElem?_eq_none (by simpa using hj)]
theorem zr {a:Act} {d:Nat} {K:Slc→Prop} (h:atS a d K):∃x:Slc,a.tmps[d]? =some x.v∧K x:=by
 unfold atS at h;split at h
 ·rename_i A n c hh;exact ⟨⟨A,n,c⟩,hh,h⟩
 ·exact h.elim
theorem zq {k:IntKind} {a:Act} {d:Nat} {K:Int→Prop} (h:atI k a d K):∃x:Int,a.tmps[d]? =some (.int k x)∧K x:=by
 unfold atI at h;split at h
 ·rename_i k' x hh
  split at h
  ·rename_i hk;rw [beq_iff_eq] at hk;subst hk;exact ⟨x,hh,h⟩
  ·exact h.elim
 ·exact h.elim
theorem th {a:Act} {d:Nat} {K:Bool→Prop} (h:atB a d K):∃x:Bool,a.tmps[d]? =some (.bool x)∧K x:=by
 unfold atB at h;split at h
 ·rename_i x hh;exact ⟨x,hh,h⟩
 ·exact h.elim
theorem yf {a:Act} {d:Nat} {K:Addr→Prop} (h:atA a d K):∃x:Addr,a.tmps[d]? =some (.pointer (some x))∧K x:=by
 unfold atA at h;split at h
 ·rename_i x hh;exact ⟨x,hh,h⟩
 ·exact h.elim
theorem ya {a:Act} {n:Nat} {K:Prop} (h:atSz a n K):a.tmps.size=n∧a.defers= []∧K:=by
 unfold atSz at h;split at h
 ·rename_i hn
  split at h
  ·rename_i hd;exact ⟨by simpa using hn,hd,h⟩
  ·exact h.elim
 ·exact h.elim
def look:List (Nat×Value)→Nat→Value→Value
 | [],_,d=>d
 |(j,v)::r,i,d=>match i==j with|true=>v|false=>look r i d
def Fr (n:Nat) (sel:List (Nat×Value)) (g:Nat→Value):Act:={tmps:=((List.range n).map fun i=>look sel i (g i)).toArray,defers:= []}
theorem zb4 {sel:List (Nat×Value)} {a:Array Value} (h:∀p∈sel,a[p.1]? =some p.2) (i:Nat) (hi:i<a.size):a[i]? =some (look sel i (a.getD i undef)):=by
 induction sel with
 |nil=>simp [look,hi]
 |cons p r ih=>
  obtain ⟨j,v⟩:=p
  unfold look
  split
  ·rename_i e;rw [beq_iff_eq] at e;subst e;exact h (i,v) (by simp)
  ·exact ih fun p hp=>h p (by simp [hp])
theorem yc {a:Array Value} :∀p∈([]:List (Nat×Value)),a[p.1]? =some p.2:=fun _ h=>by cases h
theorem zf {a:Array Value} {d:Nat} {v:Value} {r:List (Nat×Value)} (h:a[d]? =some v) (hr:∀p∈r,a[p.1]? =some p.2):∀p∈(d,v)::r,a[p.1]? =some p.2:=by
 intro p hp
 rcases List.mem_cons.1 hp with rfl|hp
 ·exact h
 ·exact hr p hp
theorem yp {a:Act} {n:Nat} (hs:a.tmps.size=n) (hd:a.defers= []) (sel:List (Nat×Value)) (h:∀p∈sel,a.tmps[p.1]? =some p.2):a=Fr n sel fun i=>a.tmps.getD i undef:=by
 obtain ⟨t,ds⟩:=a
 simp only at hs hd h⊢
 subst hd
 unfold Fr
 congr 1
 apply Array.ext_getElem?
 intro i
 by_cases hi:i<n
 ·rw [zb4 h i (by omega)]
  simp [hi]
 ·rw [Array.getElem?_eq_none (by omega),Array.getElem?_eq_none (by simp;omega)]
section
variable {P : Program} {cut : Nat → Option ((Act → World → Prop) × (Act → World → Nat))} {Q : Exit → Act → World → Prop} {rest : Prop} {x y c : Code} {i : Nat} {ops : Array Oper}
theorem za (hc:cut (3000000+entry y)=none) (h:obl P cut x (Exit.then (vc P cut y Q) Q) (obl P cut y Q rest)):obl P cut (.seq x y) Q rest:=by
 unfold obl;simp only [hc];exact h
theorem xr (L:(Act→World→Prop)×(Act→World→Nat)) (hc:cut (3000000+entry y)=some L) (h:obl P cut x (Exit.then (fun a w=>L.1 a w) Q) rest) (h1:∀a w,L.1 a w→∃cut':Nat→Option ((Act→World→Prop)×(Act→World→Nat)),Hold (vc P cut' y Q a w)∧obl P cut' y Q True):obl P cut (.seq x y) Q rest:=by
 unfold obl;simp only [hc]
 exact pc x _ _ _ (fun hr=>⟨fun a w hl=>by obtain ⟨cut',h2,h3⟩:=h1 a w hl;exact ⟨cut',h2.out,h3⟩,hr⟩) h
theorem ze (h:rest):obl P cut (.region i ops false) Q rest:=h
theorem yy (hc0:cut (2000000+i)=none) (hh:heldAt ops=true) (hl:heldAllB ops (headN ops) (planOf ops)=true) (h:rest) (hc4:cut (4000000+i)=none:=by kernel_rfl):obl P cut (.region i ops true) Q rest:=by
 unfold obl;simp only [hc4,hc0,hh];exact ⟨hl,h⟩
theorem xq (L:(Act→World→Prop)×(Act→World→Nat)) (hc0:cut (2000000+i)=some L) (hl:heldAllB ops ops.size (itemsOf 0 ops.toList)=true) (h:rest) (hc4:cut (4000000+i)=none:=by kernel_rfl):obl P cut (.region i ops true) Q rest:=by
 unfold obl;simp only [hc4,hc0];exact ⟨hl,h⟩
theorem qd (hc0:cut (2000000+i)=none) (hh:heldAt ops=false) (ht:tailAt ops=none) (hl:Region.lexB .any ops=true) (h:rest) (hc4:cut (4000000+i)=none:=by kernel_rfl):obl P cut (.region i ops true) Q rest:=by
 unfold obl;simp only [hc4,hc0,hh,ht];exact ⟨hl,h⟩
theorem jq (n:Nat) (hc0:cut (2000000+i)=none) (hh:heldAt ops=false) (ht:tailAt ops=some n) (hl:Region.lexTailB .any ops n=true) (hc:(ops.toList.take n).all (fun o=> !isCall o.op)=true) (h:rest) (hc4:cut (4000000+i)=none:=by kernel_rfl):obl P cut (.region i ops true) Q rest:=by
 unfold obl;simp only [hc4,hc0,hh,ht];exact ⟨⟨hl,hc⟩,h⟩
theorem zh {t:Operand} (h:obl P cut x Q (obl P cut y Q rest)):obl P cut (.cond t x y) Q rest:=h
theorem yh (hc:cut i=none) (h:obl P cut c (Exit.inBlock i Q) rest):obl P cut (.block i c) Q rest:=by
 unfold obl;simp only [hc];exact h
theorem yg (L:(Act→World→Prop)×(Act→World→Nat)) (hc:cut i=some L) (h1:∀a w,L.1 a w→∃cut':Nat→Option ((Act→World→Prop)×(Act→World→Nat)),Hold (vc P cut' x (Exit.then (fun a' w'=>L.1 a' w'∧L.2 a' w'<L.2 a w) (Exit.inBlock i Q)) a w)∧obl P cut' x (Exit.then (fun a' w'=>L.1 a' w'∧L.2 a' w'<L.2 a w) (Exit.inBlock i Q)) True) (h:rest):obl P cut (.block i (.loop x)) Q rest:=by
 unfold obl;simp only [hc]
 exact ⟨fun a w hl=>by obtain ⟨cut',h2,h3⟩:=h1 a w hl;exact ⟨cut',h2.out,h3⟩,h⟩
theorem zi (h:rest):obl P cut .skip Q rest:=h
theorem ye (h:rest):obl P cut (.exit i) Q rest:=h
theorem zg (h:rest):obl P cut .ret Q rest:=h
end
abbrev ld2 (A : Addr) (w : World) (K : Bool → Slc → Prop) : Prop := ldB A w fun b => ldS (A.add 1) w fun s => K b s
abbrev ld3 (A : Addr) (w : World) (K : Bool → Slc → Int → Prop) : Prop := ldB A w fun b => ldS (A.add 1) w fun s => ldI .i64 (A.add 2) w fun x => K b s x
abbrev ldr (A : Addr) (w : World) (K : Bool → Slc → Slc → Prop) : Prop := ldB A w fun b => ldS (A.add 1) w fun s => ldS (A.add 2) w fun t => K b s t
abbrev ld6 (A : Addr) (w : World) (K : Bool → Slc → Int → Bool → Slc → Int → Prop) : Prop := ldB A w fun b => ldS (A.add 1) w fun s => ldI .i64 (A.add 2) w fun x => ldB (A.add 3) w fun c => ldS (A.add 4) w fun t => ldI .i64 (A.add 5) w fun y => K b s x c t y
abbrev xt2 (A : Addr) (a b : Value) (w : World) (K : World → Prop) : Prop := stC A a w fun w => stC (A.add 1) b w fun w => K w
abbrev xt3 (A : Addr) (a b c : Value) (w : World) (K : World → Prop) : Prop := stC A a w fun w => stC (A.add 1) b w fun w => stC (A.add 2) c w fun w => K w
abbrev xt6 (A : Addr) (a b c d e f : Value) (w : World) (K : World → Prop) : Prop := stC A a w fun w => stC (A.add 1) b w fun w => stC (A.add 2) c w fun w => stC (A.add 3) d w fun w => stC (A.add 4) e w fun w => stC (A.add 5) f w fun w => K w
abbrev nSl : Slc := ⟨none, 0, 0⟩
abbrev uD (b : Bool) (s : Slc) (x : Int) : Value := .agg #[.bool b, s.v, .int .i64 x]
abbrev uR (b : Bool) (s t : Slc) : Value := .agg #[.bool b, s.v, t.v]
abbrev uP (b : Bool) (s : Slc) : Value := .agg #[.bool b, s.v]
abbrev uS (b : Bool) (s : Slc) (x : Int) (c : Bool) (t : Slc) (y : Int) : Value := .agg #[.bool b, s.v, .int .i64 x, .bool c, t.v, .int .i64 y]
abbrev zD (b : Bool) (s : Slc) (x : Int) : Array Value := #[.bool b, s.v, .int .i64 x]
abbrev zR (b : Bool) (s t : Slc) : Array Value := #[.bool b, s.v, t.v]
abbrev zS (b : Bool) (s : Slc) (x : Int) (c : Bool) (t : Slc) (y : Int) : Array Value := #[.bool b, s.v, .int .i64 x, .bool c, t.v, .int .i64 y]
abbrev vt (a b : Value) : Value := .tuple #[a, b]
abbrev vi (x : Int) : Value := .int .i64 x
abbrev vp (x : Addr) : Value := .pointer (some x)
abbrev xD (A : Addr) (b : Bool) (s : Slc) (x : Int) (w : World) (K : World → Prop) : Prop := xt3 A (.bool b) s.v (vi x) w K
abbrev xS (A : Addr) (b : Bool) (s : Slc) (x : Int) (c : Bool) (t : Slc) (y : Int) (w : World) (K : World → Prop) : Prop := xt6 A (.bool b) s.v (vi x) (.bool c) t.v (vi y) w K
abbrev xR (A : Addr) (b : Bool) (s t : Slc) (w : World) (K : World → Prop) : Prop := xt3 A (.bool b) s.v t.v w K
abbrev jB (e : Ending) (K : Bool → Prop) : Prop := ∃ b : Bool, e = .returned (.bool b) ∧ K b
abbrev jI (e : Ending) (K : Int → Prop) : Prop := ∃ x : Int, e = .returned (.int .i64 x) ∧ K x
abbrev jS (e : Ending) (K : Slc → Prop) : Prop := ∃ s : Slc, e = .returned s.v ∧ K s
abbrev jD (e : Ending) (K : Bool → Slc → Int → Prop) : Prop := ∃ b : Bool, ∃ s : Slc, ∃ x : Int, e = .returned (uD b s x) ∧ K b s x
abbrev jR (e : Ending) (K : Bool → Slc → Slc → Prop) : Prop := ∃ b : Bool, ∃ s : Slc, ∃ t : Slc, e = .returned (uR b s t) ∧ K b s t
abbrev jU (e : Ending) (K : Bool → Slc → Int → Int → Prop) : Prop := ∃ b : Bool, ∃ s : Slc, ∃ x : Int, ∃ y : Int, e = .returned (.tuple #[uD b s x, vi y]) ∧ K b s x y
abbrev jV (e : Ending) (K : Bool → Slc → Int → Bool → Slc → Int → Int → Prop) : Prop := ∃ b : Bool, ∃ s : Slc, ∃ x : Int, ∃ c : Bool, ∃ t : Slc, ∃ y : Int, ∃ z : Int, e = .returned (.tuple #[uS b s x c t y, vi z]) ∧ K b s x c t y z
abbrev jT (e : Ending) (K : Int → Int → Prop) : Prop := ∃ x : Int, ∃ y : Int, e = .returned (.tuple #[vi x, vi y]) ∧ K x y
abbrev kB (n : FuncId) (a : Array Value) (w : World) (K : World → Bool → Prop) : Prop := Calls pr n a w fun e u => jB e fun b => K u b
abbrev kI (n : FuncId) (a : Array Value) (w : World) (K : World → Int → Prop) : Prop := Calls pr n a w fun e u => jI e fun x => K u x
abbrev kS (n : FuncId) (a : Array Value) (w : World) (K : World → Slc → Prop) : Prop := Calls pr n a w fun e u => jS e fun s => K u s
abbrev kD (n : FuncId) (a : Array Value) (w : World) (K : World → Bool → Slc → Int → Prop) : Prop := Calls pr n a w fun e u => jD e fun b s x => K u b s x
abbrev kR (n : FuncId) (a : Array Value) (w : World) (K : World → Bool → Slc → Slc → Prop) : Prop := Calls pr n a w fun e u => jR e fun b s t => K u b s t
abbrev kU (n : FuncId) (a : Array Value) (w : World) (K : World → Bool → Slc → Int → Int → Prop) : Prop := Calls pr n a w fun e u => jU e fun b s x y => K u b s x y
abbrev kV (n : FuncId) (a : Array Value) (w : World) (K : World → Bool → Slc → Int → Bool → Slc → Int → Int → Prop) : Prop := Calls pr n a w fun e u => jV e fun b s x c t y z => K u b s x c t y z
abbrev kT (n : FuncId) (a : Array Value) (w : World) (K : World → Int → Int → Prop) : Prop := Calls pr n a w fun e u => jT e fun x y => K u x y
end Eng
end
section
open Go Go.RowKit Eng
namespace Sp
def ints (k:IntKind) (l:List Int):List Value:=l.map (Value.int k)
theorem Y1 {k:IntKind} {l:List Int} {i:Nat} (h:i<l.length):(ints k l)[i]? =some (.int k (l.getD i 0)):=by
 simp [ints,h]
structure Rd (k:IntKind) (w:World) (s:Slc) (l:List Int):Prop where
  n:s.n=l.length
  c:s.n≤s.c
  get:∀i,i<l.length→∃ad,s.A=some ad∧w.cell? (ad.add i)=some (.int k (l.getD i 0))
theorem Rd.ahead {k:IntKind} {w w' s} {l:List Int} (h:Rd k w s l) (ha:Ahead w w'):Rd k w' s l:=
 ⟨h.n,h.c,fun i hi=>by obtain ⟨ad,e,hc⟩:=h.get i hi;exact ⟨ad,e,ha.cell hc⟩⟩
theorem Rd.nil {k:IntKind} {w:World} {A:Option Addr} {c:Nat} :Rd k w ⟨A,0,c⟩ []:=⟨rfl,Nat.zero_le _,fun i hi=>by simp at hi⟩
structure Owr (k:IntKind) (t:TypeId) (w:World) (s:Slc) (l:List Int) (b:Nat):Prop where
  hd:s=⟨some ⟨b,0,none⟩,l.length,s.c⟩
  mem:∃sp:List Value,s.c=l.length+sp.length∧w.heap[b]? =some (.cells (ints k l++sp).toArray t (0,0))
theorem zz {b i:Nat} :(⟨b,0,none⟩:Addr).add i=⟨b,i,none⟩:=by
 unfold Addr.add;split
 ·rename_i h;subst h;rfl
 ·simp
theorem Owr.n {k:IntKind} {t:TypeId} {w s} {l:List Int} {b:Nat} (h:Owr k t w s l b):s.n=l.length:=by rw [h.hd]
theorem Owr.A {k:IntKind} {t:TypeId} {w s} {l:List Int} {b:Nat} (h:Owr k t w s l b):s.A=some ⟨b,0,none⟩:=by rw [h.hd]
theorem Owr.lt {k:IntKind} {t:TypeId} {w s} {l:List Int} {b:Nat} (h:Owr k t w s l b):b<w.heap.size:=by
 obtain ⟨sp,_,hm⟩:=h.mem
 exact (Array.getElem?_eq_some_iff.1 hm).1
theorem Owr.cell {k:IntKind} {t:TypeId} {w s} {l:List Int} {b:Nat} (h:Owr k t w s l b) {i:Nat} (hi:i<l.length):w.cell? ⟨b,i,none⟩=some (.int k (l.getD i 0)):=by
 obtain ⟨sp,_,hm⟩:=h.mem
 simp [World.cell?,hm,ints,List.getElem?_append,hi]
theorem Owr.rd {k:IntKind} {t:TypeId} {w s} {l:List Int} {b:Nat} (h:Owr k t w s l b):Rd k w s l:=by
 refine ⟨h.n, ?_,fun i hi=>⟨_,h.A,by rw [zz];exact h.cell hi⟩⟩
 obtain ⟨sp,hc,_⟩:=h.mem
 rw [h.n];omega
theorem Owr.ahead {k:IntKind} {t:TypeId} {w w' s} {l:List Int} {b:Nat} (h:Owr k t w s l b) (ha:Ahead w w'):Owr k t w' s l b:=by
 obtain ⟨sp,hc,hm⟩:=h.mem
 refine ⟨h.hd,sp,hc, ?_⟩
 have:=ha.block b h.lt
 rw [this];exact hm
theorem Owr.frozen {k:IntKind} {t:TypeId} {w s} {l:List Int} {b:Nat} (h:Owr k t w s l b) (i:Nat):w.frozen? ⟨b,i,none⟩=false:=by
 obtain ⟨sp,_,hm⟩:=h.mem
 simp [World.frozen?,hm]
theorem Ahead.setCell {w0 w} {ad:Addr} {v:Value} (h:Ahead w0 w) (hb:w0.heap.size≤ad.block):Ahead w0 (w.setCell ad v):=
 Below.trans h ⟨rfl,rfl,rfl,by simp [World.setCell],fun k hk=>Below.heap_setCell _ _ _ _ (by omega)⟩
theorem pz (w:World) (o:Obj):(w.alloc o).heap.size=w.heap.size+1:=by show (w.heap.push o).size=_;simp
theorem te (w:World) (o:Obj):(w.alloc o).heap[w.heap.size]? =some o:=by show (w.heap.push o)[w.heap.size]? =_;simp
theorem Ahead.alloc (w:World) (o:Obj):Ahead w (w.alloc o):=Below.alloc (Below.refl _ _) (Nat.le_refl _) o
theorem Ahead.drew (w:World):Ahead w w.drew:=(Below.refl _ w).drew
theorem Ahead.size {w w'} (h:Ahead w w'):w.heap.size≤w'.heap.size:=Below.size h
theorem Owr.set {k:IntKind} {t:TypeId} {w s} {l:List Int} {b:Nat} (h:Owr k t w s l b) {i:Nat} (hi:i<l.length) (x:Int):Owr k t (w.setCell ⟨b,i,none⟩ (.int k x)) s (l.set i x) b:=by
 obtain ⟨sp,hc,hm⟩:=h.mem
 refine ⟨by rw [h.hd];simp,sp,by simpa using hc, ?_⟩
 simp only [World.setCell,Array.getElem?_modify]
 simp [hm,ints,List.set_append,hi,List.map_set]
def isSl (P:Program) (t:TypeId) (k:IntKind):Option TypeId:=match P.underlying t with
 |some (.slice e)=>match P.info? e with
  |some i=>match i.size,i.bytes,i.zero,P.underlying e with
   |1,8,some (.int k' 0),some (.int k'')=>if k=k'∧k=k'' then some e else none
   |_,_,_,_=>none
  |none=>none
 |_=>none
theorem tu {P:Program} {t:TypeId} {k:IntKind} {e:TypeId} (h:isSl P t k=some e):P.underlying t=some (.slice e)∧P.underlying e=some (.int k)∧∃i,P.info? e=some i∧i.size=1∧i.bytes=8∧i.zero=some (.int k 0):=by
 unfold isSl at h
 split at h
 ·rename_i e' hu
  split at h
  ·rename_i i hi
   split at h
   ·rename_i k' k'' h1 h2 h3 h4
    split at h
    ·rename_i hk
     obtain ⟨rfl,rfl⟩:=hk
     obtain rfl:=Option.some.inj h
     exact ⟨hu,h4,i,hi,h1,h2,h3⟩
    ·cases h
   ·cases h
  ·cases h
 ·cases h
section
variable {P : Program} {t e : TypeId} {k : IntKind}
theorem vg (hT:isSl P t k=some e) (w:World) (s:Slc) (i:Int) (ad:Addr) (hA:s.A=some ad) (h0:0≤i) (h1:i<s.n):(Instr.indexAt t s.v (.int .i64 i)).run P w= .ok (.pointer (some (ad.add i.toNat))) w:=by
 obtain ⟨hu,_,inf,hi,hs,_⟩:=tu hT
 obtain ⟨A,n,c⟩:=s
 simp only at hA h1
 subst hA
 simp only [Instr.indexAt,asIntOf,Slc.v,underlying,program,Sem.run_bind,Sem.run,Result.andThen,hu,Sem.run_pure]
 simp [h0,h1,sizeOf,typeInfo,program,Sem.run,hi,hs,hu]
theorem M7 (hT:isSl P t k=some e) {w:World} {s:Slc} {l:List Int} (h:Rd k w s l) {i:Int} (h0:0≤i) (h1:i<l.length) {K:Int→World→Prop} (hk:K (l.getD i.toNat 0) w):semA P (Instr.indexAt t s.v (.int .i64 i)) w fun ad w1=>ldI k ad w1 fun x=>K x w1:=by
 obtain ⟨ad,hA,hc⟩:=h.get i.toNat (by omega)
 unfold semA
 rw [Sem.wp_iff_run,vg hT w s i ad hA h0 (by rw [h.n];exact h1)]
 exact ⟨_,rfl,_,hc,hk⟩
theorem zfk (hT:isSl P t k=some e) {w:World} {s:Slc} {l:List Int} (h:Rd k w s l) {i:Int} (h0:0≤i) (h1:i<l.length) {K:Int→Prop} (hk:K (l.getD i.toNat 0)):fixA P (Instr.indexAt t s.v (.int .i64 i)) w fun ad=>ldI k ad w fun x=>K x:=by
 obtain ⟨ad,hA,hc⟩:=h.get i.toNat (by omega)
 exact ⟨_,fun w' _=>vg hT w' s i ad hA h0 (by rw [h.n];exact h1),_,hc,hk⟩
theorem M8 (hT:isSl P t k=some e) {w:World} {s:Slc} {l:List Int} {b:Nat} (h:Owr k e w s l b) {i:Int} (h0:0≤i) (h1:i<l.length) {x:Int} {K:World→Prop} (hk:∀w',Owr k e w' s (l.set i.toNat x) b→(∀w0,Ahead w0 w→w0.heap.size≤b→Ahead w0 w')→w'.heap.size=w.heap.size→K w'):semA P (Instr.indexAt t s.v (.int .i64 i)) w fun ad w1=>stC ad (.int k x) w1 fun w2=>K w2:=by
 unfold semA
 rw [Sem.wp_iff_run,vg hT w s i _ h.A h0 (by rw [h.n];exact h1)]
 refine ⟨_,rfl, ?_⟩
 try dsimp only
 rw [zz]
 refine ⟨⟨_,h.cell (by omega)⟩,h.frozen _,hk _ (h.set (by omega) x) (fun w0 ha hb=> ?_) (by simp [World.setCell])⟩
 exact Ahead.setCell ha hb
theorem jg (w:World) (c:Array Value):(newRow e c).run P w= .ok ⟨w.heap.size,0,none⟩ (w.alloc (.cells c e)):=by
 simp [newRow,newObj,Sem.run]
theorem ky (hT:isSl P t k=some e) (w:World) (n c:Nat) (hnc:n≤c) (hn:c*8≤2^48):(Instr.makeSlice t (.int .i64 n) (.int .i64 c)).run P w= .ok (.slice (some ⟨w.heap.size,0,none⟩) n c) (w.alloc (.cells (ints k (List.replicate c 0)).toArray e (0,0))):=by
 obtain ⟨hu,he,inf,hi,hs,hb,hz⟩:=tu hT
 have hw:IntKind.i64.wrap (n:Int)=n:=by unfold IntKind.wrap;simp [IntKind.bits,IntKind.signed];omega
 have hwc:IntKind.i64.wrap (c:Int)=c:=by unfold IntKind.wrap;simp [IntKind.bits,IntKind.signed];omega
 have hzero:(zeroValue e).run P w= .ok (.int k 0) w:=by simp [zeroValue,typeInfo,program,Sem.run,hi,hz]
 have hcells:(Array.range c).map (fun i=>(#[Value.int k 0]:Array Value)[i % 1]!)=(ints k (List.replicate c 0)).toArray:=by
  apply Array.ext
  ·simp [ints]
  ·intro i h1 h2;simp [ints,Nat.mod_one]
 have c1:(decide ((c:Int)<0)||decide (((8:Nat):Int)*(c:Int)>2^48))=false:=by
  simp only [Bool.or_eq_false_iff,decide_eq_false_iff_not];omega
 have c2:decide ((n:Int)<0)=false:=by simp only [decide_eq_false_iff_not];omega
 have c3:decide ((n:Int)>(c:Int))=false:=by simp only [decide_eq_false_iff_not];omega
 have hti:(typeInfo e).run P w= .ok inf w:=by simp [typeInfo,program,Sem.run,hi]
 have hsz:(sizeOf e).run P w= .ok 1 w:=by simp [sizeOf,hti,hs]
 have hul:(underlying t).run P w= .ok (.slice e) w:=by simp [underlying,program,Sem.run,hu]
 unfold Instr.makeSlice
 simp only [Sem.run_bind,hul,Result.andThen,asInt,asIntOf,Sem.run_pure,hti,hb,hw,hwc,c1,c2,c3,Bool.or_self,if_false,Bool.false_eq_true,Int.toNat_natCast,run_askRoom,hsz,Nat.mul_one]
 by_cases h0:c=0
 ·subst h0
  simp only [if_true,Sem.run_pure,Sem.run_bind,Result.andThen,jg]
  have hr:∀f:Nat→Value,(Array.range 0).map f= #[]:=fun f=>Array.eq_empty_of_size_eq_zero (by simp)
  simp [ints,hr]
 ·simp only [h0,if_false,hzero,Sem.run_bind,Result.andThen,Sem.run_pure,Value.cells,List.size_toArray,List.length_cons,List.length_nil,Nat.zero_add,hcells,jg]
theorem mk (hT:isSl P t k=some e) {w:World} {n c:Int} (h0:0≤n) (hnc:n≤c) (hn:c*8≤2^48) {K:Slc→World→Prop} (hk:∀s w',s.c=c.toNat→Owr k e w' s (List.replicate n.toNat 0) w.heap.size→Ahead w w'→w'.heap.size=w.heap.size+1→K s w'):semS P (Instr.makeSlice t (.int .i64 n) (.int .i64 c)) w fun s w'=>K s w':=by
 obtain ⟨n,rfl⟩:=Int.eq_ofNat_of_zero_le h0
 obtain ⟨c,rfl⟩:=Int.eq_ofNat_of_zero_le (Int.le_trans h0 hnc)
 unfold semS
 rw [Sem.wp_iff_run,ky hT w n c (by omega) (by omega)]
 refine ⟨⟨_,_,_⟩,rfl,hk _ _ (by simp) ⟨by simp,ints k (List.replicate (c -n) 0),by simp [ints];omega, ?_⟩ (Ahead.alloc _ _) (pz _ _)⟩
 rw [te,Int.toNat_natCast]
 unfold ints
 rw [←List.map_append,List.replicate_append_replicate,show n+(c -n)=c by omega]
theorem cy (A:Option Addr):A.map (fun a=>a.add 0)=A:=by cases A<;>simp [Addr.add]
theorem mw (hT:isSl P t k=some e) (w:World) (s:Slc) {h:Int} (h0:0≤h) (h1:h≤s.c):(Instr.sliceAt t s.v none (some (.int .i64 h)) none).run P w= .ok (Slc.v ⟨s.A,h.toNat,s.c⟩) w:=by
 obtain ⟨hu,he,inf,hi,hs,hb,hz⟩:=tu hT
 simp [Instr.sliceAt,Instr.slice,Instr.sliceBounds,Instr.sliceBound,run_underlying hu,asIntOf,h0,h1,sizeOf,typeInfo,hi,hs,Slc.v,cy]
theorem Gk (hT:isSl P t k=some e) (w:World) (s:Slc) {h:Int} (h0:0≤h) (h1:h≤s.n):(Instr.sliceAt t s.v (some (.int .i64 h)) none none).run P w= .ok (Slc.v ⟨if s.c=h.toNat then s.A else s.A.map (·.add h.toNat),s.n -h.toNat,s.c -h.toNat⟩) w:=by
 obtain ⟨hu,he,inf,hi,hs,hb,hz⟩:=tu hT
 simp [Instr.sliceAt,Instr.slice,Instr.sliceBounds,Instr.sliceBound,run_underlying hu,asIntOf,h0,h1,sizeOf,typeInfo,hi,hs,Slc.v]
theorem gp (hT:isSl P t k=some e) (w:World) (s:Slc) {l h:Int} (l0:0≤l) (l1:l≤h) (h1:h≤s.c):(Instr.sliceAt t s.v (some (.int .i64 l)) (some (.int .i64 h)) none).run P w= .ok (Slc.v ⟨if s.c=l.toNat then s.A else s.A.map (·.add l.toNat),h.toNat -l.toNat,s.c -l.toNat⟩) w:=by
 obtain ⟨hu,he,inf,hi,hs,hb,hz⟩:=tu hT
 have h0:0≤h:=by omega
 have h2:l≤max h 0:=by omega
 simp [Instr.sliceAt,Instr.slice,Instr.sliceBounds,Instr.sliceBound,run_underlying hu,asIntOf,h0,h1,h2,l0,sizeOf,typeInfo,hi,hs,Slc.v]
theorem Mp (hT:isSl P t k=some e) (w:World) (s:Slc) {h:Int} (h0:0≤h) (h1:h≤s.c):(Instr.sliceAt t s.v none (some (.int .i64 h)) (some (.int .i64 h))).run P w= .ok (Slc.v ⟨s.A,h.toNat,h.toNat⟩) w:=by
 obtain ⟨hu,he,inf,hi,hs,hb,hz⟩:=tu hT
 have h2:h≤max h 0:=by omega
 simp [Instr.sliceAt,Instr.slice,Instr.sliceBounds,Instr.sliceBound,run_underlying hu,asIntOf,h0,h1,h2,sizeOf,typeInfo,hi,hs,Slc.v,cy]
theorem Rd.take {w s} {l:List Int} (h:Rd k w s l) {m c:Nat} (hm:m≤l.length) (hc:m≤c):Rd k w ⟨s.A,m,c⟩ (l.take m):=
 ⟨by simp;omega,hc,fun i hi=>by
  have hi':i<m:=by simp at hi;omega
  obtain ⟨ad,e,hh⟩:=h.get i (by omega)
  refine ⟨ad,e, ?_⟩
  rw [hh];simp [List.getElem?_take,hi']⟩
theorem zed (a:Addr) (i j:Nat):(a.add i).add j=a.add (i+j):=by
 by_cases h:i=0
 ·subst h;simp [Addr.add]
 ·by_cases h':j=0
  ·subst h';simp [Addr.add,h]
  ·have:¬(i+j=0):=by omega
   simp only [Addr.add,h,h',this,if_false]
   congr 1;omega
theorem Rd.drop {w s} {l:List Int} (h:Rd k w s l) {m:Nat} (hm:m≤l.length):Rd k w ⟨if s.c=m then s.A else s.A.map (·.add m),s.n -m,s.c -m⟩ (l.drop m):=
 ⟨by simp [h.n],by have:=h.c;simp;omega,fun i hi=>by
  simp at hi
  obtain ⟨ad,e,hh⟩:=h.get (m+i) (by omega)
  have:=h.c
  have:=h.n
  refine ⟨ad.add m, ?_, ?_⟩
  ·simp only;rw [if_neg (by omega),e];rfl
  ·rw [zed,hh];simp⟩
theorem Owr.take {w s} {l:List Int} {b:Nat} (h:Owr k e w s l b) {m:Nat} (hm:m≤l.length):Owr k e w ⟨s.A,m,s.c⟩ (l.take m) b:=by
 obtain ⟨sp,hc,hh⟩:=h.mem
 refine ⟨by rw [h.A];simp;omega,ints k (l.drop m)++sp,by simp [ints];omega, ?_⟩
 rw [hh];unfold ints
 rw [←List.append_assoc,←List.map_append,List.take_append_drop]
theorem Owr.ownsRow {w s} {l:List Int} {b:Nat} (h:Owr k e w s l b) {base:Nat} (hb:base≤b) (hc:s.c≤maxLen):w.ownsRow base e 1 s.v l.length (ints k l):=by
 obtain ⟨sp,hc',hh⟩:=h.mem
 refine ⟨by simp [ints], .inr ⟨b,s.c,_,by rw [Slc.v,h.A,h.n],hb,hh,by omega,hc,by simp [ints];omega, ?_⟩⟩
 simp [ints]
theorem zax {w:World} {base:Nat} {v:Value} {l:List Int} (h:w.ownsRow base e 1 v l.length (ints k l)) (hn:v≠ .slice none 0 0):∃s b,v=Slc.v s∧base≤b∧s.c≤maxLen∧Owr k e w s l b:=by
 obtain ⟨_,⟨hv,_⟩|⟨g,cap,cur,hv,hg,hh,hn,hc,hs,ht⟩⟩:=h
 ·exact absurd hv hn
 ·refine ⟨⟨_,_,_⟩,g,hv,hg,hc,rfl,cur.toList.drop l.length,by simp;omega, ?_⟩
  rw [Nat.mul_one] at ht
  rw [hh,←ht,List.take_append_drop]
theorem app (hT:isSl P t k=some e) {w:World} {s x:Slc} {l ys:List Int} {ty:TypeId} {base:Nat} (hx:Rd k w x ys) (hy:0<ys.length) (hs:(s=⟨none,0,0⟩∧l= [])∨∃b,base≤b∧s.c≤maxLen∧Owr k e w s l b) (hb:base≤w.heap.size) (hsz:(l.length+ys.length)*8≤2^47) {K:Slc→World→Prop} (hk:∀s' w' b',base≤b'→s'.c≤maxLen→Owr k e w' s' (l++ys) b'→Below base w w'→(∀w0,Ahead w0 w→(∀b,s.A=some ⟨b,0,none⟩→w0.heap.size≤b)→Ahead w0 w')→K s' w'):semS P (Builtin.append_ #[t,t] ty #[s.v,x.v]) w fun s' w'=>K s' w':=by
 obtain ⟨hu,he,inf,hi,hs1,hb8,hz⟩:=tu hT
 obtain ⟨ad,hA,_⟩:=hx.get 0 hy
 have hrow:w.ownsRow base e 1 s.v l.length (ints k l):=by
  rcases hs with ⟨rfl,rfl⟩|⟨b,h1,h2,h3⟩
  ·exact ⟨rfl, .inl ⟨rfl,rfl⟩⟩
  ·exact h3.ownsRow h1 h2
 obtain ⟨v',w',hr,ho,hg,hn⟩:=run_append_own (P:=P) (ty:=ty) w base t e inf (.int k 0) 1 8 hu hi hz hs1 hb8 rfl (by omega) s.v l.length (ints k l) hrow ad ys.length x.c (ints k ys) (by simp [ints])
  (fun j u hj=>by
   have hj':j<ys.length:=by
    have:=(List.getElem?_eq_some_iff.1 hj).1
    simpa [ints] using this
   obtain ⟨ad',e',hc⟩:=hx.get j hj'
   rw [hA] at e'
   obtain rfl:=Option.some.inj e'
   rw [Y1 hj'] at hj
   obtain rfl:=Option.some.inj hj
   exact hc) (by simp [ints,Value.oneCell']) (by unfold maxLen;omega) (by omega) hb
 have hne:v'≠ .slice none 0 0:=fun h=>by have:=hn.1 h;omega
 have ho':w'.ownsRow base e 1 v' (l++ys).length (ints k (l++ys)):=by
  simp only [ints,List.map_append,List.length_append];exact ho
 obtain ⟨s',b',rfl,hb',hc',hown⟩:=zax ho' hne
 unfold semS
 have hxv:x.v= .slice (some ad) ys.length x.c:=by rw [Slc.v,hA,hx.n]
 rw [Sem.wp_iff_run,hxv,hr]
 have hblk:∀b,s.v.ownBlock=some b→(s=⟨none,0,0⟩∧l= [])∨(s.A=some ⟨b,0,none⟩∧base≤b):=by
  intro b hb2
  rcases hs with h|⟨b0,h1,h2,h3⟩
  ·exact .inl h
  ·right
   rw [Slc.v,h3.A] at hb2
   simp [Value.ownBlock] at hb2
   subst hb2
   exact ⟨h3.A,h1⟩
 refine ⟨s',rfl,hk s' w' b' hb' hc' hown ?_ ?_⟩
 ·refine Below.grown (Below.refl _ _) hg hb fun k hk=> ?_
  rcases hblk k hk with ⟨h,_⟩|h
  ·rw [h] at hk;simp [Slc.v,Value.ownBlock] at hk
  ·exact h.2
 ·intro w0 ha hlow
  refine Below.grown ha hg ha.size fun k hk=> ?_
  rcases hblk k hk with ⟨h,_⟩|h
  ·rw [h] at hk;simp [Slc.v,Value.ownBlock] at hk
  ·exact hlow k h.1
theorem app0 (hT:isSl P t k=some e) {w:World} {x:Slc} {ty:TypeId} (hx:x.n=0) {K:Slc→World→Prop} (hk:K ⟨none,0,0⟩ w):semS P (Builtin.append_ #[t,t] ty #[Slc.v ⟨none,0,0⟩,x.v]) w fun s' w'=>K s' w':=by
 obtain ⟨hu,he,inf,hi,hs1,hb8,hz⟩:=tu hT
 unfold semS
 rw [Sem.wp_iff_run]
 have hr:(Builtin.append_ #[t,t] ty #[Slc.v ⟨none,0,0⟩,x.v]).run P w= .ok (.slice none 0 0) w:=by
  obtain ⟨A,n,c⟩:=x
  simp only at hx
  subst hx
  cases A<;>simp [Builtin.append_,Slc.v,run_underlying hu,sizeOf,typeInfo,hi,hs1,Builtin.lenOf,Builtin.firstCells,loadCells,loadCellsFrom]
 rw [hr]
 exact ⟨⟨none,0,0⟩,rfl,hk⟩
end
end Sp
end
section
namespace Dg
def B64:Nat:=18446744073709551616
def B32:Nat:=4294967296
theorem B64v:B64=18446744073709551616:=rfl
theorem B32v:B32=4294967296:=rfl
theorem two64:2≤B64:=by decide
theorem two32:2≤B32:=by decide
theorem xx {α:Type} (l:List α) (d:α) {i:Nat} (h:i<l.length):l.getD i d=l[i]:=by simp [List.getD_eq_getElem?_getD,h]
theorem ui {α:Type} (l:List α) (d:α) {i:Nat} (h:l.length≤i):l.getD i d=d:=by simp [List.getD_eq_getElem?_getD,h]
def val (B:Nat):List Nat→Nat
 | []=>0
 |x::l=>x+B*val B l
def ok (B:Nat) (l:List Nat):Prop:=∀x∈l,x<B
def digs (B n:Nat):List Nat:=if h:2≤B∧n≠0 then n % B::digs B (n/B) else []
termination_by n
decreasing_by exact Nat.div_lt_self (by omega) (by omega)
section
variable {B : Nat}
theorem yq:digs B 0= []:=by unfold digs;simp
theorem tm (hB:2≤B) {n:Nat} (hn:n≠0):digs B n=n % B::digs B (n/B):=by
 rw [digs];simp [hB,hn]
theorem zu (hB:2≤B) (n:Nat):val B (digs B n)=n:=by
 induction n using Nat.strongRecOn with
 |_ n ih=>
  by_cases hn:n=0
  ·subst hn;rw [yq];rfl
  ·rw [tm hB hn,val,ih _ (Nat.div_lt_self (by omega) (by omega))]
   have:=Nat.mod_add_div n B
   omega
theorem yb (hB:2≤B) (n:Nat):ok B (digs B n):=by
 induction n using Nat.strongRecOn with
 |_ n ih=>
  by_cases hn:n=0
  ·subst hn;rw [yq];intro x hx;cases hx
  ·rw [tm hB hn]
   intro x hx
   rcases List.mem_cons.1 hx with rfl|hx
   ·exact Nat.mod_lt _ (by omega)
   ·exact ih _ (Nat.div_lt_self (by omega) (by omega)) x hx
theorem Zb:ok B []:=fun x h=>by cases h
theorem mp {x:Nat} {l:List Nat} :ok B (x::l)↔x<B∧ok B l:=by simp [ok]
theorem Za {l m:List Nat} :ok B (l++m)↔ok B l∧ok B m:=by
 simp only [ok,List.mem_append];exact ⟨fun h=>⟨fun x hx=>h x (.inl hx),fun x hx=>h x (.inr hx)⟩,fun h x hx=>hx.elim (h.1 x) (h.2 x)⟩
theorem vr {l:List Nat} (h:ok B l) (m:Nat):ok B (l.take m):=fun x hx=>h x (List.mem_of_mem_take hx)
theorem jj {l:List Nat} (h:ok B l) (m:Nat):ok B (l.drop m):=fun x hx=>h x (List.mem_of_mem_drop hx)
theorem yi {l:List Nat} (h:ok B l) (hB:0<B) (i:Nat):l.getD i 0<B:=by
 by_cases hi:i<l.length
 ·rw [xx _ _ hi];exact h _ (List.getElem_mem hi)
 ·rw [ui _ _ (by omega)];exact hB
theorem yr (hB:0<B) (n:Nat):ok B (List.replicate n 0):=fun x hx=>by rw [List.eq_of_mem_replicate hx];exact hB
theorem xb {l:List Nat} (h:ok B l) {i x:Nat} (hx:x<B):ok B (l.set i x):=fun y hy=>by
 rcases List.mem_or_eq_of_mem_set hy with h1|h1
 ·exact h y h1
 ·subst h1;exact hx
theorem p7 (l m:List Nat):val B (l++m)=val B l+B^l.length*val B m:=by
 induction l with
 |nil=>simp [val]
 |cons x l ih=>
  simp only [List.cons_append,val,ih,List.length_cons,Nat.pow_succ]
  rw [Nat.mul_add,Nat.add_assoc,←Nat.mul_assoc,Nat.mul_comm B (B^l.length)]
theorem xn (n:Nat):val B (List.replicate n 0)=0:=by
 induction n with
 |zero=>rfl
 |succ n ih=>simp [List.replicate_succ,val,ih]
theorem xa {l:List Nat} (h:ok B l):val B l<B^l.length:=by
 induction l with
 |nil=>simp [val]
 |cons x l ih=>
  obtain ⟨h1,h2⟩:=mp.1 h
  have:=ih h2
  simp only [val,List.length_cons,Nat.pow_succ]
  have h3:B*(val B l+1)≤B*B^l.length:=Nat.mul_le_mul_left B this
  rw [Nat.mul_comm (B^l.length) B]
  rw [Nat.mul_add] at h3
  omega
theorem xi (l:List Nat) (m:Nat) (hm:m≤l.length):val B l=val B (l.take m)+B^m*val B (l.drop m):=by
 conv=>lhs;rw [←List.take_append_drop m l]
 rw [p7,List.length_take,Nat.min_eq_left hm]
theorem dk (l:List Nat) (m:Nat) (hm:m<l.length):val B (l.take (m+1))=val B (l.take m)+B^m*l.getD m 0:=by
 rw [List.take_succ_eq_append_getElem hm,p7,List.length_take,Nat.min_eq_left (by omega),xx _ _ hm]
 simp [val]
theorem Hk {l:List Nat} (hB:2≤B) (h:ok B l) (hl:l= []∨l.getD (l.length -1) 0≠0):digs B (val B l)=l:=by
 induction l with
 |nil=>rw [val,yq]
 |cons x l ih=>
  obtain ⟨h1,h2⟩:=mp.1 h
  have hpos:val B (x::l)≠0:=by
   rcases hl with hl|hl
   ·cases hl
   ·intro h0
    apply hl
    have key:∀(m:List Nat) (i:Nat),val B m=0→m.getD i 0=0:=by
     intro m
     induction m with
     |nil=>intro i _;simp
     |cons y m ihm=>
      intro i hv
      simp only [val] at hv
      have hy:y=0:=by omega
      have hm:B*val B m=0:=by omega
      have hm':val B m=0:=by
       rcases Nat.mul_eq_zero.1 hm with h|h
       ·omega
       ·exact h
      cases i with
      |zero=>simp [hy]
      |succ i=>simpa using ihm i hm'
    exact key _ _ h0
  rw [tm hB hpos]
  simp only [val]
  have e1:(x+B*val B l) % B=x:=by rw [Nat.add_mul_mod_self_left];exact Nat.mod_eq_of_lt h1
  have e2:(x+B*val B l)/B=val B l:=by rw [Nat.add_mul_div_left _ _ (by omega),Nat.div_eq_of_lt h1];omega
  rw [e1,e2]
  congr 1
  apply ih h2
  rcases hl with hl|hl
  ·cases hl
  ·cases l with
   |nil=>exact .inl rfl
   |cons y l=>right;simpa using hl
theorem zcu {l:List Nat} (h:∀i,i<l.length→l.getD i 0=0):val B l=0:=by
 induction l with
 |nil=>rfl
 |cons x l ih=>
  have h0:=h 0 (by simp)
  simp at h0
  rw [val,h0,ih]
  ·omega
  ·intro i hi;have:=h (i+1) (by simp;omega);simpa using this
theorem Yt {l:List Nat} {m:Nat} (hm:m≤l.length) (h:∀i,m≤i→i<l.length→l.getD i 0=0):val B (l.take m)=val B l:=by
 rw [xi l m hm,zcu (l:=l.drop m)]
 ·omega
 ·intro i hi
  simp at hi
  have:=h (m+i) (by omega) (by omega)
  simpa [List.getD_eq_getElem?_getD] using this
theorem jw {l:List Nat} (hB:2≤B) (h:ok B l) {m:Nat} (hm:m≤l.length) (hz:∀i,m≤i→i<l.length→l.getD i 0=0) (hl:m=0∨l.getD (m -1) 0≠0):digs B (val B l)=l.take m:=by
 rw [←Yt hm hz]
 apply Hk hB (vr h m)
 rcases hl with hl|hl
 ·left;simp [hl]
 ·by_cases h0:m=0
  ·left;simp [h0]
  ·right
   rw [List.length_take,Nat.min_eq_left hm]
   simp only [List.getD_eq_getElem?_getD] at hl⊢
   rw [List.getElem?_take,if_pos (by omega)]
   exact hl
theorem vk (hB:2≤B) {n m:Nat} (h:n<B^m):(digs B n).length≤m:=by
 induction m generalizing n with
 |zero=>simp at h;subst h;rw [yq];simp
 |succ m ih=>
  by_cases hn:n=0
  ·subst hn;rw [yq];simp
  ·rw [tm hB hn]
   simp only [List.length_cons]
   have:n/B<B^m:=by rw [Nat.div_lt_iff_lt_mul (by omega)];rw [Nat.pow_succ] at h;exact h
   have:=ih this
   omega
theorem jv (hB:2≤B) {n:Nat} (hn:n≠0):(digs B n).getD ((digs B n).length -1) 0≠0:=by
 induction n using Nat.strongRecOn with
 |_ n ih=>
  rw [tm hB hn]
  by_cases h0:n/B=0
  ·rw [h0,yq]
   simp
   have:=Nat.mod_add_div n B
   rw [h0] at this
   omega
  ·have:=ih (n/B) (Nat.div_lt_self (by omega) (by omega)) h0
   have hl:digs B (n/B)≠ []:=by rw [tm hB h0];simp
   obtain ⟨y,l,e⟩:=List.exists_cons_of_ne_nil hl
   rw [e] at this⊢
   simpa using this
theorem xv (hB:2≤B) {n:Nat} (hn:n≠0):digs B n≠ []:=by rw [tm hB hn];simp
theorem Yy (hB:2≤B) {m n:Nat} (h:digs B m=digs B n):m=n:=by rw [←zu hB m,h,zu hB]
theorem q7 (hB:2≤B) {n:Nat} (hn:n≠0):B^((digs B n).length -1)≤n∧n<B^(digs B n).length:=by
 constructor
 ·have hl:=jv hB hn
  have hne:=xv hB hn
  have hpos:0<(digs B n).length:=List.length_pos_iff.2 hne
  have h1:=xi (B:=B) (digs B n) ((digs B n).length -1) (by omega)
  rw [zu hB] at h1
  have h2:(digs B n).drop ((digs B n).length -1)= [(digs B n).getD ((digs B n).length -1) 0]:=by
   rw [List.drop_eq_getElem_cons (by omega),xx _ _ (by omega),List.drop_eq_nil_of_le (by omega)]
  rw [h2] at h1
  simp only [val,Nat.mul_zero,Nat.add_zero] at h1
  have h3:B^((digs B n).length -1)*1≤B^((digs B n).length -1)*(digs B n).getD ((digs B n).length -1) 0:=Nat.mul_le_mul_left _ (by omega)
  omega
 ·have:=xa (yb hB n)
  rwa [zu hB] at this
end
theorem Q5 (l:List Nat) {i m:Nat} (h:i<m):(l.take m).getD i 0=l.getD i 0:=by simp [List.getD_eq_getElem?_getD,List.getElem?_take,h]
theorem km (l:List Nat) (i m:Nat):(l.drop m).getD i 0=l.getD (m+i) 0:=by simp [List.getD_eq_getElem?_getD]
theorem xd (l:List Nat) (i j x:Nat) (h:i<l.length):(l.set i x).getD j 0=if i=j then x else l.getD j 0:=by
 simp only [List.getD_eq_getElem?_getD,List.getElem?_set]
 split
 ·rename_i e;subst e;simp [h]
 ·rfl
theorem ny (l:List Nat) (i x:Nat):(l.set i x).take i=l.take i:=by rw [List.take_set_of_le (Nat.le_refl _)]
theorem xu {B:Nat} (l:List Nat) (i x:Nat) (h:i<l.length):val B ((l.set i x).take (i+1))=val B (l.take i)+B^i*x:=by
 rw [dk _ _ (by simpa using h),ny,xd _ _ _ _ h,if_pos rfl]
theorem yj {B:Nat} (l:List Nat) (m:Nat):val B (l.take (m+1))=val B (l.take m)+B^m*l.getD m 0:=by
 by_cases h:m<l.length
 ·exact dk l m h
 ·rw [List.take_of_length_le (by omega),List.take_of_length_le (by omega),ui _ _ (by omega)];omega
theorem yx {B:Nat} (l:List Nat) {m:Nat} (h:l.length≤m):val B (l.take m)=val B l:=by rw [List.take_of_length_le h]
def bl (n:Nat):Nat:=(digs 2 n).length
theorem xm:bl 0=0:=by unfold bl;rw [yq];rfl
theorem tc {n:Nat} (hn:n≠0):2^(bl n -1)≤n∧n<2^bl n:=q7 (by omega) hn
theorem vf {n:Nat} (hn:n≠0):0<bl n:=List.length_pos_iff.2 (xv (by omega) hn)
theorem uv (n:Nat):n<2^bl n:=by
 by_cases hn:n=0
 ·subst hn;simp [xm]
 ·exact (tc hn).2
theorem vw {n k:Nat} (h:n<2^k):bl n≤k:=vk (by omega) h
theorem V6 {n k:Nat} (h1:2^k≤n) (h2:n<2^(k+1)):bl n=k+1:=by
 have h3:=vw h2
 have hp:0<2^k:=Nat.two_pow_pos k
 have h4:=uv n
 rcases Nat.lt_or_ge (bl n) (k+1) with h5|h5
 ·have:2^bl n≤2^k:=Nat.pow_le_pow_right (by omega) (by omega)
  omega
 ·omega
theorem qc {n k:Nat} :bl n≤k↔n<2^k:=by
 constructor
 ·intro h
  have:=uv n
  have h2:2^bl n≤2^k:=Nat.pow_le_pow_right (by omega) h
  omega
 ·exact vw
theorem yw {m n:Nat} (h:m≤n):bl m≤bl n:=vw (by have:=uv n;omega)
theorem cn {x:Nat} (h:x<B64):Lib.bitLen x=bl x:=by
 have key:∀f x,x<2^f→Lib.bitLenAux f x=bl x:=by
  intro f
  induction f with
  |zero=>intro x hx;simp at hx;subst hx;rw [xm];rfl
  |succ f ih=>
   intro x hx
   rw [Lib.bitLenAux]
   by_cases h0:x=0
   ·subst h0;simp [xm]
   ·rw [if_neg h0,ih _ (by rw [Nat.pow_succ] at hx;omega)]
    unfold bl
    rw [tm (by omega) h0,List.length_cons];omega
 exact key 64 x h
theorem fj {h t k:Nat} (hh:h≠0) (ht:t<2^k):bl (t+2^k*h)=k+bl h:=by
 obtain ⟨h1,h2⟩:=tc hh
 have hp:=vf hh
 obtain ⟨m,hm⟩:∃m,bl h=m+1:=⟨bl h -1,by omega⟩
 rw [hm] at h1 h2⊢
 rw [Nat.add_sub_cancel] at h1
 rw [←Nat.add_assoc]
 apply V6
 ·rw [Nat.pow_add]
  have:=Nat.mul_le_mul_left (2^k) h1
  omega
 ·rw [Nat.add_assoc,Nat.pow_add]
  have:2^k*(h+1)≤2^k*2^(m+1):=Nat.mul_le_mul_left _ h2
  rw [Nat.mul_add] at this
  omega
theorem gg (m:Nat):B64^m=2^(64*m):=by rw [show B64=2^64 from rfl,←Nat.pow_mul]
theorem Zr (m:Nat):B32^m=2^(32*m):=by rw [show B32=2^32 from rfl,←Nat.pow_mul]
theorem Hg {n m:Nat} (hm:(digs B64 n).length=m+1):bl n=64*m+bl ((digs B64 n).getD m 0):=by
 have hn:n≠0:=fun h=>by rw [h,yq] at hm;cases hm
 have h1:=xi (B:=B64) (digs B64 n) m (by omega)
 rw [zu two64] at h1
 have h2:(digs B64 n).drop m= [(digs B64 n).getD m 0]:=by
  rw [List.drop_eq_getElem_cons (by omega),xx _ _ (by omega),List.drop_eq_nil_of_le (by omega)]
 rw [h2] at h1
 simp only [val,Nat.mul_zero,Nat.add_zero] at h1
 have h3:val B64 ((digs B64 n).take m)<B64^m:=by
  have:=xa (vr (yb two64 n) m)
  rwa [List.length_take,Nat.min_eq_left (by omega)] at this
 have h4:(digs B64 n).getD m 0≠0:=by have:=jv two64 hn;rwa [hm,Nat.add_sub_cancel] at this
 rw [gg] at h1 h3
 conv=>lhs;rw [h1]
 exact fj h4 h3
def cmpI (m n:Nat):Int:=if m<n then -1 else if n<m then 1 else 0
theorem ta {m n:Nat} :cmpI m n<0↔m<n:=by
 unfold cmpI;by_cases h:m<n<;>by_cases h2:n<m<;>simp [h,h2]
theorem nc {B:Nat} (l:List Nat) (i:Nat) (h:i<l.length):val B l=val B (l.take i)+B^i*(l.getD i 0+B*val B (l.drop (i+1))):=by
 rw [xi l i (by omega),List.drop_eq_getElem_cons h,xx _ _ h];rfl
theorem jh {B:Nat} {a b:List Nat} {i:Nat} (ha:ok B a) (hi:i<a.length) (hj:i<b.length) (hd:a.drop (i+1)=b.drop (i+1)) (h:a.getD i 0<b.getD i 0):val B a<val B b:=by
 rw [nc a i hi,nc b i hj,hd]
 have h1:val B (a.take i)<B^i:=by
  have:=xa (vr ha i);rwa [List.length_take,Nat.min_eq_left (by omega)] at this
 have h2:B^i*(a.getD i 0+B*val B (b.drop (i+1))+1)≤B^i*(b.getD i 0+B*val B (b.drop (i+1))):=Nat.mul_le_mul_left _ (by omega)
 rw [Nat.mul_add] at h2
 omega
theorem td {B:Nat} (hB:2≤B) {m n:Nat} (h:(digs B m).length<(digs B n).length):m<n:=by
 have hn:n≠0:=fun e=>by subst e;rw [yq] at h;simp at h
 have h1:=(q7 hB hn).1
 have h2:m<B^(digs B m).length:=by have:=xa (yb hB m);rwa [zu hB] at this
 have h3:B^(digs B m).length≤B^((digs B n).length -1):=Nat.pow_le_pow_right (by omega) (by omega)
 omega
theorem fh {V P A C x y c s c' B:Nat} (h:s+B*c'=x+y+c) (ih:V+c*P=A+C):V+P*s+c'*(P*B)=(A+P*x)+(C+P*y):=by
 grind
theorem Xn {V P A C x y c s c' B:Nat} (h:s+y+c=x+B*c') (ih:V+C=A+c*P):V+P*s+(C+P*y)=(A+P*x)+c'*(P*B):=by
 grind
def nn (l:List Nat):List Int:=l.map fun x:Nat=>(x:Int)
@[simp] theorem nn_length (l:List Nat):(nn l).length=l.length:=by simp [nn]
theorem gk (l:List Nat) (i:Nat):(nn l).getD i 0=((l.getD i 0:Nat):Int):=by
  simp only [nn,List.getD_eq_getElem?_getD,List.getElem?_map]
  cases l[i]? <;>simp
theorem vm (l:List Nat) (m:Nat):(nn l).take m=nn (l.take m):=by simp [nn,List.map_take]
theorem Ck (l:List Nat) (m:Nat):(nn l).drop m=nn (l.drop m):=by simp [nn,List.map_drop]
theorem cz (l:List Nat) (i x:Nat):(nn l).set i (x:Int)=nn (l.set i x):=by simp [nn,List.map_set]
theorem zb7 (l m:List Nat):nn (l++m)=nn l++nn m:=by simp [nn]
theorem H6 (n:Nat):List.replicate n (0:Int)=nn (List.replicate n 0):=by simp [nn]
theorem zb8 {l m:List Nat} (h:nn l=nn m):l=m:=by
 have:=congrArg (List.map Int.toNat) h
 simpa [nn,Function.comp_def] using this
theorem zp {x:Int} (h0: -9223372036854775808≤x) (h1:x≤9223372036854775807):IntKind.i64.wrap x=x:=by
 unfold IntKind.wrap;simp [IntKind.bits,IntKind.signed];omega
theorem xt (x:Int):IntKind.u64.wrap x=x % 18446744073709551616:=by
 unfold IntKind.wrap;simp [IntKind.bits,IntKind.signed]
theorem yd {x:Int} (h0:0≤x) (h1:x<18446744073709551616):IntKind.u64.wrap x=x:=by
 rw [xt];omega
end Dg
end
section
open Go Go.RowKit Eng Sp Dg
def IsRow (k:IntKind) (w:World) (a:Option Addr) (len cap:Nat) (zs:List Int):Prop:=
 (a=none∧len=0∧cap=0∧zs= [])∨
 ∃x,a=some x∧len≤cap∧cap≤maxLen∧zs.length=cap∧(∀i,i<zs.length→w.cell? (x.add i)=some (.int k (zs.getD i 0)))∧∀n∈zs,(Lit.int k n).wf=true
theorem wf_i64 {x:Int} (h:(Lit.int .i64 x).wf=true): -9223372036854775808≤x∧x≤9223372036854775807:=by
 simp [Lit.wf,IntKind.min,IntKind.max,IntKind.signed,IntKind.bits] at h;exact h
theorem zcx {x:Int} (h:(Lit.int .u64 x).wf=true):0≤x∧x<18446744073709551616:=by
 simp [Lit.wf,IntKind.min,IntKind.max,IntKind.signed,IntKind.bits] at h;omega
theorem IsRow.rd {w} {a:Option Addr} {len cap:Nat} {zs:List Int} (h:IsRow .u64 w a len cap zs):∃l:List Nat,l.length=len∧Rd .u64 w ⟨a,len,cap⟩ (nn l)∧ok B64 l:=by
 rcases h with ⟨rfl,rfl,rfl,rfl⟩|⟨x,rfl,hl,_,hz,hc,hw⟩
 ·exact ⟨[],rfl,Rd.nil,Zb⟩
 ·have hnn:nn ((zs.take len).map Int.toNat)=zs.take len:=by
   unfold nn
   rw [List.map_map]
   conv=>rhs;rw [←List.map_id (zs.take len)]
   apply List.map_congr_left
   intro y hy
   have:=zcx (hw y (List.mem_of_mem_take hy))
   simp [Function.comp];omega
  refine ⟨(zs.take len).map Int.toNat,by simp;omega,⟨by rw [hnn];simp;omega,hl,fun i hi=>⟨x,rfl, ?_⟩⟩, ?_⟩
  ·rw [hnn] at hi⊢
   have hi':i<len:=by simp at hi;omega
   rw [hc i (by omega)]
   simp [List.getD_eq_getElem?_getD,List.getElem?_take,hi']
  ·intro y hy
   obtain ⟨z,hz1,rfl⟩:=List.mem_map.1 hy
   have:=zcx (hw z (List.mem_of_mem_take hz1))
   have hB:=B64v
   omega
end
section
open Go Go.RowKit Eng
open _root_.Go.IntKind (wrap)
def H5 (J0:Slc→World→Prop) (m0:Slc→World→Nat):Nat→Option ((Act→World→Prop)×(Act→World→Nat))
 |0=>some (fun a_ w_=>atSz a_ 21 (atS a_ 0 fun t0_a=>J0 t0_a w_),fun a_ w_=>mS a_ 0 fun t0_a=>m0 t0_a w_)
 |_=>none
theorem Fy (ac:Slc) (w:World) (R:Ending→World→Prop) (J0:Slc→World→Prop) (m0:Slc→World→Nat) (h:J0 ac w) (h0:∀aa w_,J0 aa w_→br (decide ((aa.n:Int)>0)) (semA pr (Instr.indexAt 23 aa.v (vi (wrap .i64 ((aa.n:Int) -1)))) w_ fun ad1 w1=>ldI .u64 ad1 w1 fun x1=>br (x1==0) (semS pr (Instr.sliceAt 23 aa.v none (some (vi (wrap .i64 ((aa.n:Int) -1)))) none) w1 fun s1 w2=>J0 s1 w2∧m0 s1 w2<m0 aa w_) (R (.returned aa.v) w1)) (R (.returned aa.v) w_)):Calls pr 91 #[ac.v] w R:=by
 refine zk (H5 J0 m0) (by kernel_rfl) Tryz.func91 rfl ?_ ?_
 ·refine kcast h ?_;kernel_rfl
 ·exact (za rfl (ze (za rfl (yg _ rfl (fun a_ w_ ab=>(by
  obtain ⟨ad,ae,ab⟩:=ya ab
  obtain ⟨aa,af,ab⟩:=zr ab
  obtain ⟨g0,rfl⟩:∃g,a_=Fr 21 [(0,aa.v)] g:=⟨_,yp ad ae _ (zf af yc)⟩
  clear ad ae af
  have ag:=ab
  refine ⟨(fun _=>none),kcast (h0 aa w_ ag) ?_, ?_⟩
  ·kernel_rfl
  ·exact (za rfl (za rfl (ze (zh (zi (ye (yh rfl (ze trivial)))))))))) (za rfl (ze (zg trivial)))))))
theorem Fx (aa:Slc) (w:World) (R:Ending→World→Prop) (h:kS 91 #[aa.v] w fun w1 s1=>(kI 46 #[s1.v] w1 fun w2 x1=>(br (decide (x1>67108864)) (R (.returned (.tuple #[nSl.v,vi 3])) w2) (R (.returned (.tuple #[s1.v,vi 0])) w2)))):Calls pr 122 #[aa.v] w R:=by
 refine zk (fun _=>none) (by kernel_rfl) Tryz.func122 rfl ?_ ?_
 ·refine kcast h ?_;kernel_rfl
 ·exact (za rfl (ze (za rfl (ze (za rfl (za rfl (ze (zh (za rfl (ze (zg (zi (za rfl (ze (zg trivial)))))))))))))))
theorem Fu (aa:Slc) (w:World) (R:Ending→World→Prop) (h:kS 91 #[aa.v] w fun w1 s1=>(semS pr (Builtin.append_ #[23,23] 23 #[nSl.v,s1.v]) w1 fun s2 w2=>R (.returned s2.v) w2)):Calls pr 85 #[aa.v] w R:=by
 refine zk (fun _=>none) (by kernel_rfl) Tryz.func85 rfl ?_ ?_
 ·refine kcast h ?_;kernel_rfl
 ·exact (za rfl (ze (za rfl (ze (zg trivial)))))
theorem Fs (aa:Int) (w:World) (R:Ending→World→Prop) (h:br (aa==0) (R (.returned nSl.v) w) (newC w #[.int .u64 aa] 65 fun ad1 w1=>R (.returned ((⟨some ad1,1,1⟩:Slc).v)) w1)):Calls pr 84 #[.int .u64 aa] w R:=by
 refine zk (fun _=>none) (by kernel_rfl) Tryz.func84 rfl ?_ ?_
 ·refine kcast h ?_;kernel_rfl
 ·exact (za rfl (ze (za rfl (za rfl (ze (zh (za rfl (ze (zg (zi (za rfl (ze (zg trivial)))))))))))))
def Uk (J0:Slc→Slc→Int→World→Prop) (m0:Slc→Slc→Int→World→Nat):Nat→Option ((Act→World→Prop)×(Act→World→Nat))
 |0=>some (fun a_ w_=>atSz a_ 45 (atS a_ 0 fun t0_a=>atS a_ 1 fun t1_b=>atI .i64 a_ 5 fun t5_i=>J0 t0_a t1_b t5_i w_),fun a_ w_=>mS a_ 0 fun t0_a=>mS a_ 1 fun t1_b=>mI a_ 5 fun t5_i=>m0 t0_a t1_b t5_i w_)
 |_=>none
theorem T6 (ae:Slc) (af:Slc) (w:World) (R:Ending→World→Prop) (J0:Slc→Slc→Int→World→Prop) (m0:Slc→Slc→Int→World→Nat) (h:kS 91 #[ae.v] w fun w1 s1=>(kS 91 #[af.v] w1 fun w2 s2=>(br ((s1.n:Int) !=(s2.n:Int)) (br (decide ((s1.n:Int)<(s2.n:Int))) (R (.returned (vi (-1))) w2) (R (.returned (vi 1)) w2)) (J0 s1 s2 (wrap .i64 ((s1.n:Int) -1)) w2)))) (h0:∀ab ac aa w_,J0 ab ac aa w_→br (decide (aa≥0)) (fixA pr (Instr.indexAt 23 ab.v (vi aa)) w_ fun ad1=>ldI .u64 ad1 w_ fun x1=>fixA pr (Instr.indexAt 23 ac.v (vi aa)) w_ fun ad2=>ldI .u64 ad2 w_ fun x2=>∀w3,Ahead w_ w3→(br (decide (x1<x2)) (R (.returned (vi (-1))) w3) (fixA pr (Instr.indexAt 23 ab.v (vi aa)) w3 fun ad3=>ldI .u64 ad3 w3 fun x3=>fixA pr (Instr.indexAt 23 ac.v (vi aa)) w3 fun ad4=>ldI .u64 ad4 w3 fun x4=>∀w4,Ahead w3 w4→(br (decide (x3>x4)) (R (.returned (vi 1)) w4) (J0 ab ac (wrap .i64 (aa -1)) w4∧m0 ab ac (wrap .i64 (aa -1)) w4<m0 ab ac aa w_))))) (R (.returned (vi 0)) w_)):Calls pr 81 #[ae.v,af.v] w R:=by
 refine zk (Uk J0 m0) (by kernel_rfl) Tryz.func81 rfl ?_ ?_
 ·refine kcast h ?_;kernel_rfl
 ·exact (za rfl (ze (za rfl (ze (za rfl (za rfl (ze (zh (za rfl (za rfl (ze (zh (za rfl (ze (zg (zi (za rfl (ze (zg (zi (za rfl (za rfl (ze (yg _ rfl (fun a_ w_ ad=>(by
  obtain ⟨ag,ah,ad⟩:=ya ad
  obtain ⟨ab,ai,ad⟩:=zr ad
  obtain ⟨ac,aj,ad⟩:=zr ad
  obtain ⟨aa,ak,ad⟩:=zq ad
  obtain ⟨g0,rfl⟩:∃g,a_=Fr 45 [(0,ab.v),(1,ac.v),(5,vi aa)] g:=⟨_,yp ag ah _ (zf ai (zf aj (zf ak yc)))⟩
  clear ag ah ai aj ak
  have al:=ad
  refine ⟨(fun _=>none),kcast (h0 ab ac aa w_ al) ?_, ?_⟩
  ·kernel_rfl
  ·exact (za rfl (za rfl (ze (zh (zi (ye (za rfl (yh rfl (za rfl (za rfl (qd (by kernel_rfl) (by kernel_rfl) (by kernel_rfl) (by kernel_rfl) (zh (za rfl (ze (zg (zi (za rfl (qd (by kernel_rfl) (by kernel_rfl) (by kernel_rfl) (by kernel_rfl) (zh (za rfl (ze (zg (zi (ze trivial)))))))))))))))))))))))))) (za rfl (ze (zg trivial)))))))))))))))))))))))))))
def Fq (J0:Slc→Slc→Slc→Int→Int→Int→World→Prop) (m0:Slc→Slc→Slc→Int→Int→Int→World→Nat):Nat→Option ((Act→World→Prop)×(Act→World→Nat))
 |0=>some (fun a_ w_=>atSz a_ 61 (atS a_ 0 fun t0_a=>atS a_ 1 fun t1_b=>atS a_ 6 fun t6_c=>atI .u64 a_ 7 fun t7_carry=>atI .i64 a_ 26 fun t26=>atI .i64 a_ 27 fun t27=>J0 t0_a t1_b t6_c t7_carry t26 t27 w_),fun a_ w_=>mS a_ 0 fun t0_a=>mS a_ 1 fun t1_b=>mS a_ 6 fun t6_c=>mI a_ 7 fun t7_carry=>mI a_ 26 fun t26=>mI a_ 27 fun t27=>m0 t0_a t1_b t6_c t7_carry t26 t27 w_)
 |_=>none
theorem zas (af:Slc) (ag:Slc) (w:World) (R:Ending→World→Prop) (J0:Slc→Slc→Slc→Int→Int→Int→World→Prop) (m0:Slc→Slc→Slc→Int→Int→Int→World→Nat) (h:kS 91 #[af.v] w fun w1 s1=>(kS 91 #[ag.v] w1 fun w2 s2=>(br (decide ((s1.n:Int)<(s2.n:Int))) (semS pr (Instr.makeSlice 23 (vi (wrap .i64 ((s2.n:Int)+1))) (vi (wrap .i64 ((s2.n:Int)+1)))) w2 fun s3 w3=>J0 s2 s1 s3 0 (s2.n:Int) 0 w3) (semS pr (Instr.makeSlice 23 (vi (wrap .i64 ((s1.n:Int)+1))) (vi (wrap .i64 ((s1.n:Int)+1)))) w2 fun s5 w16=>J0 s1 s2 s5 0 (s1.n:Int) 0 w16)))) (h0:∀ac ad ab aa t26 t27 w_,J0 ac ad ab aa t26 t27 w_→br (decide (t27<t26)) (br (decide (t27<(ad.n:Int))) (semA pr (Instr.indexAt 23 ad.v (vi t27)) w_ fun ad1 w4=>ldI .u64 ad1 w4 fun x1=>semA pr (Instr.indexAt 23 ac.v (vi t27)) w4 fun ad2 w5=>ldI .u64 ad2 w5 fun x2=>Sem.wp pr (callFunc 121 #[.int .u64 x2,.int .u64 x1,.int .u64 aa]) (fun n1 w6=>∃x3:Int,∃x4:Int,n1= .value (.tuple #[.int .u64 x3,.int .u64 x4])∧(semA pr (Instr.indexAt 23 ab.v (vi t27)) w6 fun ad3 w7=>stC ad3 (.int .u64 x3) w7 fun w8=>J0 ac ad ab x4 t26 (wrap .i64 (t27+1)) w8∧m0 ac ad ab x4 t26 (wrap .i64 (t27+1)) w8<m0 ac ad ab aa t26 t27 w_)) (fun _ _=>False) w5) (semA pr (Instr.indexAt 23 ac.v (vi t27)) w_ fun ad4 w9=>ldI .u64 ad4 w9 fun x5=>Sem.wp pr (callFunc 121 #[.int .u64 x5,.int .u64 0,.int .u64 aa]) (fun n2 w10=>∃x6:Int,∃x7:Int,n2= .value (.tuple #[.int .u64 x6,.int .u64 x7])∧(semA pr (Instr.indexAt 23 ab.v (vi t27)) w10 fun ad5 w11=>stC ad5 (.int .u64 x6) w11 fun w12=>J0 ac ad ab x7 t26 (wrap .i64 (t27+1)) w12∧m0 ac ad ab x7 t26 (wrap .i64 (t27+1)) w12<m0 ac ad ab aa t26 t27 w_)) (fun _ _=>False) w9)) (semA pr (Instr.indexAt 23 ab.v (vi (ac.n:Int))) w_ fun ad6 w13=>stC ad6 (.int .u64 aa) w13 fun w14=>Calls pr 122 #[ab.v] w14 fun e3 w15=>∃s4:Slc,∃x8:Int,e3= .returned (.tuple #[s4.v,vi x8])∧(R (.returned (.tuple #[s4.v,vi x8])) w15))):Calls pr 94 #[af.v,ag.v] w R:=by
 refine zk (Fq J0 m0) (by kernel_rfl) Tryz.func94 rfl ?_ ?_
 ·refine kcast h ?_;kernel_rfl
 ·exact (za rfl (ze (za rfl (ze (za rfl (za rfl (ze (zh (ze (zi (za rfl (ze (za rfl (ze (za rfl (za rfl (ze (yg _ rfl (fun a_ w_ ae=>(by
  obtain ⟨aj,ak,ae⟩:=ya ae
  obtain ⟨ac,al,ae⟩:=zr ae
  obtain ⟨ad,am,ae⟩:=zr ae
  obtain ⟨ab,an,ae⟩:=zr ae
  obtain ⟨aa,ao,ae⟩:=zq ae
  obtain ⟨t26,ah,ae⟩:=zq ae
  obtain ⟨t27,ai,ae⟩:=zq ae
  obtain ⟨g0,rfl⟩:∃g,a_=Fr 61 [(0,ac.v),(1,ad.v),(6,ab.v),(7,Value.int .u64 aa),(26,vi t26),(27,vi t27)] g:=⟨_,yp aj ak _ (zf al (zf am (zf an (zf ao (zf ah (zf ai yc))))))⟩
  clear aj ak al am an ao ah ai
  have ap:=ae
  refine ⟨(fun _=>none),kcast (h0 ac ad ab aa t26 t27 w_ ap) ?_, ?_⟩
  ·kernel_rfl
  ·exact (za rfl (ze (za rfl (zh (zi (ye (za rfl (yh rfl (za rfl (ze (za rfl (ze (za rfl (za rfl (ze (zh (ze (zi (ze (ze trivial)))))))))))))))))))))) (za rfl (ze (za rfl (ze (zg trivial)))))))))))))))))))))))
def Fv (J0:Slc→Slc→Slc→Int→Int→Int→World→Prop) (m0:Slc→Slc→Slc→Int→Int→Int→World→Nat):Nat→Option ((Act→World→Prop)×(Act→World→Nat))
 |0=>some (fun a_ w_=>atSz a_ 52 (atS a_ 0 fun t0_a=>atS a_ 1 fun t1_b=>atS a_ 6 fun t6_c=>atI .u64 a_ 7 fun t7_borrow=>atI .i64 a_ 22 fun t22=>atI .i64 a_ 23 fun t23=>J0 t0_a t1_b t6_c t7_borrow t22 t23 w_),fun a_ w_=>mS a_ 0 fun t0_a=>mS a_ 1 fun t1_b=>mS a_ 6 fun t6_c=>mI a_ 7 fun t7_borrow=>mI a_ 22 fun t22=>mI a_ 23 fun t23=>m0 t0_a t1_b t6_c t7_borrow t22 t23 w_)
 |_=>none
theorem zau (af:Slc) (ag:Slc) (w:World) (R:Ending→World→Prop) (J0:Slc→Slc→Slc→Int→Int→Int→World→Prop) (m0:Slc→Slc→Slc→Int→Int→Int→World→Nat) (h:kI 81 #[af.v,ag.v] w fun w1 x1=>(br (decide (x1<0)) (R (.returned (.tuple #[nSl.v,vi 10])) w1) (kS 91 #[af.v] w1 fun w2 s1=>(kS 91 #[ag.v] w2 fun w3 s2=>(semS pr (Instr.makeSlice 23 (vi (s1.n:Int)) (vi (s1.n:Int))) w3 fun s3 w4=>J0 s1 s2 s3 0 (s1.n:Int) 0 w4))))) (h0:∀ac ad ab aa t22 t23 w_,J0 ac ad ab aa t22 t23 w_→br (decide (t23<t22)) (br (decide (t23<(ad.n:Int))) (semA pr (Instr.indexAt 23 ad.v (vi t23)) w_ fun ad1 w5=>ldI .u64 ad1 w5 fun x2=>semA pr (Instr.indexAt 23 ac.v (vi t23)) w5 fun ad2 w6=>ldI .u64 ad2 w6 fun x3=>Sem.wp pr (callFunc 168 #[.int .u64 x3,.int .u64 x2,.int .u64 aa]) (fun n1 w7=>∃x4:Int,∃x5:Int,n1= .value (.tuple #[.int .u64 x4,.int .u64 x5])∧(semA pr (Instr.indexAt 23 ab.v (vi t23)) w7 fun ad3 w8=>stC ad3 (.int .u64 x4) w8 fun w9=>J0 ac ad ab x5 t22 (wrap .i64 (t23+1)) w9∧m0 ac ad ab x5 t22 (wrap .i64 (t23+1)) w9<m0 ac ad ab aa t22 t23 w_)) (fun _ _=>False) w6) (semA pr (Instr.indexAt 23 ac.v (vi t23)) w_ fun ad4 w10=>ldI .u64 ad4 w10 fun x6=>Sem.wp pr (callFunc 168 #[.int .u64 x6,.int .u64 0,.int .u64 aa]) (fun n2 w11=>∃x7:Int,∃x8:Int,n2= .value (.tuple #[.int .u64 x7,.int .u64 x8])∧(semA pr (Instr.indexAt 23 ab.v (vi t23)) w11 fun ad5 w12=>stC ad5 (.int .u64 x7) w12 fun w13=>J0 ac ad ab x8 t22 (wrap .i64 (t23+1)) w13∧m0 ac ad ab x8 t22 (wrap .i64 (t23+1)) w13<m0 ac ad ab aa t22 t23 w_)) (fun _ _=>False) w10)) (Calls pr 122 #[ab.v] w_ fun e4 w14=>∃s4:Slc,∃x9:Int,e4= .returned (.tuple #[s4.v,vi x9])∧(R (.returned (.tuple #[s4.v,vi x9])) w14))):Calls pr 158 #[af.v,ag.v] w R:=by
 refine zk (Fv J0 m0) (by kernel_rfl) Tryz.func158 rfl ?_ ?_
 ·refine kcast h ?_;kernel_rfl
 ·exact (za rfl (ze (za rfl (za rfl (ze (zh (za rfl (ze (zg (zi (za rfl (ze (za rfl (ze (za rfl (ze (za rfl (za rfl (ze (yg _ rfl (fun a_ w_ ae=>(by
  obtain ⟨aj,ak,ae⟩:=ya ae
  obtain ⟨ac,al,ae⟩:=zr ae
  obtain ⟨ad,am,ae⟩:=zr ae
  obtain ⟨ab,an,ae⟩:=zr ae
  obtain ⟨aa,ao,ae⟩:=zq ae
  obtain ⟨t22,ah,ae⟩:=zq ae
  obtain ⟨t23,ai,ae⟩:=zq ae
  obtain ⟨g0,rfl⟩:∃g,a_=Fr 52 [(0,ac.v),(1,ad.v),(6,ab.v),(7,Value.int .u64 aa),(22,vi t22),(23,vi t23)] g:=⟨_,yp aj ak _ (zf al (zf am (zf an (zf ao (zf ah (zf ai yc))))))⟩
  clear aj ak al am an ao ah ai
  have ap:=ae
  refine ⟨(fun _=>none),kcast (h0 ac ad ab aa t22 t23 w_ ap) ?_, ?_⟩
  ·kernel_rfl
  ·exact (za rfl (ze (za rfl (zh (zi (ye (za rfl (yh rfl (za rfl (ze (za rfl (ze (za rfl (za rfl (ze (zh (ze (zi (ze (ze trivial)))))))))))))))))))))) (za rfl (ze (zg trivial)))))))))))))))))))))))
def H0 (J0:Int→Int→Slc→Slc→Int→Int→World→Prop) (m0:Int→Int→Slc→Slc→Int→Int→World→Nat):Nat→Option ((Act→World→Prop)×(Act→World→Nat))
 |0=>some (fun a_ w_=>atSz a_ 73 (atI .i64 a_ 6 fun t6=>atI .u64 a_ 7 fun t7=>atS a_ 8 fun t8=>atS a_ 38 fun t38=>atI .i64 a_ 39 fun t39=>atI .i64 a_ 40 fun t40=>J0 t6 t7 t8 t38 t39 t40 w_),fun a_ w_=>mI a_ 6 fun t6=>mI a_ 7 fun t7=>mS a_ 8 fun t8=>mS a_ 38 fun t38=>mI a_ 39 fun t39=>mI a_ 40 fun t40=>m0 t6 t7 t8 t38 t39 t40 w_)
 |_=>none
theorem Ft (a0:Slc) (a1:Int) (w:World) (R:Ending→World→Prop) (J0:Int→Int→Slc→Slc→Int→Int→World→Prop) (m0:Int→Int→Slc→Slc→Int→Int→World→Nat) (h:br (decide (a1<0)) (R (.returned (.tuple #[nSl.v,vi 1])) w) (br (decide (a1>1099511627776)) (R (.returned (.tuple #[nSl.v,vi 1])) w) (kS 91 #[a0.v] w fun w1 s1=>(br ((s1.n:Int)==0) (R (.returned (.tuple #[nSl.v,vi 0])) w1) (kI 46 #[s1.v] w1 fun w2 x1=>(br (decide ((wrap .i64 (x1+a1))>67108864)) (R (.returned (.tuple #[nSl.v,vi 3])) w2) (semS pr (Instr.makeSlice 23 (vi (wrap .i64 ((wrap .i64 ((wrap .i64 (Int.tdiv a1 64))+(s1.n:Int)))+1))) (vi (wrap .i64 ((wrap .i64 ((wrap .i64 (Int.tdiv a1 64))+(s1.n:Int)))+1)))) w2 fun s2 w3=>J0 (wrap .i64 (Int.tdiv a1 64)) (wrap .u64 (Int.tmod a1 64)) s2 s1 (s1.n:Int) 0 w3))))))) (h0:∀t6 t7 t8 t38 t39 t40 w_,J0 t6 t7 t8 t38 t39 t40 w_→br (decide (t40<t39)) (semA pr (Instr.indexAt 23 t38.v (vi t40)) w_ fun ad1 w4=>ldI .u64 ad1 w4 fun x2=>semA pr (Instr.indexAt 23 t8.v (vi (wrap .i64 (t6+t40)))) w4 fun ad2 w5=>ldI .u64 ad2 w5 fun x3=>semI pr .u64 (binOp .shl 65 (.int .u64 x2) (.int .u64 t7)) w5 fun x4 w6=>semA pr (Instr.indexAt 23 t8.v (vi (wrap .i64 (t6+t40)))) w6 fun ad3 w7=>stC ad3 (.int .u64 (orI .u64 x3 x4)) w7 fun w8=>semA pr (Instr.indexAt 23 t8.v (vi (wrap .i64 ((wrap .i64 (t6+t40))+1)))) w8 fun ad4 w9=>ldI .u64 ad4 w9 fun x5=>semI pr .u64 (binOp .shr 65 (.int .u64 (Int.fdiv x2 (2^(1:Nat)))) (.int .u64 (wrap .u64 (63 -t7)))) w9 fun x6 w10=>semA pr (Instr.indexAt 23 t8.v (vi (wrap .i64 ((wrap .i64 (t6+t40))+1)))) w10 fun ad5 w11=>stC ad5 (.int .u64 (orI .u64 x5 x6)) w11 fun w12=>J0 t6 t7 t8 t38 t39 (wrap .i64 (t40+1)) w12∧m0 t6 t7 t8 t38 t39 (wrap .i64 (t40+1)) w12<m0 t6 t7 t8 t38 t39 t40 w_) (kS 91 #[t8.v] w_ fun w13 s3=>(R (.returned (.tuple #[s3.v,vi 0])) w13))):Calls pr 159 #[a0.v,vi a1] w R:=by
 refine zk (H0 J0 m0) (by kernel_rfl) Tryz.func159 rfl ?_ ?_
 ·refine kcast h ?_;kernel_rfl
 ·exact (za rfl (ze (za rfl (za rfl (ze (zh (za rfl (ze (zg (zi (za rfl (ze (za rfl (za rfl (ze (zh (za rfl (ze (zg (zi (za rfl (za rfl (ze (zh (za rfl (ze (zg (zi (za rfl (ze (za rfl (ze (za rfl (za rfl (ze (yg _ rfl (fun a_ w_ aa=>(by
  obtain ⟨ae,af,aa⟩:=ya aa
  obtain ⟨t6,ag,aa⟩:=zq aa
  obtain ⟨t7,ah,aa⟩:=zq aa
  obtain ⟨t8,ai,aa⟩:=zr aa
  obtain ⟨t38,ab,aa⟩:=zr aa
  obtain ⟨t39,ac,aa⟩:=zq aa
  obtain ⟨t40,ad,aa⟩:=zq aa
  obtain ⟨g0,rfl⟩:∃g,a_=Fr 73 [(6,vi t6),(7,Value.int .u64 t7),(8,t8.v),(38,t38.v),(39,vi t39),(40,vi t40)] g:=⟨_,yp ae af _ (zf ag (zf ah (zf ai (zf ab (zf ac (zf ad yc))))))⟩
  clear ae af ag ah ai ab ac ad
  have aj:=aa
  refine ⟨(fun _=>none),kcast (h0 t6 t7 t8 t38 t39 t40 w_ aj) ?_, ?_⟩
  ·kernel_rfl
  ·exact (za rfl (ze (za rfl (zh (zi (ye (za rfl (yh rfl (za rfl (ze (za rfl (ze (ze (ze trivial)))))))))))))))) (za rfl (ze (zg trivial)))))))))))))))))))))))))))))))))))))))
def Mf (J0:Slc→Int→Int→Slc→Int→Int→World→Prop) (m0:Slc→Int→Int→Slc→Int→Int→World→Nat):Nat→Option ((Act→World→Prop)×(Act→World→Nat))
 |0=>some (fun a_ w_=>atSz a_ 77 (atS a_ 0 fun t0=>atI .i64 a_ 6 fun t6=>atI .u64 a_ 7 fun t7=>atS a_ 8 fun t8=>atI .i64 a_ 33 fun t33=>atI .i64 a_ 34 fun t34=>J0 t0 t6 t7 t8 t33 t34 w_),fun a_ w_=>mS a_ 0 fun t0=>mI a_ 6 fun t6=>mI a_ 7 fun t7=>mS a_ 8 fun t8=>mI a_ 33 fun t33=>mI a_ 34 fun t34=>m0 t0 t6 t7 t8 t33 t34 w_)
 |_=>none
theorem H1 (a0:Slc) (a1:Int) (w:World) (R:Ending→World→Prop) (J0:Slc→Int→Int→Slc→Int→Int→World→Prop) (m0:Slc→Int→Int→Slc→Int→Int→World→Nat) (h:br (decide (a1<0)) (R (.returned (.tuple #[nSl.v,vi 1])) w) (br (decide (a1>1099511627776)) (R (.returned (.tuple #[nSl.v,vi 1])) w) (kS 91 #[a0.v] w fun w1 s1=>(br (decide ((wrap .i64 (Int.tdiv a1 64))≥(s1.n:Int))) (R (.returned (.tuple #[nSl.v,vi 0])) w1) (semS pr (Instr.makeSlice 23 (vi (wrap .i64 ((s1.n:Int) -(wrap .i64 (Int.tdiv a1 64))))) (vi (wrap .i64 ((s1.n:Int) -(wrap .i64 (Int.tdiv a1 64)))))) w1 fun s2 w2=>J0 s1 (wrap .i64 (Int.tdiv a1 64)) (wrap .u64 (Int.tmod a1 64)) s2 (s2.n:Int) 0 w2))))) (h0:∀t0 t6 t7 t8 t33 t34 w_,J0 t0 t6 t7 t8 t33 t34 w_→br (decide (t34<t33)) (semA pr (Instr.indexAt 23 t0.v (vi (wrap .i64 (t6+t34)))) w_ fun ad1 w3=>ldI .u64 ad1 w3 fun x1=>semI pr .u64 (binOp .shr 65 (.int .u64 x1) (.int .u64 t7)) w3 fun x2 w4=>semA pr (Instr.indexAt 23 t8.v (vi t34)) w4 fun ad2 w5=>stC ad2 (.int .u64 x2) w5 fun w6=>br (decide ((wrap .i64 ((wrap .i64 (t6+t34))+1))<(t0.n:Int))) (fixA pr (Instr.indexAt 23 t8.v (vi t34)) w6 fun ad3=>ldI .u64 ad3 w6 fun x3=>fixA pr (Instr.indexAt 23 t0.v (vi (wrap .i64 ((wrap .i64 (t6+t34))+1)))) w6 fun ad4=>ldI .u64 ad4 w6 fun x4=>fixI pr .u64 (binOp .shl 65 (.int .u64 (wrap .u64 (x4*2^(1:Nat)))) (.int .u64 (wrap .u64 (63 -t7)))) w6 fun x5=>fixA pr (Instr.indexAt 23 t8.v (vi t34)) w6 fun ad5=>stC ad5 (.int .u64 (orI .u64 x3 x5)) w6.drew fun w7=>J0 t0 t6 t7 t8 t33 (wrap .i64 (t34+1)) w7∧m0 t0 t6 t7 t8 t33 (wrap .i64 (t34+1)) w7<m0 t0 t6 t7 t8 t33 t34 w_) (J0 t0 t6 t7 t8 t33 (wrap .i64 (t34+1)) w6∧m0 t0 t6 t7 t8 t33 (wrap .i64 (t34+1)) w6<m0 t0 t6 t7 t8 t33 t34 w_)) (Calls pr 122 #[t8.v] w_ fun e2 w8=>∃s3:Slc,∃x6:Int,e2= .returned (.tuple #[s3.v,vi x6])∧(R (.returned (.tuple #[s3.v,vi x6])) w8))):Calls pr 174 #[a0.v,vi a1] w R:=by
 refine zk (Mf J0 m0) (by kernel_rfl) Tryz.func174 rfl ?_ ?_
 ·refine kcast h ?_;kernel_rfl
 ·exact (za rfl (ze (za rfl (za rfl (ze (zh (za rfl (ze (zg (zi (za rfl (ze (za rfl (ze (za rfl (za rfl (ze (zh (za rfl (ze (zg (zi (za rfl (ze (za rfl (za rfl (ze (yg _ rfl (fun a_ w_ aa=>(by
  obtain ⟨ad,ae,aa⟩:=ya aa
  obtain ⟨t0,af,aa⟩:=zr aa
  obtain ⟨t6,ag,aa⟩:=zq aa
  obtain ⟨t7,ah,aa⟩:=zq aa
  obtain ⟨t8,ai,aa⟩:=zr aa
  obtain ⟨t33,ab,aa⟩:=zq aa
  obtain ⟨t34,ac,aa⟩:=zq aa
  obtain ⟨g0,rfl⟩:∃g,a_=Fr 77 [(0,t0.v),(6,vi t6),(7,Value.int .u64 t7),(8,t8.v),(33,vi t33),(34,vi t34)] g:=⟨_,yp ad ae _ (zf af (zf ag (zf ah (zf ai (zf ab (zf ac yc))))))⟩
  clear ad ae af ag ah ai ab ac
  have aj:=aa
  refine ⟨(fun _=>none),kcast (h0 t0 t6 t7 t8 t33 t34 w_ aj) ?_, ?_⟩
  ·kernel_rfl
  ·exact (za rfl (ze (za rfl (zh (zi (ye (za rfl (yh rfl (za rfl (ze (za rfl (ze (za rfl (ze (zh (jq 17 (by kernel_rfl) (by kernel_rfl) (by kernel_rfl) (by kernel_rfl) (by kernel_rfl) (zi (ze trivial)))))))))))))))))))) (za rfl (ze (zg trivial)))))))))))))))))))))))))))))))
theorem Me (aa:Slc) (w:World) (R:Ending→World→Prop) (h:kS 91 #[aa.v] w fun w1 s1=>(br ((s1.n:Int)==0) (R (.returned (vi 0)) w1) (semA pr (Instr.indexAt 23 s1.v (vi (wrap .i64 ((s1.n:Int) -1)))) w1 fun ad1 w2=>ldI .u64 ad1 w2 fun x1=>kI 92 #[.int .u64 x1] w2 fun w3 x2=>(R (.returned (vi (wrap .i64 ((wrap .i64 (64*(wrap .i64 ((s1.n:Int) -1))))+x2)))) w3)))):Calls pr 46 #[aa.v] w R:=by
 refine zk (fun _=>none) (by kernel_rfl) Tryz.func46 rfl ?_ ?_
 ·refine kcast h ?_;kernel_rfl
 ·exact (za rfl (ze (za rfl (ze (za rfl (za rfl (ze (zh (za rfl (ze (zg (zi (za rfl (ze (zg trivial)))))))))))))))
def Mg (J0:Slc→Int→Slc→Int→Slc→Int→Int→World→Prop) (m0:Slc→Int→Slc→Int→Slc→Int→Int→World→Nat):Nat→Option ((Act→World→Prop)×(Act→World→Nat))
 |0=>some (fun a_ w_=>atSz a_ 56 (atS a_ 0 fun t0_a=>atI .u64 a_ 1 fun t1_m=>atS a_ 6 fun t6_c=>atI .u64 a_ 7 fun t7_carry=>atS a_ 20 fun t20=>atI .i64 a_ 21 fun t21=>atI .i64 a_ 22 fun t22=>J0 t0_a t1_m t6_c t7_carry t20 t21 t22 w_),fun a_ w_=>mS a_ 0 fun t0_a=>mI a_ 1 fun t1_m=>mS a_ 6 fun t6_c=>mI a_ 7 fun t7_carry=>mS a_ 20 fun t20=>mI a_ 21 fun t21=>mI a_ 22 fun t22=>m0 t0_a t1_m t6_c t7_carry t20 t21 t22 w_)
 |_=>none
theorem H4 (af:Slc) (ag:Int) (w:World) (R:Ending→World→Prop) (J0:Slc→Int→Slc→Int→Slc→Int→Int→World→Prop) (m0:Slc→Int→Slc→Int→Slc→Int→Int→World→Nat) (h:kS 91 #[af.v] w fun w1 s1=>(semS pr (Instr.makeSlice 23 (vi (wrap .i64 ((s1.n:Int)+1))) (vi (wrap .i64 ((s1.n:Int)+1)))) w1 fun s2 w2=>J0 s1 ag s2 0 s1 (s1.n:Int) 0 w2)) (h0:∀ad ae ac aa t20 t21 t22 w_,J0 ad ae ac aa t20 t21 t22 w_→br (decide (t22<t21)) (semA pr (Instr.indexAt 23 t20.v (vi t22)) w_ fun ad1 w3=>ldI .u64 ad1 w3 fun x1=>Calls pr 167 #[.int .u64 x1,.int .u64 ae] w3 fun e2 w4=>∃x2:Int,∃x3:Int,e2= .returned (.tuple #[.int .u64 x2,.int .u64 x3])∧(Sem.wp pr (callFunc 121 #[.int .u64 x3,.int .u64 aa,.int .u64 0]) (fun n1 w5=>∃x4:Int,∃x5:Int,n1= .value (.tuple #[.int .u64 x4,.int .u64 x5])∧(semA pr (Instr.indexAt 23 ac.v (vi t22)) w5 fun ad2 w6=>stC ad2 (.int .u64 x4) w6 fun w7=>J0 ad ae ac (wrap .u64 (x2+x5)) t20 t21 (wrap .i64 (t22+1)) w7∧m0 ad ae ac (wrap .u64 (x2+x5)) t20 t21 (wrap .i64 (t22+1)) w7<m0 ad ae ac aa t20 t21 t22 w_)) (fun _ _=>False) w4)) (semA pr (Instr.indexAt 23 ac.v (vi (ad.n:Int))) w_ fun ad3 w8=>stC ad3 (.int .u64 aa) w8 fun w9=>Calls pr 122 #[ac.v] w9 fun e3 w10=>∃s3:Slc,∃x6:Int,e3= .returned (.tuple #[s3.v,vi x6])∧(R (.returned (.tuple #[s3.v,vi x6])) w10))):Calls pr 156 #[af.v,.int .u64 ag] w R:=by
 refine zk (Mg J0 m0) (by kernel_rfl) Tryz.func156 rfl ?_ ?_
 ·refine kcast h ?_;kernel_rfl
 ·exact (za rfl (ze (za rfl (ze (za rfl (ze (za rfl (ze (za rfl (za rfl (ze (yg _ rfl (fun a_ w_ ab=>(by
  obtain ⟨ak,al,ab⟩:=ya ab
  obtain ⟨ad,am,ab⟩:=zr ab
  obtain ⟨ae,an,ab⟩:=zq ab
  obtain ⟨ac,ao,ab⟩:=zr ab
  obtain ⟨aa,ap,ab⟩:=zq ab
  obtain ⟨t20,ah,ab⟩:=zr ab
  obtain ⟨t21,ai,ab⟩:=zq ab
  obtain ⟨t22,aj,ab⟩:=zq ab
  obtain ⟨g0,rfl⟩:∃g,a_=Fr 56 [(0,ad.v),(1,Value.int .u64 ae),(6,ac.v),(7,Value.int .u64 aa),(20,t20.v),(21,vi t21),(22,vi t22)] g:=⟨_,yp ak al _ (zf am (zf an (zf ao (zf ap (zf ah (zf ai (zf aj yc)))))))⟩
  clear ak al am an ao ap ah ai aj
  have aq:=ab
  refine ⟨(fun _=>none),kcast (h0 ad ae ac aa t20 t21 t22 w_ aq) ?_, ?_⟩
  ·kernel_rfl
  ·exact (za rfl (ze (za rfl (zh (zi (ye (za rfl (yh rfl (za rfl (ze (za rfl (ze (za rfl (ze (za rfl (ze (ze (ze trivial)))))))))))))))))))) (za rfl (ze (za rfl (ze (zg trivial)))))))))))))))))
def Um (J0:Slc→Int→Slc→Int→Int→World→Prop) (m0:Slc→Int→Slc→Int→Int→World→Nat):Nat→Option ((Act→World→Prop)×(Act→World→Nat))
 |0=>some (fun a_ w_=>atSz a_ 48 (atS a_ 0 fun t0_a=>atI .u64 a_ 1 fun t1_d=>atS a_ 7 fun t7_c=>atI .u64 a_ 8 fun t8_rest=>atI .i64 a_ 9 fun t9_i=>J0 t0_a t1_d t7_c t8_rest t9_i w_),fun a_ w_=>mS a_ 0 fun t0_a=>mI a_ 1 fun t1_d=>mS a_ 7 fun t7_c=>mI a_ 8 fun t8_rest=>mI a_ 9 fun t9_i=>m0 t0_a t1_d t7_c t8_rest t9_i w_)
 |_=>none
theorem T7 (ah:Slc) (ag:Int) (w:World) (R:Ending→World→Prop) (J0:Slc→Int→Slc→Int→Int→World→Prop) (m0:Slc→Int→Slc→Int→Int→World→Nat) (h:br (ag==0) (R (.returned (.tuple #[nSl.v,.int .u64 0,vi 1])) w) (kS 91 #[ah.v] w fun w1 s1=>(semS pr (Instr.makeSlice 23 (vi (s1.n:Int)) (vi (s1.n:Int))) w1 fun s2 w2=>J0 s1 ag s2 0 (wrap .i64 ((s1.n:Int) -1)) w2))) (h0:∀ae af ad aa ab w_,J0 ae af ad aa ab w_→br (decide (ab≥0)) (semA pr (Instr.indexAt 23 ae.v (vi ab)) w_ fun ad1 w3=>ldI .u64 ad1 w3 fun x1=>Calls pr 150 #[.int .u64 aa,.int .u64 x1,.int .u64 af] w3 fun e2 w4=>∃x2:Int,∃x3:Int,e2= .returned (.tuple #[.int .u64 x2,.int .u64 x3])∧(semA pr (Instr.indexAt 23 ad.v (vi ab)) w4 fun ad2 w5=>stC ad2 (.int .u64 x2) w5 fun w6=>J0 ae af ad x3 (wrap .i64 (ab -1)) w6∧m0 ae af ad x3 (wrap .i64 (ab -1)) w6<m0 ae af ad aa ab w_)) (Calls pr 122 #[ad.v] w_ fun e3 w7=>∃s3:Slc,∃x4:Int,e3= .returned (.tuple #[s3.v,vi x4])∧(br (x4 !=0) (R (.returned (.tuple #[nSl.v,.int .u64 0,vi x4])) w7) (R (.returned (.tuple #[s3.v,.int .u64 aa,vi 0])) w7)))):Calls pr 157 #[ah.v,.int .u64 ag] w R:=by
 refine zk (Um J0 m0) (by kernel_rfl) Tryz.func157 rfl ?_ ?_
 ·refine kcast h ?_;kernel_rfl
 ·exact (za rfl (ze (za rfl (za rfl (ze (zh (za rfl (ze (zg (zi (za rfl (ze (za rfl (ze (za rfl (ze (za rfl (za rfl (ze (yg _ rfl (fun a_ w_ ac=>(by
  obtain ⟨ai,aj,ac⟩:=ya ac
  obtain ⟨ae,ak,ac⟩:=zr ac
  obtain ⟨af,al,ac⟩:=zq ac
  obtain ⟨ad,am,ac⟩:=zr ac
  obtain ⟨aa,an,ac⟩:=zq ac
  obtain ⟨ab,ao,ac⟩:=zq ac
  obtain ⟨g0,rfl⟩:∃g,a_=Fr 48 [(0,ae.v),(1,Value.int .u64 af),(7,ad.v),(8,Value.int .u64 aa),(9,vi ab)] g:=⟨_,yp ai aj _ (zf ak (zf al (zf am (zf an (zf ao yc)))))⟩
  clear ai aj ak al am an ao
  have ap:=ac
  refine ⟨(fun _=>none),kcast (h0 ae af ad aa ab w_ ap) ?_, ?_⟩
  ·kernel_rfl
  ·exact (za rfl (za rfl (ze (zh (zi (ye (za rfl (yh rfl (ze (ze trivial)))))))))))) (za rfl (ze (za rfl (za rfl (ze (zh (za rfl (ze (zg (zi (za rfl (ze (zg trivial)))))))))))))))))))))))))))))))))
end
section
open Go Go.RowKit Eng Sp Dg
namespace Nat
theorem ldN {t:TypeId} {w s} {l:List Nat} (h:Rd .u64 w s (nn l)) {i:Int} (h0:0≤i) (h1:i<l.length) {K:Int→World→Prop} (hk:K ((l.getD i.toNat 0:Nat):Int) w) (hT:isSl pr t .u64=some tU64:=by kernel_rfl):semA pr (Instr.indexAt t s.v (.int .i64 i)) w fun ad w1=>ldI .u64 ad w1 fun x=>K x w1:=
 M7 hT h h0 (by simpa using h1) (by rw [gk];exact hk)
theorem ldNf {t:TypeId} {w s} {l:List Nat} (h:Rd .u64 w s (nn l)) {i:Int} (h0:0≤i) (h1:i<l.length) {K:Int→Prop} (hk:K ((l.getD i.toNat 0:Nat):Int)) (hT:isSl pr t .u64=some tU64:=by kernel_rfl):fixA pr (Instr.indexAt t s.v (.int .i64 i)) w fun ad=>ldI .u64 ad w fun x=>K x:=
 zfk hT h h0 (by simpa using h1) (by rw [gk];exact hk)
theorem stN {t:TypeId} {w s} {l:List Nat} {b:Nat} (h:Owr .u64 tU64 w s (nn l) b) {i:Int} (h0:0≤i) (h1:i<l.length) {x:Nat} {K:World→Prop} (hk:∀w',Owr .u64 tU64 w' s (nn (l.set i.toNat x)) b→(∀w0,Ahead w0 w→w0.heap.size≤b→Ahead w0 w')→w'.heap.size=w.heap.size→K w') (hT:isSl pr t .u64=some tU64:=by kernel_rfl):semA pr (Instr.indexAt t s.v (.int .i64 i)) w fun ad w1=>stC ad (.int .u64 (x:Int)) w1 fun w2=>K w2:=
 M8 hT h h0 (by simpa using h1) (fun w' ho ha hs=>hk w' (by rw [←cz];exact ho) ha hs)
theorem mkN {t:TypeId} {w:World} {n:Int} (h0:0≤n) (hn:n*8≤2^48) {K:Slc→World→Prop} (hk:∀s w',s.c=n.toNat→Owr .u64 tU64 w' s (nn (List.replicate n.toNat 0)) w.heap.size→Ahead w w'→w'.heap.size=w.heap.size+1→K s w') (hT:isSl pr t .u64=some tU64:=by kernel_rfl):semS pr (Instr.makeSlice t (.int .i64 n) (.int .i64 n)) w fun s w'=>K s w':=
 mk hT h0 (Int.le_refl _) hn (fun s w' hc ho ha hs=>hk s w' hc (by rw [←H6];exact ho) ha hs)
theorem cutHi {t:TypeId} {w:World} {s:Slc} {h:Int} (h0:0≤h) (h1:h≤s.c) {K:Slc→World→Prop} (hk:K ⟨s.A,h.toNat,s.c⟩ w) (hT:isSl pr t .u64=some tU64:=by kernel_rfl):semS pr (Instr.sliceAt t s.v none (some (.int .i64 h)) none) w fun s' w'=>K s' w':=by
 unfold semS;rw [Sem.wp_iff_run,mw hT w s h0 h1];exact ⟨_,rfl,hk⟩
theorem cutCap {t:TypeId} {w:World} {s:Slc} {h:Int} (h0:0≤h) (h1:h≤s.c) {K:Slc→World→Prop} (hk:K ⟨s.A,h.toNat,h.toNat⟩ w) (hT:isSl pr t .u64=some tU64:=by kernel_rfl):semS pr (Instr.sliceAt t s.v none (some (.int .i64 h)) (some (.int .i64 h))) w fun s' w'=>K s' w':=by
 unfold semS;rw [Sem.wp_iff_run,Mp hT w s h0 h1];exact ⟨_,rfl,hk⟩
theorem ux {w s} {l:List Nat} (h:Rd .u64 w s (nn l)) (hl:l.length≤2^46) (hok:ok B64 l):Calls pr nat_trim_id #[s.v] w fun e w'=>w'=w∧∃m,m≤l.length∧digs B64 (val B64 l)=l.take m∧e= .returned (Slc.v ⟨s.A,m,s.c⟩):=by
 have hn:s.n=l.length:=by rw [h.n,nn_length]
 have hc:=h.c
 refine Fy s w _ (fun t w'=>w'=w∧t.n≤l.length∧t=⟨s.A,t.n,s.c⟩∧∀i,t.n≤i→i<l.length→l.getD i 0=0) (fun t _=>t.n)
  ⟨rfl,by omega,by cases s;rfl,fun i h1 h2=>by omega⟩ ?_
 rintro t w' ⟨rfl,hm,ht,hz⟩
 have hrt:Rd .u64 w' t (nn (l.take t.n)):=by rw [ht];simp only;rw [←vm];exact h.take (by simp;omega) (by omega)
 refine zm (fun hp=> ?_) (fun hp=> ?_)
 ·have hp':0<t.n:=by simp at hp;omega
  have e1:IntKind.i64.wrap ((t.n:Int) -1)=(t.n:Int) -1:=zp (by omega) (by omega)
  rw [e1]
  refine ldN hrt (by omega) (by simp;omega) ?_
  have e2:((t.n:Int) -1).toNat=t.n -1:=by omega
  rw [e2]
  have e3:(l.take t.n).getD (t.n -1) 0=l.getD (t.n -1) 0:=by simp [List.getD_eq_getElem?_getD,List.getElem?_take,show t.n -1<t.n by omega]
  rw [e3]
  refine zm (fun hx=> ?_) (fun hx=> ?_)
  ·refine cutHi (by omega) (by rw [ht];simp only;omega) ?_
   refine ⟨⟨rfl,by simp only [e2];omega,by rw [ht],fun i h1 h2=> ?_⟩,by simp only [e2];omega⟩
   simp only [e2] at h1
   by_cases hi:i=t.n -1
   ·subst hi;simpa using hx
   ·exact hz i (by omega) h2
  ·refine ⟨rfl,t.n,hm,jw two64 hok hm hz (.inr ?_),by rw [ht]⟩
   simpa using hx
 ·have hp':t.n=0:=by simp at hp;omega
  exact ⟨rfl,t.n,hm,jw two64 hok hm hz (.inl hp'),by rw [ht]⟩
def OwnNil (base:Nat) (w:World) (s:Slc) (l:List Nat):Prop:=(s=⟨none,0,0⟩∧l= [])∨∃b,base≤b∧s.c≤maxLen∧Owr .u64 tU64 w s (nn l) b
theorem OwnNil.rd {base:Nat} {w s} {l:List Nat} (h:OwnNil base w s l):Rd .u64 w s (nn l):=by
 rcases h with ⟨rfl,rfl⟩|⟨b,_,_,h⟩
 ·exact Rd.nil
 ·exact h.rd
theorem OwnNil.ahead {base:Nat} {w w' s} {l:List Nat} (h:OwnNil base w s l) (ha:Ahead w w'):OwnNil base w' s l:=by
 rcases h with h|⟨b,h1,h2,h3⟩
 ·exact .inl h
 ·exact .inr ⟨b,h1,h2,h3.ahead ha⟩
theorem OwnNil.mono {base base':Nat} {w s} {l:List Nat} (h:OwnNil base w s l) (hb:base'≤base):OwnNil base' w s l:=by
 rcases h with h|⟨b,h1,h2,h3⟩
 ·exact .inl h
 ·exact .inr ⟨b,by omega,h2,h3⟩
theorem OwnNil.nil {base:Nat} {w:World} :OwnNil base w ⟨none,0,0⟩ []:= .inl ⟨rfl,rfl⟩
theorem tr {l:List Nat} (hok:ok B64 l):(digs B64 (val B64 l)).length≤l.length:=vk two64 (xa hok)
theorem us {w s} {l:List Nat} (h:Rd .u64 w s (nn l)) (hl:l.length≤2^46) (hok:ok B64 l):Calls pr nat_Length_id #[s.v] w fun e w'=>w'=w∧e= .returned (.int .i64 (bl (val B64 l))):=by
 refine Me s w _ ?_
 refine Calls.mono (ux h hl hok) ?_
 rintro e w' ⟨rfl,m,hm,hd,rfl⟩
 refine ⟨_,rfl, ?_⟩
 have hc:=h.c
 have hn:s.n=l.length:=by rw [h.n,nn_length]
 have hlen:(digs B64 (val B64 l)).length=m:=by rw [hd,List.length_take];omega
 refine zm (fun hz=> ?_) (fun hz=> ?_)
 ·have:m=0:=by simp at hz;omega
  subst this
  refine ⟨rfl, ?_⟩
  have:val B64 l=0:=by
   rw [←zu two64 (val B64 l),hd];simp [val]
  rw [this,xm];rfl
 ·have hp:0<m:=by simp at hz;omega
  have e1:IntKind.i64.wrap ((m:Int) -1)=(m:Int) -1:=zp (by omega) (by omega)
  simp only [e1]
  have hr:Rd .u64 w' ⟨s.A,m,s.c⟩ (nn (l.take m)):=by rw [←vm];exact h.take (by simp;omega) (by omega)
  refine ldN hr (by omega) (by simp;omega) ?_
  have e2:((m:Int) -1).toNat=m -1:=by omega
  rw [e2,←hd]
  have hB:=B64v
  have ho:=yi (yb two64 (val B64 l)) (by omega:0<B64) (m -1)
  refine Calls.mono (Tryz.bits_Len64 _ _ (by omega) (by omega)) ?_
  rintro e w'' ⟨rfl,rfl⟩
  refine ⟨_,rfl,rfl, ?_⟩
  try dsimp only
  rw [Int.toNat_natCast,cn ho]
  have hb:=Hg (n:=val B64 l) (m:=m -1) (by omega)
  have hb64:bl ((digs B64 (val B64 l)).getD (m -1) 0)≤64:=vw ho
  rw [hb]
  have e3:IntKind.i64.wrap (64*((m:Int) -1))=64*((m:Int) -1):=zp (by omega) (by omega)
  rw [e3,zp (by omega) (by omega)]
  congr 2;omega
theorem pj {w s} {l:List Nat} (h:Rd .u64 w s (nn l)) (hl:l.length≤2^46) (hok:ok B64 l):Calls pr nat_told_id #[s.v] w fun e w'=>w'=w∧∃m,m≤l.length∧digs B64 (val B64 l)=l.take m∧((bl (val B64 l)≤67108864∧e= .returned (.tuple #[Slc.v ⟨s.A,m,s.c⟩, .int .i64 0]))∨(67108864<bl (val B64 l)∧e= .returned (.tuple #[Slc.v ⟨none,0,0⟩, .int .i64 3]))):=by
 refine Fx s w _ ?_
 refine Calls.mono (ux h hl hok) ?_
 rintro e w' ⟨rfl,m,hm,hd,rfl⟩
 refine ⟨_,rfl, ?_⟩
 have hc:=h.c
 have hn:s.n=l.length:=by rw [h.n,nn_length]
 have hr:Rd .u64 w' ⟨s.A,m,s.c⟩ (nn (l.take m)):=by rw [←vm];exact h.take (by simp;omega) (by omega)
 refine Calls.mono (us hr (by simp;omega) (vr hok m)) ?_
 rintro e w'' ⟨rfl,rfl⟩
 refine ⟨_,rfl, ?_⟩
 try dsimp only
 rw [←hd,zu two64]
 refine zm (fun hb=> ?_) (fun hb=> ?_)
 ·exact ⟨rfl,m,hm,hd, .inr ⟨by simp at hb;omega,rfl⟩⟩
 ·exact ⟨rfl,m,hm,hd, .inl ⟨by simp at hb;omega,rfl⟩⟩
def Ans (w:World) (n:Nat) (e:Ending) (w':World):Prop:=
 Ahead w w'∧∃s c,e= .returned (.tuple #[Slc.v s, .int .i64 c])∧((bl n≤67108864∧c=0∧OwnNil w.heap.size w' s (digs B64 n))∨(67108864<bl n∧c=3∧s=⟨none,0,0⟩))
theorem Vu {w0:World} {w s} {l:List Nat} {b:Nat} (h:Owr .u64 tU64 w s (nn l) b) (hb:w0.heap.size≤b) (hc:s.c≤maxLen) (ha:Ahead w0 w) (hl:l.length≤2^46) (hok:ok B64 l):Calls pr nat_told_id #[s.v] w (Ans w0 (val B64 l)):=by
 refine Calls.mono (pj h.rd hl hok) ?_
 rintro e w' ⟨rfl,m,hm,hd,hh⟩
 refine ⟨ha, ?_⟩
 rcases hh with ⟨h1,rfl⟩|⟨h1,rfl⟩
 ·refine ⟨_,_,rfl, .inl ⟨h1,rfl, .inr ⟨b,hb,hc, ?_⟩⟩⟩
  have:=h.take (m:=m) (by simpa using hm)
  rw [hd,←vm]
  exact this
 ·exact ⟨_,_,rfl, .inr ⟨h1,rfl,rfl⟩⟩
theorem yn {w s} {l:List Nat} (h:Rd .u64 w s (nn l)) (hl:l.length≤2^44) (hok:ok B64 l):Calls pr nat_Norm_id #[s.v] w fun e w'=>Ahead w w'∧∃s',e= .returned (Slc.v s')∧OwnNil w.heap.size w' s' (digs B64 (val B64 l)):=by
 refine Fu s w _ ?_
 refine Calls.mono (ux h (by omega) hok) ?_
 rintro e w' ⟨rfl,m,hm,hd,rfl⟩
 refine ⟨_,rfl, ?_⟩
 have hc:=h.c
 have hn:s.n=l.length:=by rw [h.n,nn_length]
 have hr:Rd .u64 w' ⟨s.A,m,s.c⟩ (nn (l.take m)):=by rw [←vm];exact h.take (by simp;omega) (by omega)
 by_cases hp:0<m
 ·refine app (t:=_) (e:=tU64) (k:= .u64) (l:= []) (base:=w'.heap.size) (by kernel_rfl) hr (by simp;omega) (.inl ⟨rfl,rfl⟩) (Nat.le_refl _) (by simp;omega) ?_
  intro s' w1 b' hb' hc' ho hbl hah
  refine ⟨hbl,_,rfl, .inr ⟨b',hb',hc', ?_⟩⟩
  rw [hd];exact ho
 ·obtain rfl:m=0:=by omega
  refine app0 (e:=tU64) (k:= .u64) (by kernel_rfl) rfl ?_
  refine ⟨Ahead.refl _,_,rfl, ?_⟩
  rw [hd];exact OwnNil.nil
theorem xk {w:World} {v:Nat} (hv:v<B64):Calls pr nat_From_id #[.int .u64 v] w fun e w'=>Ahead w w'∧∃s',e= .returned (Slc.v s')∧OwnNil w.heap.size w' s' (digs B64 v):=by
 refine Fs _ w _ ?_
 refine zm (fun h=> ?_) (fun h=> ?_)
 ·have:v=0:=by simpa using h
  subst this
  exact ⟨Ahead.refl _,_,rfl,by rw [yq];exact OwnNil.nil⟩
 ·have hne:v≠0:=by simpa using h
  have hd:digs B64 v= [v]:=by
   rw [tm two64 hne,Nat.mod_eq_of_lt hv,Nat.div_eq_of_lt hv,yq]
  refine ⟨Ahead.alloc _ _,_,rfl, .inr ⟨w.heap.size,Nat.le_refl _,by show 1≤maxLen;unfold maxLen;omega,by rw [hd];rfl, [],by rw [hd];rfl, ?_⟩⟩
  rw [te,hd];rfl
end Nat
end
section
open Dg
namespace Dg
theorem kb {B:Nat} (l:List Nat) (i x:Nat) (h:i<l.length):val B (l.set i x)+B^i*l.getD i 0=val B l+B^i*x:=by
 rw [nc l i h,nc (l.set i x) i (by simpa using h),ny,xd _ _ _ _ h,if_pos rfl]
 have:(l.set i x).drop (i+1)=l.drop (i+1):=by rw [List.drop_set_of_lt (by omega)]
 rw [this]
 simp only [Nat.mul_add]
 omega
theorem Hj {B:Nat} (l:List Nat) (i:Nat) (h:i<l.length):B^i*l.getD i 0≤val B l:=by
 rw [nc l i h,Nat.mul_add];omega
theorem kr {x a s:Nat} (h:x<2^s):x|||2^s*a=x+2^s*a:=by
 rw [Nat.or_comm,←Nat.two_pow_add_eq_or_of_lt h,Nat.add_comm]
theorem kj {l:List Nat} (h:ok B64 l):bl (val B64 l)≤64*l.length:=vw (by rw [←gg];exact xa h)
theorem digit {B:Nat} (hB:0<B):∀(l:List Nat),ok B l→∀i,l.getD i 0=val B l/B^i % B
 | [],_,i=>by simp [val]
 |x::l,h,0=>by
  have:=(mp.1 h).1
  simp [val,Nat.add_mul_mod_self_left,Nat.mod_eq_of_lt this]
 |x::l,h,i+1=>by
  have hx:=(mp.1 h).1
  have:=digit hB l (mp.1 h).2 i
  rw [List.getD_cons_succ,this]
  have e:val B (x::l)=x+B*val B l:=rfl
  rw [e,Nat.pow_succ',←Nat.div_div_eq_div_mul,Nat.add_mul_div_left _ _ hB,Nat.div_eq_of_lt hx,Nat.zero_add]
theorem tq {B:Nat} (hB:0<B):∀(l:List Nat) (N:Nat),N<B^l.length→(∀i,i<l.length→l.getD i 0=N/B^i % B)→val B l=N
 | [],N,h,_=>by simp at h;subst h;rfl
 |x::l,N,h,hd=>by
  have h0:=hd 0 (by simp)
  simp at h0
  have ih:=tq hB l (N/B) (by
   rw [List.length_cons,Nat.pow_succ] at h
   exact (Nat.div_lt_iff_lt_mul hB).2 h) fun i hi=>by
    have:=hd (i+1) (by simpa using hi)
    rw [List.getD_cons_succ,Nat.pow_succ',←Nat.div_div_eq_div_mul] at this
    exact this
  have e:val B (x::l)=x+B*val B l:=rfl
  rw [e,ih,h0]
  exact Nat.mod_add_div N B
theorem zdr {B:Nat} (hB:0<B) {l:List Nat} (h:ok B l) (m:Nat):val B (l.take m)=val B l % B^m:=by
 rcases Nat.lt_or_ge l.length m with hm|hm
 ·rw [List.take_of_length_le (by omega),Nat.mod_eq_of_lt]
  exact Nat.lt_of_lt_of_le (xa h) (Nat.pow_le_pow_right hB (by omega))
 ·have hlt:val B (l.take m)<B^m:=by
   have:=xa (vr h m)
   rw [List.length_take,Nat.min_eq_left hm] at this
   exact this
  rw [xi l m hm,Nat.add_mul_mod_self_left,Nat.mod_eq_of_lt hlt]
theorem tf (n w:Nat):2^n=(2^w)^(n/w)*2^(n % w):=by
 rw [←Nat.pow_mul,←Nat.pow_add,Nat.div_add_mod]
theorem kv (x s w:Nat) (hs:s≤w):x*2^s % 2^w=2^s*(x % 2^(w -s)):=by
 have:2^w=2^s*2^(w -s):=by rw [←Nat.pow_add];congr 1;omega
 rw [this,Nat.mul_comm x,Nat.mul_mod_mul_left]
theorem my (x s w:Nat) (hs:s≤w):x*2^s/2^w=x/2^(w -s):=by
 have:2^w=2^(w -s)*2^s:=by rw [←Nat.pow_add];congr 1;omega
 rw [this,Nat.mul_div_mul_right _ _ (Nat.pow_pos (by omega))]
theorem pv {w:Nat} {l A:List Nat} {j wd s:Nat} (hs:s<w) (hl:wd+j+1<l.length) (hA:ok (2^w) A) (hj:j<A.length) (hv:val (2^w) l=val (2^w) (A.take j)*((2^w)^wd*2^s)):l.getD (wd+j) 0<2^s∧l.getD (wd+j+1) 0=0:=by
 have hB:0<2^w:=Nat.pow_pos (by omega)
 have hlt:val (2^w) (A.take j)<(2^w)^j:=by
  have:=xa (vr hA j)
  rw [List.length_take,Nat.min_eq_left (by omega)] at this
  exact this
 have hV:val (2^w) l<(2^w)^(wd+j)*2^s:=by
  rw [hv,Nat.pow_add,show (2^w)^wd*(2^w)^j*2^s=(2^w)^j*((2^w)^wd*2^s) by ac_rfl]
  exact Nat.mul_lt_mul_of_pos_right hlt (Nat.mul_pos (Nat.pow_pos hB) (Nat.pow_pos (by omega)))
 constructor
 ·have:=Hj (B:=2^w) l (wd+j) (by omega)
  exact Nat.lt_of_mul_lt_mul_left (Nat.lt_of_le_of_lt this hV)
 ·have:=Hj (B:=2^w) l (wd+j+1) (by omega)
  have h2:(2^w)^(wd+j)*2^s≤(2^w)^(wd+j+1)*1:=by
   rw [Nat.pow_succ,Nat.mul_one]
   exact Nat.mul_le_mul_left _ (Nat.pow_le_pow_right (by omega) (by omega))
  have h3:=Nat.lt_of_mul_lt_mul_left (Nat.lt_of_le_of_lt this (Nat.lt_of_lt_of_le hV h2))
  omega
theorem kp {w:Nat} {l A:List Nat} {j wd s lo hi:Nat} (hs:s<w) (hl:wd+j+1<l.length) (hA:ok (2^w) A) (hj:j<A.length) (hv:val (2^w) l=val (2^w) (A.take j)*((2^w)^wd*2^s)) (hlo:lo=l.getD (wd+j) 0+A.getD j 0*2^s % 2^w) (hhi:hi=A.getD j 0*2^s/2^w):val (2^w) ((l.set (wd+j) lo).set (wd+j+1) hi)=val (2^w) (A.take (j+1))*((2^w)^wd*2^s):=by
 obtain ⟨h3,h5⟩:=pv hs hl hA hj hv
 have v1:=kb (B:=2^w) l (wd+j) lo (by omega)
 have v2:=kb (B:=2^w) (l.set (wd+j) lo) (wd+j+1) hi (by simpa using hl)
 rw [xd _ _ _ _ (by omega),if_neg (by omega),h5,Nat.mul_zero,Nat.add_zero] at v2
 rw [v2,yj,Nat.add_mul,←hv]
 rw [hlo,Nat.mul_add] at v1
 have v1':val (2^w) (l.set (wd+j) lo)=val (2^w) l+(2^w)^(wd+j)*(A.getD j 0*2^s % 2^w):=by rw [hlo];omega
 rw [v1',Nat.add_assoc]
 congr 1
 rw [hhi,Nat.pow_succ,Nat.mul_assoc,←Nat.mul_add,Nat.mod_add_div,Nat.pow_add]
 ac_rfl
theorem j8 (V w m s:Nat) (hs:s<w):V/((2^w)^m*2^s) % 2^w=V/(2^w)^m % 2^w/2^s+2^(w -s)*(V/(2^w)^(m+1) % 2^s):=by
 rw [←Nat.div_div_eq_div_mul,Nat.pow_succ,←Nat.div_div_eq_div_mul]
 generalize V/(2^w)^m=U
 have e:2^w=2^s*2^(w -s):=by rw [←Nat.pow_add];congr 1;omega
 have h1:U=U % 2^w+2^w*(U/2^w):=(Nat.mod_add_div _ _).symm
 have h2:U/2^s=U % 2^w/2^s+2^(w -s)*(U/2^w):=by
  conv=>lhs;rw [h1]
  conv=>lhs;rw [show 2^w*(U/2^w)=2^s*(2^(w -s)*(U/2^w)) by rw [←Nat.mul_assoc,←e]]
  rw [Nat.add_mul_div_left _ _ (Nat.pow_pos (by omega))]
 have hlt:U % 2^w/2^s<2^(w -s):=by
  rw [Nat.div_lt_iff_lt_mul (Nat.pow_pos (by omega)),Nat.mul_comm,←e]
  exact Nat.mod_lt _ (Nat.pow_pos (by omega))
 have e2:2^w=2^(w -s)*2^s:=by rw [←Nat.pow_add];congr 1;omega
 rw [h2]
 clear h2 h1 e
 rw [e2] at hlt⊢
 generalize U % (2^(w -s)*2^s)/2^s=r at*
 generalize U/(2^(w -s)*2^s)=q at*
 have hq:2^(w -s)*q=2^(w -s)*(q % 2^s)+2^(w -s)*2^s*(q/2^s):=by
  conv=>lhs;rw [←Nat.mod_add_div q (2^s)]
  rw [Nat.mul_add,Nat.mul_assoc]
 rw [hq,←Nat.add_assoc,Nat.add_mul_mod_self_left]
 apply Nat.mod_eq_of_lt
 have hm:q % 2^s+1≤2^s:=Nat.mod_lt _ (Nat.pow_pos (by omega))
 have:=Nat.mul_le_mul_left (2^(w -s)) hm
 rw [Nat.mul_add] at this
 omega
theorem kf (V w m i s:Nat):V/((2^w)^m*2^s)/(2^w)^i=V/((2^w)^(m+i)*2^s):=by
 rw [Nat.div_div_eq_div_mul,Nat.pow_add]
 congr 1;ac_rfl
end Dg
end
section
open Go Go.RowKit Eng Sp Dg
namespace Nat
def Fill (w0 w:World) (c:Slc) (l:List Nat) (S:World→Prop):Prop:=
 ∃(b:Nat) (w1:World),Owr .u64 tU64 w c (nn l) b∧c.c≤maxLen∧w0.heap.size≤b∧Ahead w0 w∧Ahead w1 w∧w1.heap.size≤b∧S w1
theorem Fill.rd {w0 w c} {l:List Nat} {S:World→Prop} (h:Fill w0 w c l S):Rd .u64 w c (nn l):=by
 obtain ⟨b,w1,ho,_⟩:=h;exact ho.rd
theorem Fill.base {w0 w c} {l:List Nat} {S:World→Prop} (h:Fill w0 w c l S):Ahead w0 w:=by
 obtain ⟨b,w1,_,_,_,ha,_⟩:=h;exact ha
theorem Fill.src {w0 w c} {l:List Nat} {S:World→Prop} (h:Fill w0 w c l S) (hS:∀w1,Ahead w1 w→S w1→S w):S w:=by
 obtain ⟨b,w1,_,_,_,_,ha,_,hs⟩:=h;exact hS w1 ha hs
theorem Fill.ahead {w0 w w' c} {l:List Nat} {S:World→Prop} (h:Fill w0 w c l S) (ha:Ahead w w'):Fill w0 w' c l S:=by
 obtain ⟨b,w1,h1,h2,h3,h4,h5,h6,h7⟩:=h
 exact ⟨b,w1,h1.ahead ha,h2,h3,h4.trans ha,h5.trans ha,h6,h7⟩
theorem mkF {t:TypeId} {w0 w} {n:Int} (h0:0≤n) (hn:n*8≤2^48) {S:World→Prop} (ha0:Ahead w0 w) (hS:S w) {K:Slc→World→Prop} (hk:∀s w',s.n=n.toNat→Fill w0 w' s (List.replicate n.toNat 0) S→Ahead w w'→K s w') (hT:isSl pr t .u64=some tU64:=by kernel_rfl):semS pr (Instr.makeSlice t (.int .i64 n) (.int .i64 n)) w fun s w'=>K s w':=by
 refine mkN h0 hn (fun s w' hc ho ha hs=>hk s w' (by rw [ho.n];simp) ⟨_,w,ho,by rw [hc];unfold maxLen;omega,ha0.size,ha0.trans ha,ha,Nat.le_refl _,hS⟩ ha) hT
theorem stF {t:TypeId} {w0 w s} {l:List Nat} {S:World→Prop} (h:Fill w0 w s l S) {i:Int} (h0:0≤i) (h1:i<l.length) {x:Nat} {K:World→Prop} (hk:∀w',Fill w0 w' s (l.set i.toNat x) S→K w') (hT:isSl pr t .u64=some tU64:=by kernel_rfl):semA pr (Instr.indexAt t s.v (.int .i64 i)) w fun ad w1=>stC ad (.int .u64 (x:Int)) w1 fun w2=>K w2:=by
 obtain ⟨b,w1,ho,h2,h3,h4,h5,h6,h7⟩:=h
 exact stN ho h0 h1 (fun w' ho' ha' _=>hk w' ⟨b,w1,ho',h2,h3,ha' w0 h4 h3,ha' w1 h5 h6,h6,h7⟩) hT
theorem stFf {t:TypeId} {w0 w w2 s} {l:List Nat} {S:World→Prop} (h:Fill w0 w s l S) (ha:Ahead w w2) {i:Int} (h0:0≤i) (h1:i<l.length) {x:Nat} {K:World→Prop} (hk:∀w',Fill w0 w' s (l.set i.toNat x) S→K w') (hT:isSl pr t .u64=some tU64:=by kernel_rfl):fixA pr (Instr.indexAt t s.v (.int .i64 i)) w fun ad=>stC ad (.int .u64 (x:Int)) w2 fun w2=>K w2:=by
 obtain ⟨b,w1,ho,h2,h3,h4,h5,h6,h7⟩:=h
 have hA:s.A=some ⟨b,0,none⟩:=ho.A
 refine ⟨⟨b,i.toNat,none⟩,fun w' ha'=> ?_, ?_⟩
 ·rw [vg hT w' s i ⟨b,0,none⟩ hA h0 (by rw [ho.n];simpa using h1),zz]
 ·have hl:i.toNat<l.length:=by omega
  have ho2:=ho.ahead ha
  refine ⟨⟨_,ho2.cell (by simpa using hl)⟩,ho2.frozen _, ?_⟩
  refine hk _ ⟨b,w1, ?_,h2,h3,Ahead.setCell (h4.trans ha) h3,Ahead.setCell (h5.trans ha) h6,h6,h7⟩
  have:=ho2.set (i:=i.toNat) (by simpa using hl) (x:Int)
  rw [cz] at this
  exact this
theorem Fill.told {w0 w c} {l:List Nat} {S:World→Prop} (h:Fill w0 w c l S) (hl:l.length≤2^46) (hok:ok B64 l):Calls pr nat_told_id #[c.v] w (Ans w0 (val B64 l)):=by
 obtain ⟨b,w1,h1,h2,h3,h4,_⟩:=h
 exact Vu h1 h3 h2 h4 hl hok
theorem semShl {x y:Nat} {t:TypeId} {yk:IntKind} {w:World} {K:Int→World→Prop} (hy:y≤64) (h:K ((x*2^y % B64:Nat):Int) w):semI pr .u64 (binOp .shl t (.int .u64 (x:Int)) (.int yk (y:Int))) w K:=by
 have e:binOp .shl t (.int .u64 (x:Int)) (.int yk (y:Int))=pure (.int .u64 ((x*2^y % B64:Nat):Int)):=by
  rw [binOp_shl,shift_shl_any .u64 yk _ _ (by omega)]
  have:min ((y:Int)).toNat IntKind.u64.bits=y:=by
   have:IntKind.u64.bits=64:=rfl
   rw [this];omega
  rw [this,xt,B64v]
  congr 2
 unfold semI
 rw [e,Sem.wp_iff_run]
 exact ⟨_,rfl,h⟩
theorem semShr {x y:Nat} {t:TypeId} {yk:IntKind} {w:World} {K:Int→World→Prop} (hy:y≤64) (h:K ((x/2^y:Nat):Int) w):semI pr .u64 (binOp .shr t (.int .u64 (x:Int)) (.int yk (y:Int))) w K:=by
 have e:binOp .shr t (.int .u64 (x:Int)) (.int yk (y:Int))=pure (.int .u64 ((x/2^y:Nat):Int)):=by
  rw [binOp_shr,shift_shr_any .u64 yk _ _ (by omega)]
  have:min ((y:Int)).toNat IntKind.u64.bits=y:=by
   have:IntKind.u64.bits=64:=rfl
   rw [this];omega
  rw [this]
  congr 2
 unfold semI
 rw [e,Sem.wp_iff_run]
 exact ⟨_,rfl,h⟩
theorem fixShl {x y:Nat} {t:TypeId} {yk:IntKind} {w:World} {K:Int→Prop} (hy:y≤64) (h:K ((x*2^y % B64:Nat):Int)):fixI pr .u64 (binOp .shl t (.int .u64 (x:Int)) (.int yk (y:Int))) w K:=by
 have e:binOp .shl t (.int .u64 (x:Int)) (.int yk (y:Int))=pure (.int .u64 ((x*2^y % B64:Nat):Int)):=by
  rw [binOp_shl,shift_shl_any .u64 yk _ _ (by omega)]
  have:min ((y:Int)).toNat IntKind.u64.bits=y:=by
   have:IntKind.u64.bits=64:=rfl
   rw [this];omega
  rw [this,xt,B64v]
  congr 2
 rw [fixI,e]
 exact ⟨_,fun _ _=>rfl,h⟩
theorem uj {x y:Nat} (hx:x<B64) (hy:y<B64):orI .u64 (x:Int) (y:Int)=((x|||y:Nat):Int):=by
 have hB:=B64v
 unfold orI
 have e:(BitVec.ofInt IntKind.u64.bits (x:Int)|||BitVec.ofInt IntKind.u64.bits (y:Int)).toNat=x|||y:=by
  rw [BitVec.toNat_or,BitVec.ofInt_natCast,BitVec.ofInt_natCast,BitVec.toNat_ofNat,BitVec.toNat_ofNat]
  show x % 2^64|||y % 2^64=_
  rw [Nat.mod_eq_of_lt (by omega),Nat.mod_eq_of_lt (by omega)]
 rw [e]
 refine yd (by omega) ?_
 have:x|||y<2^64:=Nat.or_lt_two_pow (by omega) (by omega)
 omega
theorem m9 {x y:Nat} (hx:x<B64) (hy:y<B64):andI .u64 (x:Int) (y:Int)=((x&&&y:Nat):Int):=by
 have hB:=B64v
 unfold andI
 have e:(BitVec.ofInt IntKind.u64.bits (x:Int)&&&BitVec.ofInt IntKind.u64.bits (y:Int)).toNat=x&&&y:=by
  rw [BitVec.toNat_and,BitVec.ofInt_natCast,BitVec.ofInt_natCast,BitVec.toNat_ofNat,BitVec.toNat_ofNat]
  show x % 2^64&&&y % 2^64=_
  rw [Nat.mod_eq_of_lt (by omega),Nat.mod_eq_of_lt (by omega)]
 rw [e]
 refine yd (by omega) ?_
 have:x&&&y<2^64:=Nat.and_lt_two_pow _ (by omega)
 omega
end Nat
end
section
open Go Go.RowKit Eng Sp Dg
namespace Nat
theorem add64 {x y c:Nat} (hc:c≤1) {w:World} {K:Int→Int→World→Prop} (hk:K (((x+y+c) % B64:Nat):Int) (((x+y+c)/B64:Nat):Int) w):Sem.wp pr (callFunc bits_Add64_id #[.int .u64 (x:Int), .int .u64 (y:Int), .int .u64 (c:Int)]) (fun n w'=>∃s:Int,∃o:Int,n= .value (.tuple #[.int .u64 s, .int .u64 o])∧K s o w') (fun _ _=>False) w:=by
 rw [Sem.wp_iff_run,run_callFunc_extern Tryz.func121 (by kernel_rfl) (by kernel_rfl) (by kernel_rfl) (e:=add64Entry) (by kernel_rfl),run_add64 x y c (by omega) (by omega) (by omega) (by omega)]
 exact ⟨_,_,rfl,hk⟩
theorem sub64 {x y c:Nat} (hc:c≤1) {w:World} {K:Int→Int→World→Prop} (hk:K (((x+B64 -y -c) % B64:Nat):Int) (((if x<y+c then 1 else 0):Nat):Int) w):Sem.wp pr (callFunc bits_Sub64_id #[.int .u64 (x:Int), .int .u64 (y:Int), .int .u64 (c:Int)]) (fun n w'=>∃s:Int,∃o:Int,n= .value (.tuple #[.int .u64 s, .int .u64 o])∧K s o w') (fun _ _=>False) w:=by
 rw [Sem.wp_iff_run,run_callFunc_extern Tryz.func168 (by kernel_rfl) (by kernel_rfl) (by kernel_rfl) (e:=sub64Entry) (by kernel_rfl),run_sub64 x y c hc]
 exact ⟨_,_,rfl,hk⟩
theorem ti {w p q} {a b:List Nat} (hp:Rd .u64 w p (nn a)) (hq:Rd .u64 w q (nn b)) (la:a.length≤2^46) (lb:b.length≤2^46) (oa:ok B64 a) (ob:ok B64 b):Calls pr nat_Compare_id #[p.v,q.v] w fun e w'=>Ahead w w'∧e= .returned (.int .i64 (cmpI (val B64 a) (val B64 b))):=by
 refine T6 p q w _ (fun s t i w'=>Ahead w w'∧∃m:Nat,(digs B64 (val B64 a)).length=(digs B64 (val B64 b)).length∧Rd .u64 w' s (nn (digs B64 (val B64 a)))∧Rd .u64 w' t (nn (digs B64 (val B64 b)))∧
  i=(m:Int) -1∧m≤(digs B64 (val B64 a)).length∧(digs B64 (val B64 a)).drop m=(digs B64 (val B64 b)).drop m) (fun _ _ i _=>(i+1).toNat) ?_ ?_
 ·refine Calls.mono (ux hp la oa) ?_
  rintro e w' ⟨rfl,m,hm,hd,rfl⟩
  refine ⟨_,rfl, ?_⟩
  refine Calls.mono (ux hq lb ob) ?_
  rintro e w' ⟨rfl,m',hm',hd',rfl⟩
  refine ⟨_,rfl, ?_⟩
  have hca:=hp.c
  have hna:p.n=a.length:=by rw [hp.n,nn_length]
  have hcb:=hq.c
  have hnb:q.n=b.length:=by rw [hq.n,nn_length]
  have hla:(digs B64 (val B64 a)).length=m:=by rw [hd,List.length_take];omega
  have hlb:(digs B64 (val B64 b)).length=m':=by rw [hd',List.length_take];omega
  refine zm (fun hne=> ?_) (fun heq=> ?_)
  ·refine zm (fun hlt=> ?_) (fun hlt=> ?_)
   ·have hlt':m<m':=by simp at hlt;omega
    refine ⟨Ahead.refl _, ?_⟩
    have:=td two64 (m:=val B64 a) (n:=val B64 b) (by omega)
    rw [cmpI,if_pos this]
   ·have hlt':m'<m:=by simp at hlt hne;omega
    refine ⟨Ahead.refl _, ?_⟩
    have:=td two64 (m:=val B64 b) (n:=val B64 a) (by omega)
    rw [cmpI,if_neg (by omega),if_pos this]
  ·have heq':m=m':=by simp at heq;omega
   subst heq'
   refine ⟨Ahead.refl _,m,by omega, ?_, ?_,zp (by simp only;omega) (by simp only;omega),by omega, ?_⟩
   ·rw [hd,←vm];exact hp.take (by simp;omega) (by omega)
   ·rw [hd',←vm];exact hq.take (by simp;omega) (by omega)
   ·rw [List.drop_eq_nil_of_le (by omega),List.drop_eq_nil_of_le (by omega)]
 ·rintro s t i w' ⟨ha,m,hl,hs,ht,rfl,hm,hdr⟩
  have h46:=tr oa
  refine zm (fun h0=> ?_) (fun h0=> ?_)
  ·have hm1:1≤m:=by simp at h0;omega
   have e2:((m:Int) -1).toNat=m -1:=by omega
   refine ldNf hs (by omega) (by omega) ?_
   refine ldNf ht (by omega) (by omega) ?_
   intro w3 ha3
   rw [e2]
   have hdr':(digs B64 (val B64 a)).drop (m -1+1)=(digs B64 (val B64 b)).drop (m -1+1):=by rw [Nat.sub_add_cancel hm1];exact hdr
   refine zm (fun hlt=> ?_) (fun hlt=> ?_)
   ·refine ⟨ha.trans ha3, ?_⟩
    have:=jh (yb two64 _) (by omega) (by omega) hdr' (by simpa using hlt)
    rw [zu two64,zu two64] at this
    rw [cmpI,if_pos this]
   ·refine ldNf (hs.ahead ha3) (by omega) (by omega) ?_
    refine ldNf (ht.ahead ha3) (by omega) (by omega) ?_
    intro w4 ha4
    rw [e2]
    refine zm (fun hgt=> ?_) (fun hgt=> ?_)
    ·refine ⟨(ha.trans ha3).trans ha4, ?_⟩
     have:=jh (yb two64 _) (by omega) (by omega) hdr'.symm (by simpa using hgt)
     rw [zu two64,zu two64] at this
     rw [cmpI,if_neg (by omega),if_pos this]
    ·have e3:IntKind.i64.wrap ((m:Int) -1 -1)=((m -1:Nat):Int) -1:=by rw [zp (by omega) (by omega)];omega
     refine ⟨⟨(ha.trans ha3).trans ha4,m -1,hl,(hs.ahead ha3).ahead ha4,(ht.ahead ha3).ahead ha4,e3,by omega, ?_⟩,by rw [e3];omega⟩
     have heq:(digs B64 (val B64 a)).getD (m -1) 0=(digs B64 (val B64 b)).getD (m -1) 0:=by
      simp only [decide_eq_false_iff_not] at hlt hgt;omega
     have l1:m -1<(digs B64 (val B64 a)).length:=by omega
     have l2:m -1<(digs B64 (val B64 b)).length:=by omega
     rw [List.drop_eq_getElem_cons l1,List.drop_eq_getElem_cons l2,hdr',←xx _ 0 l1,←xx _ 0 l2,heq]
  ·have hm0:m=0:=by simp at h0;omega
   subst hm0
   refine ⟨ha, ?_⟩
   have:=Yy two64 (m:=val B64 a) (n:=val B64 b) (by simpa using hdr)
   rw [this,cmpI,if_neg (by omega),if_neg (by omega)]
theorem n9 {w p q} {a b:List Nat} (hp:Rd .u64 w p (nn a)) (hq:Rd .u64 w q (nn b)) (la:a.length≤2^44) (lb:b.length≤2^44) (oa:ok B64 a) (ob:ok B64 b):Calls pr nat_Add_id #[p.v,q.v] w (Ans w (val B64 a+val B64 b)):=by
 have hB:=B64v
 have key:∀(s t:Slc) (A C:List Nat) (w2:World),Ahead w w2→Rd .u64 w2 s (nn A)→Rd .u64 w2 t (nn C)→ok B64 A→ok B64 C→C.length≤A.length→A.length≤2^44→val B64 A+val B64 C=val B64 a+val B64 b→True:=fun _ _ _ _ _ _ _ _ _ _ _ _ _=>trivial
 refine zas p q w _ (fun s t c k n i w'=>Ahead w w'∧∃(A C l:List Nat) (j cr bb:Nat),Rd .u64 w' s (nn A)∧Rd .u64 w' t (nn C)∧ok B64 A∧ok B64 C∧C.length≤A.length∧A.length≤2^44∧
  val B64 A+val B64 C=val B64 a+val B64 b∧n=(A.length:Int)∧i=(j:Int)∧j≤A.length∧k=(cr:Int)∧cr≤1∧Owr .u64 tU64 w' c (nn l) bb∧c.c≤maxLen∧w.heap.size≤bb∧
  l.length=A.length+1∧ok B64 l∧val B64 (l.take j)+cr*B64^j=val B64 (A.take j)+val B64 (C.take j)∧
  (∃w1,Ahead w1 w'∧w1.heap.size≤bb∧Rd .u64 w1 s (nn A)∧Rd .u64 w1 t (nn C))) (fun _ _ _ _ n i _=>(n -i).toNat) ?_ ?_
 ·refine Calls.mono (ux hp (by omega) oa) ?_
  rintro e w' ⟨rfl,m,hm,hd,rfl⟩
  refine ⟨_,rfl, ?_⟩
  refine Calls.mono (ux hq (by omega) ob) ?_
  rintro e w' ⟨rfl,m',hm',hd',rfl⟩
  refine ⟨_,rfl, ?_⟩
  have hca:=hp.c
  have hna:p.n=a.length:=by rw [hp.n,nn_length]
  have hcb:=hq.c
  have hnb:q.n=b.length:=by rw [hq.n,nn_length]
  have hla:(digs B64 (val B64 a)).length=m:=by rw [hd,List.length_take];omega
  have hlb:(digs B64 (val B64 b)).length=m':=by rw [hd',List.length_take];omega
  have r1:Rd .u64 w' ⟨p.A,m,p.c⟩ (nn (digs B64 (val B64 a))):=by rw [hd,←vm];exact hp.take (by simp;omega) (by omega)
  have r2:Rd .u64 w' ⟨q.A,m',q.c⟩ (nn (digs B64 (val B64 b))):=by rw [hd',←vm];exact hq.take (by simp;omega) (by omega)
  refine zm (fun hlt=> ?_) (fun hlt=> ?_)
  ·have hlt':m<m':=by simp at hlt;omega
   simp only
   rw [zp (x:=(m':Int)+1) (by omega) (by omega)]
   refine mkN (by omega) (by omega) ?_
   intro s w1 hc ho ha hs
   refine ⟨ha,_,_,_,0,0,_,r2.ahead ha,r1.ahead ha,yb two64 _,yb two64 _,by omega,by omega, ?_,by simp only [hlb],rfl,Nat.zero_le _,rfl,Nat.zero_le _,ho,by rw [hc];unfold maxLen;omega,Nat.le_refl _,by simp;omega,yr (by omega) _,by simp [val],w',ha,Nat.le_refl _,r2,r1⟩
   rw [zu two64,zu two64];omega
  ·have hlt':m'≤m:=by simp at hlt;omega
   simp only
   rw [zp (x:=(m:Int)+1) (by omega) (by omega)]
   refine mkN (by omega) (by omega) ?_
   intro s w1 hc ho ha hs
   refine ⟨ha,_,_,_,0,0,_,r1.ahead ha,r2.ahead ha,yb two64 _,yb two64 _,by omega,by omega, ?_,by simp only [hla],rfl,Nat.zero_le _,rfl,Nat.zero_le _,ho,by rw [hc];unfold maxLen;omega,Nat.le_refl _,by simp;omega,yr (by omega) _,by simp [val],w',ha,Nat.le_refl _,r1,r2⟩
   rw [zu two64,zu two64]
 ·rintro s t c k n i w' ⟨ha,A,C,l,j,cr,bb,hs,ht,oA,oC,hCA,hA,hv,rfl,rfl,hj,rfl,hcr,ho,hcc,hbb,hl,ol,hval,w1,ha1,hw1,hs1,ht1⟩
  have htn:t.n=C.length:=by rw [ht.n,nn_length]
  have hsn:s.n=A.length:=by rw [hs.n,nn_length]
  have round:∀y:Nat,y<B64→y=C.getD j 0→j<A.length→semA pr (Instr.indexAt 23 s.v (.int .i64 (j:Int))) w' fun ad2 w5=>ldI .u64 ad2 w5 fun x2=>
    Sem.wp pr (callFunc bits_Add64_id #[.int .u64 x2, .int .u64 (y:Int), .int .u64 (cr:Int)]) (fun n1 w6=>∃x3:Int,∃x4:Int,n1= .value (.tuple #[.int .u64 x3, .int .u64 x4])∧
     (semA pr (Instr.indexAt 23 c.v (.int .i64 (j:Int))) w6 fun ad3 w7=>stC ad3 (.int .u64 x3) w7 fun w8=>
      (Ahead w w8∧∃(A C l:List Nat) (j' cr bb:Nat),Rd .u64 w8 s (nn A)∧Rd .u64 w8 t (nn C)∧ok B64 A∧ok B64 C∧C.length≤A.length∧A.length≤2^44∧
  val B64 A+val B64 C=val B64 a+val B64 b∧(s.n:Int)=(A.length:Int)∧IntKind.i64.wrap ((j:Int)+1)=(j':Int)∧j'≤A.length∧x4=(cr:Int)∧cr≤1∧Owr .u64 tU64 w8 c (nn l) bb∧c.c≤maxLen∧w.heap.size≤bb∧
  l.length=A.length+1∧ok B64 l∧val B64 (l.take j')+cr*B64^j'=val B64 (A.take j')+val B64 (C.take j')∧
  (∃w1,Ahead w1 w8∧w1.heap.size≤bb∧Rd .u64 w1 s (nn A)∧Rd .u64 w1 t (nn C)))∧((s.n:Int) -IntKind.i64.wrap ((j:Int)+1)).toNat<((s.n:Int) -(j:Int)).toNat)) (fun _ _=>False) w5:=by
   intro y hy hyC hjA
   refine ldN hs (by omega) (by omega) ?_
   refine add64 hcr ?_
   refine stN ho (by omega) (by omega) ?_
   intro w8 ho8 hah hsz
   have e1:IntKind.i64.wrap ((j:Int)+1)=((j+1:Nat):Int):=by rw [zp (by omega) (by omega)];omega
   have hx:=yi oA (by omega:0<B64) j
   have ha8:=hah w1 ha1 hw1
   simp only [Int.toNat_natCast] at ho8⊢
   have hq1:(A.getD j 0+y+cr)/B64≤1:=by
    have:A.getD j 0+y+cr<2*B64:=by omega
    have:=(Nat.div_lt_iff_lt_mul (by omega:0<B64)).2 this
    omega
   refine ⟨⟨hah w ha hbb,A,C,_,j+1,_,bb,hs1.ahead ha8,ht1.ahead ha8,oA,oC,hCA,hA,hv,by omega,e1,by omega,rfl,hq1,ho8,hcc,hbb,by simpa using hl,xb ol (Nat.mod_lt _ (by omega)), ?_,w1,ha8,hw1,hs1,ht1⟩,by rw [e1];omega⟩
   rw [xu _ _ _ (by omega),yj,yj,Nat.pow_succ,←hyC]
   exact fh (by have:=Nat.mod_add_div (A.getD j 0+y+cr) B64;omega) hval
  refine zm (fun hlt=> ?_) (fun hge=> ?_)
  ·have hjA:j<A.length:=by simpa using hlt
   have e0:((A.length:Nat):Int)=(s.n:Int):=by omega
   rw [e0]
   refine zm (fun hjC=> ?_) (fun hjC=> ?_)
   ·have hjC':j<C.length:=by simp at hjC;omega
    refine ldN ht (by omega) (by omega) ?_
    exact round _ (yi oC (by omega) j) rfl hjA
   ·have hjC':C.length≤j:=by simp at hjC;omega
    exact round 0 (by omega) (ui _ _ hjC').symm hjA
  ·have hjA:j=A.length:=by simp at hge;omega
   subst hjA
   rw [hsn]
   refine stN ho (by omega) (by omega) ?_
   intro w8 ho8 hah hsz
   simp only [Int.toNat_natCast] at ho8
   have hfin:val B64 (l.set A.length cr)=val B64 a+val B64 b:=by
    rw [←yx (l.set A.length cr) (m:=A.length+1) (by simp;omega),xu _ _ _ (by omega),←hv]
    rw [yx A (Nat.le_refl _),yx C hCA] at hval
    rw [Nat.mul_comm];exact hval
   refine Calls.mono (Vu ho8 hbb hcc (hah w ha hbb) (by simp;omega) (xb ol (by omega))) ?_
   rw [hfin]
   rintro e w'' ⟨h1,s',c',rfl,h2⟩
   exact ⟨_,_,rfl,h1,_,_,rfl,h2⟩
theorem me {w p q} {a b:List Nat} (hp:Rd .u64 w p (nn a)) (hq:Rd .u64 w q (nn b)) (la:a.length≤2^44) (lb:b.length≤2^44) (oa:ok B64 a) (ob:ok B64 b):Calls pr nat_Sub_id #[p.v,q.v] w fun e w'=>(val B64 a<val B64 b∧Ahead w w'∧e= .returned (.tuple #[Slc.v ⟨none,0,0⟩, .int .i64 10]))∨(val B64 b≤val B64 a∧Ans w (val B64 a -val B64 b) e w'):=by
 have hB:=B64v
 refine zau p q w _ (fun s t c k n i w'=>val B64 b≤val B64 a∧Ahead w w'∧∃(A C l:List Nat) (j cr bb:Nat),Rd .u64 w' s (nn A)∧Rd .u64 w' t (nn C)∧ok B64 A∧ok B64 C∧A.length≤2^44∧
  val B64 A=val B64 a∧val B64 C=val B64 b∧C.length≤A.length∧n=(A.length:Int)∧i=(j:Int)∧j≤A.length∧k=(cr:Int)∧cr≤1∧Owr .u64 tU64 w' c (nn l) bb∧c.c≤maxLen∧w.heap.size≤bb∧
  l.length=A.length∧ok B64 l∧val B64 (l.take j)+val B64 (C.take j)=val B64 (A.take j)+cr*B64^j∧
  (∃w1,Ahead w1 w'∧w1.heap.size≤bb∧Rd .u64 w1 s (nn A)∧Rd .u64 w1 t (nn C))) (fun _ _ _ _ n i _=>(n -i).toNat) ?_ ?_
 ·refine Calls.mono (ti hp hq (by omega) (by omega) oa ob) ?_
  rintro e w1 ⟨ha1,rfl⟩
  refine ⟨_,rfl, ?_⟩
  refine zm (fun hlt=> ?_) (fun hge=> ?_)
  ·exact .inl ⟨ta.1 (by simpa using hlt),ha1,rfl⟩
  ·have hle:val B64 b≤val B64 a:=by
    simp only [decide_eq_false_iff_not,ta] at hge;omega
   refine Calls.mono (ux (hp.ahead ha1) (by omega) oa) ?_
   rintro e w' ⟨rfl,m,hm,hd,rfl⟩
   refine ⟨_,rfl, ?_⟩
   refine Calls.mono (ux (hq.ahead ha1) (by omega) ob) ?_
   rintro e w' ⟨rfl,m',hm',hd',rfl⟩
   refine ⟨_,rfl, ?_⟩
   have hca:=hp.c
   have hna:p.n=a.length:=by rw [hp.n,nn_length]
   have hcb:=hq.c
   have hnb:q.n=b.length:=by rw [hq.n,nn_length]
   have hla:(digs B64 (val B64 a)).length=m:=by rw [hd,List.length_take];omega
   have hlb:(digs B64 (val B64 b)).length=m':=by rw [hd',List.length_take];omega
   have r1:Rd .u64 w' ⟨p.A,m,p.c⟩ (nn (digs B64 (val B64 a))):=by rw [hd,←vm];exact (hp.ahead ha1).take (by simp;omega) (by omega)
   have r2:Rd .u64 w' ⟨q.A,m',q.c⟩ (nn (digs B64 (val B64 b))):=by rw [hd',←vm];exact (hq.ahead ha1).take (by simp;omega) (by omega)
   have hmm:m'≤m:=by
    rcases Nat.lt_or_ge m m' with h|h
    ·have:=td two64 (m:=val B64 a) (n:=val B64 b) (by omega);omega
    ·exact h
   refine mkN (by simp only;omega) (by simp only;omega) ?_
   intro s w2 hc ho ha hs
   have hsz:=ha1.size
   refine ⟨hle,ha1.trans ha,_,_,_,0,0,_,r1.ahead ha,r2.ahead ha,yb two64 _,yb two64 _,by omega,zu two64 _,zu two64 _,by omega,by simp only [hla],rfl,Nat.zero_le _,rfl,Nat.zero_le _,ho,by rw [hc];unfold maxLen;simp only;omega,by omega,by simp;omega,yr (by omega) _,by simp [val],w',ha,Nat.le_refl _,r1,r2⟩
 ·rintro s t c k n i w' ⟨hle,ha,A,C,l,j,cr,bb,hs,ht,oA,oC,hA,hvA,hvC,hCA,rfl,rfl,hj,rfl,hcr,ho,hcc,hbb,hl,ol,hval,w1,ha1,hw1,hs1,ht1⟩
  have htn:t.n=C.length:=by rw [ht.n,nn_length]
  have hsn:s.n=A.length:=by rw [hs.n,nn_length]
  have round:∀y:Nat,y<B64→y=C.getD j 0→j<A.length→semA pr (Instr.indexAt 23 s.v (.int .i64 (j:Int))) w' fun ad2 w5=>ldI .u64 ad2 w5 fun x2=>
    Sem.wp pr (callFunc bits_Sub64_id #[.int .u64 x2, .int .u64 (y:Int), .int .u64 (cr:Int)]) (fun n1 w6=>∃x3:Int,∃x4:Int,n1= .value (.tuple #[.int .u64 x3, .int .u64 x4])∧
     (semA pr (Instr.indexAt 23 c.v (.int .i64 (j:Int))) w6 fun ad3 w7=>stC ad3 (.int .u64 x3) w7 fun w8=>
      (val B64 b≤val B64 a∧Ahead w w8∧∃(A' C' l:List Nat) (j' cr bb:Nat),Rd .u64 w8 s (nn A')∧Rd .u64 w8 t (nn C')∧ok B64 A'∧ok B64 C'∧A'.length≤2^44∧
  val B64 A'=val B64 a∧val B64 C'=val B64 b∧C'.length≤A'.length∧(A.length:Int)=(A'.length:Int)∧IntKind.i64.wrap ((j:Int)+1)=(j':Int)∧j'≤A'.length∧x4=(cr:Int)∧cr≤1∧Owr .u64 tU64 w8 c (nn l) bb∧c.c≤maxLen∧w.heap.size≤bb∧
  l.length=A'.length∧ok B64 l∧val B64 (l.take j')+val B64 (C'.take j')=val B64 (A'.take j')+cr*B64^j'∧
  (∃w1,Ahead w1 w8∧w1.heap.size≤bb∧Rd .u64 w1 s (nn A')∧Rd .u64 w1 t (nn C')))∧((A.length:Int) -IntKind.i64.wrap ((j:Int)+1)).toNat<((A.length:Int) -(j:Int)).toNat)) (fun _ _=>False) w5:=by
   intro y hy hyC hjA
   refine ldN hs (by omega) (by omega) ?_
   refine sub64 hcr ?_
   refine stN ho (by omega) (by omega) ?_
   intro w8 ho8 hah hsz
   have e1:IntKind.i64.wrap ((j:Int)+1)=((j+1:Nat):Int):=by rw [zp (by omega) (by omega)];omega
   have hx:=yi oA (by omega:0<B64) j
   have ha8:=hah w1 ha1 hw1
   simp only [Int.toNat_natCast] at ho8⊢
   have hq1:(if A.getD j 0<y+cr then 1 else 0)≤1:=by split<;>omega
   have hst:(A.getD j 0+B64 -y -cr) % B64+y+cr=A.getD j 0+B64*(if A.getD j 0<y+cr then 1 else 0):=by
    generalize A.getD j 0=x at*
    split
    ·rename_i h
     rw [Nat.mod_eq_of_lt (by omega)];omega
    ·rename_i h
     have:x+B64 -y -cr=(x -y -cr)+B64:=by omega
     rw [this,Nat.add_mod_right,Nat.mod_eq_of_lt (by omega)];omega
   refine ⟨⟨hle,hah w ha hbb,A,C,_,j+1,_,bb,hs1.ahead ha8,ht1.ahead ha8,oA,oC,hA,hvA,hvC,hCA,rfl,e1,by omega,rfl,hq1,ho8,hcc,hbb,by simpa using hl,xb ol (Nat.mod_lt _ (by omega)), ?_,w1,ha8,hw1,hs1,ht1⟩,by rw [e1];omega⟩
   rw [xu _ _ _ (by omega),yj,yj,Nat.pow_succ,←hyC]
   exact Xn hst hval
  refine zm (fun hlt=> ?_) (fun hge=> ?_)
  ·have hjA:j<A.length:=by simpa using hlt
   refine zm (fun hjC=> ?_) (fun hjC=> ?_)
   ·have hjC':j<C.length:=by simp at hjC;omega
    refine ldN ht (by omega) (by omega) ?_
    exact round _ (yi oC (by omega) j) rfl hjA
   ·have hjC':C.length≤j:=by simp at hjC;omega
    exact round 0 (by omega) (ui _ _ hjC').symm hjA
  ·have hjA:j=A.length:=by simp at hge;omega
   subst hjA
   have hfin:val B64 l=val B64 a -val B64 b:=by
    rw [yx l (by omega),yx A (Nat.le_refl _),yx C hCA,hvA,hvC] at hval
    have hlt:=xa ol
    rw [hl] at hlt
    have:cr=0:=by
     rcases Nat.lt_or_ge cr 1 with h|h
     ·omega
     ·have:cr=1:=by omega
      subst this
      omega
    subst this
    omega
   refine Calls.mono (Vu ho hbb hcc ha (by omega) ol) ?_
   rw [hfin]
   rintro e w'' ⟨h1,s',c',rfl,h2⟩
   exact ⟨_,_,rfl, .inr ⟨hle,h1,_,_,rfl,h2⟩⟩
end Nat
end
section
open Go Go.RowKit Eng Sp Dg
namespace Nat
def bigC (n:Nat):Int:=if bl n≤67108864 then 0 else 3
def Ret (w:World) (code:Int) (N:Nat) (e:Ending) (w':World):Prop:=
 Ahead w w'∧∃s,e= .returned (.tuple #[Slc.v s, .int .i64 code])∧OwnNil w.heap.size w' s (if code=0 then digs B64 N else [])
theorem Ans.ret {w w'} {n:Nat} {e:Ending} (h:Ans w n e w'):Ret w (bigC n) n e w':=by
 obtain ⟨ha,s,c,rfl,⟨h1,rfl,ho⟩|⟨h1,rfl,rfl⟩⟩:=h
 ·exact ⟨ha,s,by rw [bigC,if_pos h1],by rw [bigC,if_pos h1,if_pos rfl];exact ho⟩
 ·exact ⟨ha,_,by rw [bigC,if_neg (by omega)],by rw [bigC,if_neg (by omega)];exact OwnNil.nil⟩
theorem Fill.trim {w0 w c} {l:List Nat} {S:World→Prop} (h:Fill w0 w c l S) (hl:l.length≤2^46) (hok:ok B64 l):Calls pr nat_trim_id #[c.v] w fun e w'=>w'=w∧∃s,e= .returned (Slc.v s)∧OwnNil w0.heap.size w s (digs B64 (val B64 l)):=by
 refine Calls.mono (ux h.rd hl hok) ?_
 rintro e w' ⟨rfl,m,hm,hd,rfl⟩
 obtain ⟨b,w1,ho,h2,h3,_⟩:=h
 refine ⟨rfl,_,rfl, .inr ⟨b,h3,h2, ?_⟩⟩
 have:=ho.take (m:=m) (by simpa using hm)
 rw [hd,←vm]
 exact this
theorem Zx {w p} {a:List Nat} (hp:Rd .u64 w p (nn a)) (la:a.length≤2^44) (oa:ok B64 a):Calls pr nat_trim_id #[p.v] w fun e w'=>w'=w∧∃s,e= .returned (Slc.v s)∧s.n=(digs B64 (val B64 a)).length∧Rd .u64 w s (nn (digs B64 (val B64 a))):=by
 refine Calls.mono (ux hp (by omega) oa) ?_
 rintro e w' ⟨rfl,m,hm,hd,rfl⟩
 have hca:=hp.c
 have hna:p.n=a.length:=by rw [hp.n,nn_length]
 have hla:(digs B64 (val B64 a)).length=m:=by rw [hd,List.length_take];omega
 exact ⟨rfl,_,rfl,hla.symm,by rw [hd,←vm];exact hp.take (by simp;omega) (by omega)⟩
def leftC (v:Nat) (n:Int):Int:=if n<0∨1099511627776<n then 1 else if v≠0∧(67108864:Int)<bl v+n then 3 else 0
theorem zbf {w p} {a:List Nat} (hp:Rd .u64 w p (nn a)) (la:a.length≤2^44) (oa:ok B64 a) {n:Int} (hn0: -9223372036854775808≤n) (hn1:n≤9223372036854775807):Calls pr nat_Left_id #[p.v, .int .i64 n] w (Ret w (leftC (val B64 a) n) (val B64 a*2^n.toNat)):=by
 have hB:=B64v
 have hlen:=tr oa
 refine Ft p n w _ (fun t6 t7 t8 t38 t39 t40 w'=>0≤n∧n≤1099511627776∧(val B64 a≠0→(bl (val B64 a):Int)+n≤67108864)∧∃(l:List Nat) (j:Nat),
  t6=((n.toNat/64:Nat):Int)∧t7=((n.toNat % 64:Nat):Int)∧t39=((digs B64 (val B64 a)).length:Int)∧t40=(j:Int)∧j≤(digs B64 (val B64 a)).length∧
  Fill w w' t8 l (fun w'=>Rd .u64 w' t38 (nn (digs B64 (val B64 a))))∧l.length=n.toNat/64+(digs B64 (val B64 a)).length+1∧ok B64 l∧
  val B64 l=val B64 ((digs B64 (val B64 a)).take j)*(B64^(n.toNat/64)*2^(n.toNat % 64))) (fun _ _ _ _ n i _=>(n -i).toNat) ?_ ?_
 ·refine zm (fun h=> ?_) (fun h=>zm (fun h'=> ?_) (fun h'=> ?_))
  ·have hc:leftC (val B64 a) n=1:=by rw [leftC,if_pos];left;simpa using h
   rw [hc]
   exact ⟨Ahead.refl _,_,rfl,OwnNil.nil⟩
  ·have hc:leftC (val B64 a) n=1:=by rw [leftC,if_pos];right;simpa using h'
   rw [hc]
   exact ⟨Ahead.refl _,_,rfl,OwnNil.nil⟩
  ·have h0:0≤n:=by simpa using h
   have h1:n≤1099511627776:=by simpa using h'
   refine Calls.mono (Zx hp la oa) ?_
   rintro e w' ⟨rfl,s,rfl,hsn,hs⟩
   refine ⟨_,rfl,zm (fun hz=> ?_) (fun hz=> ?_)⟩
   ·have hd:digs B64 (val B64 a)= []:=List.eq_nil_of_length_eq_zero (by simp at hz;omega)
    have hv:val B64 a=0:=by rw [←zu two64 (val B64 a),hd];rfl
    have hc:leftC (val B64 a) n=0:=by rw [leftC,if_neg (by omega),if_neg (by omega)]
    rw [hc,hv,Nat.zero_mul]
    exact ⟨Ahead.refl _,_,rfl,by rw [if_pos rfl,yq];exact OwnNil.nil⟩
   ·have hv:val B64 a≠0:=fun h=>by rw [h,yq] at hsn;simp at hz;simp at hsn;omega
    refine Calls.mono (us hs (by omega) (yb two64 _)) ?_
    rintro e w2 ⟨rfl,rfl⟩
    rw [zu two64]
    have hbl:bl (val B64 a)≤64*a.length:=kj oa
    refine ⟨_,rfl, ?_⟩
    try dsimp only
    rw [zp (x:=(bl (val B64 a):Int)+n) (by omega) (by omega)]
    refine zm (fun hb=> ?_) (fun hb=> ?_)
    ·have hb':67108864<(bl (val B64 a):Int)+n:=by simpa using hb
     have hc:leftC (val B64 a) n=3:=by rw [leftC,if_neg (by omega),if_pos ⟨hv,hb'⟩]
     rw [hc]
     exact ⟨Ahead.refl _,_,rfl,OwnNil.nil⟩
    ·have hb':(bl (val B64 a):Int)+n≤67108864:=by simpa using hb
     have e1:IntKind.i64.wrap (Int.tdiv n 64)=((n.toNat/64:Nat):Int):=by
      have:Int.tdiv n 64=((n.toNat/64:Nat):Int):=by rw [Int.tdiv_eq_ediv_of_nonneg h0];omega
      rw [this,zp (by omega) (by omega)]
     have e2:IntKind.u64.wrap (Int.tmod n 64)=((n.toNat % 64:Nat):Int):=by
      have:Int.tmod n 64=((n.toNat % 64:Nat):Int):=by rw [Int.tmod_eq_emod_of_nonneg h0];omega
      rw [this,yd (by omega) (by omega)]
     rw [e1,e2,hsn,zp (x:=((n.toNat/64:Nat):Int)+_) (by omega) (by omega),zp (x:=((n.toNat/64:Nat):Int)+_+1) (by omega) (by omega)]
     refine mkF (w0:=w2) (S:=fun w'=>Rd .u64 w' s (nn (digs B64 (val B64 a)))) (by omega) (by omega) (Ahead.refl _) hs ?_
     intro c w3 hcn hf ha
     refine ⟨h0,h1,fun _=>hb',_,0,rfl,rfl,rfl,rfl,Nat.zero_le _,hf,by simp;omega,yr (by omega) _, ?_⟩
     rw [xn];simp [val]
 ·rintro t6 t7 c t38 t39 t40 w' ⟨h0,h1,hbl,l,j,rfl,rfl,rfl,rfl,hj,hf,hl,ol,hv⟩
  have hS:=hf.src (fun _ h hs=>Rd.ahead hs h)
  refine zm (fun hlt=> ?_) (fun hge=> ?_)
  ·have hj':j<(digs B64 (val B64 a)).length:=by simpa using hlt
   have h64:B64=2^64:=rfl
   have hoA:=yb two64 (val B64 a)
   generalize hA:digs B64 (val B64 a)=A at*
   have hw:n.toNat % 64<64:=Nat.mod_lt _ (by omega)
   have hfacts:=pv (w:=64) (l:=l) (A:=A) (j:=j) (wd:=n.toNat/64) (s:=n.toNat % 64) hw (by omega) hoA hj' hv
   refine ldN hS (by omega) (by omega) ?_
   rw [zp (x:=((n.toNat/64:Nat):Int)+_) (by omega) (by omega),show ((n.toNat/64:Nat):Int)+(j:Int)=((n.toNat/64+j:Nat):Int) by omega,
    zp (x:=((n.toNat/64+j:Nat):Int)+1) (by omega) (by omega),show ((n.toNat/64+j:Nat):Int)+1=((n.toNat/64+j+1:Nat):Int) by omega]
   refine ldN hf.rd (by omega) (by omega) ?_
   refine semShl (by omega) ?_
   have hx:=yi hoA (by omega:0<B64) j
   have hlk:=yi ol (by omega:0<B64) (n.toNat/64+j)
   simp only [Int.toNat_natCast]
   rw [uj hlk (Nat.mod_lt _ (by omega))]
   refine stF hf (by omega) (by omega) ?_
   intro w8 hf8
   simp only [Int.toNat_natCast] at hf8
   refine ldN hf8.rd (by omega) (by simp;omega) ?_
   have e3:Int.fdiv (A.getD j 0:Int) (2^(1:Nat))=((A.getD j 0/2:Nat):Int):=by rw [Int.fdiv_eq_ediv_of_nonneg _ (by decide)];norm_cast
   have e4:IntKind.u64.wrap (63 -((n.toNat % 64:Nat):Int))=((63 -n.toNat % 64:Nat):Int):=by rw [yd (by omega) (by omega)];omega
   rw [e3,e4]
   refine semShr (by omega) ?_
   simp only [Int.toNat_natCast]
   have e5:(l.set (n.toNat/64+j) (l.getD (n.toNat/64+j) 0|||A.getD j 0*2^(n.toNat % 64) % B64)).getD (n.toNat/64+j+1) 0=0:=by
    rw [xd _ _ _ _ (by omega),if_neg (by omega)];exact hfacts.2
   have e6:A.getD j 0/2/2^(63 -n.toNat % 64)=A.getD j 0*2^(n.toNat % 64)/2^64:=by
    rw [my _ _ _ (by omega),Nat.div_div_eq_div_mul]
    congr 1
    rw [show 64 -n.toNat % 64=63 -n.toNat % 64+1 by omega,Nat.pow_succ];omega
   have hhi:A.getD j 0*2^(n.toNat % 64)/2^64<B64:=by
    rw [my _ _ _ (by omega)]
    exact Nat.lt_of_le_of_lt (Nat.div_le_self _ _) hx
   rw [e5,e6]
   have e7:orI .u64 ((0:Nat):Int) ((A.getD j 0*2^(n.toNat % 64)/2^64:Nat):Int)=((A.getD j 0*2^(n.toNat % 64)/2^64:Nat):Int):=by
    rw [uj (by omega) hhi,Nat.zero_or]
   rw [e7]
   refine stF hf8 (by omega) (by simp;omega) ?_
   intro w12 hf12
   have e8:IntKind.i64.wrap ((j:Int)+1)=((j+1:Nat):Int):=by rw [zp (by omega) (by omega)];omega
   refine ⟨⟨h0,h1,hbl,_,j+1,by trivial,by trivial,by trivial,e8,by omega,hf12,by simpa using hl, ?_, ?_⟩,by rw [e8];omega⟩
   ·refine xb (xb ol ?_) hhi
    show _<2^64
    exact Nat.or_lt_two_pow hlk (Nat.mod_lt _ (by omega))
   ·simp only [Int.toNat_natCast]
    refine kp (w:=64) hw (by omega) hoA hj' hv ?_ rfl
    have hlo:=kv (A.getD j 0) (n.toNat % 64) 64 (by omega)
    have hlo':A.getD j 0*2^(n.toNat % 64) % B64=_:=hlo
    rw [hlo',hlo,kr hfacts.1]
  ·have hj':j=(digs B64 (val B64 a)).length:=by simp at hge;omega
   subst hj'
   refine Calls.mono (hf.trim (by omega) ol) ?_
   rintro e w3 ⟨rfl,s,rfl,ho⟩
   refine ⟨_,rfl,hf.base,s, ?_⟩
   have hc:leftC (val B64 a) n=0:=by
    rw [leftC,if_neg (by omega),if_neg]
    rintro ⟨h2,h3⟩
    have:=hbl h2
    omega
   have hp2:B64^(n.toNat/64)*2^(n.toNat % 64)=2^n.toNat:=(tf n.toNat 64).symm
   rw [hv,List.take_length,zu two64,hp2] at ho
   rw [hc]
   exact ⟨rfl,ho⟩
def rightC (v:Nat) (n:Int):Int:=if n<0∨1099511627776<n then 1 else bigC (v/2^n.toNat)
theorem zab {w p} {a:List Nat} (hp:Rd .u64 w p (nn a)) (la:a.length≤2^44) (oa:ok B64 a) {n:Int}:Calls pr nat_Right_id #[p.v, .int .i64 n] w (Ret w (rightC (val B64 a) n) (val B64 a/2^n.toNat)):=by
 have hB:=B64v
 have h64:B64=2^64:=rfl
 have hlen:=tr oa
 have hw:n.toNat % 64<64:=Nat.mod_lt _ (by omega)
 have hp2:B64^(n.toNat/64)*2^(n.toNat % 64)=2^n.toNat:=(tf n.toNat 64).symm
 have hA0:val B64 (digs B64 (val B64 a))=val B64 a:=zu two64 _
 have hoA:=yb two64 (val B64 a)
 generalize hA:digs B64 (val B64 a)=A at*
 refine H1 p n w _ (fun t0 t6 t7 t8 t33 t34 w'=>0≤n∧n≤1099511627776∧n.toNat/64<A.length∧∃(l:List Nat) (j:Nat),
  t6=((n.toNat/64:Nat):Int)∧t7=((n.toNat % 64:Nat):Int)∧t33=((A.length -n.toNat/64:Nat):Int)∧t34=(j:Int)∧j≤A.length -n.toNat/64∧t0.n=A.length∧
  Fill w w' t8 l (fun w'=>Rd .u64 w' t0 (nn A))∧l.length=A.length -n.toNat/64∧ok B64 l∧
  ∀i,i<j→l.getD i 0=val B64 a/2^n.toNat/B64^i % B64) (fun _ _ _ _ n i _=>(n -i).toNat) ?_ ?_
 ·refine zm (fun h=> ?_) (fun h=>zm (fun h'=> ?_) (fun h'=> ?_))
  ·have hc:rightC (val B64 a) n=1:=by rw [rightC,if_pos];left;simpa using h
   rw [hc]
   exact ⟨Ahead.refl _,_,rfl,OwnNil.nil⟩
  ·have hc:rightC (val B64 a) n=1:=by rw [rightC,if_pos];right;simpa using h'
   rw [hc]
   exact ⟨Ahead.refl _,_,rfl,OwnNil.nil⟩
  ·have h0:0≤n:=by simpa using h
   have h1:n≤1099511627776:=by simpa using h'
   refine Calls.mono (Zx hp la oa) ?_
   rw [hA]
   rintro e w' ⟨rfl,s,rfl,hsn,hs⟩
   have e1:IntKind.i64.wrap (Int.tdiv n 64)=((n.toNat/64:Nat):Int):=by
    have:Int.tdiv n 64=((n.toNat/64:Nat):Int):=by rw [Int.tdiv_eq_ediv_of_nonneg h0];omega
    rw [this,zp (by omega) (by omega)]
   have e2:IntKind.u64.wrap (Int.tmod n 64)=((n.toNat % 64:Nat):Int):=by
    have:Int.tmod n 64=((n.toNat % 64:Nat):Int):=by rw [Int.tmod_eq_emod_of_nonneg h0];omega
    rw [this,yd (by omega) (by omega)]
   refine ⟨_,rfl, ?_⟩
   try dsimp only
   rw [e1,e2,hsn]
   refine zm (fun hz=> ?_) (fun hz=> ?_)
   ·have hz':A.length≤n.toNat/64:=by simp at hz;omega
    have hv:val B64 a/2^n.toNat=0:=by
     apply Nat.div_eq_of_lt
     rw [←hA0,←hp2]
     refine Nat.lt_of_lt_of_le (xa hoA) (Nat.le_trans (Nat.pow_le_pow_right (by omega) hz') ?_)
     exact Nat.le_mul_of_pos_right _ (Nat.pow_pos (by omega))
    have hc:rightC (val B64 a) n=0:=by rw [rightC,if_neg (by omega),hv,bigC,xm,if_pos (by omega)]
    rw [hc,hv]
    exact ⟨Ahead.refl _,_,rfl,by rw [if_pos rfl,yq];exact OwnNil.nil⟩
   ·have hz':n.toNat/64<A.length:=by simp at hz;omega
    rw [zp (x:=(A.length:Int) -_) (by omega) (by omega),show (A.length:Int) -((n.toNat/64:Nat):Int)=((A.length -n.toNat/64:Nat):Int) by omega]
    refine mkF (w0:=w') (S:=fun w'=>Rd .u64 w' s (nn A)) (by omega) (by omega) (Ahead.refl _) hs ?_
    intro c w3 hcn hf ha
    refine ⟨h0,h1,hz',_,0,rfl,rfl,by rw [hcn];simp,rfl,Nat.zero_le _,by first|exact hsn|rfl,hf,by simp,yr (by omega) _,fun i hi=>by omega⟩
 ·rintro t0 t6 t7 c t33 t34 w' ⟨h0,h1,hz,l,j,rfl,rfl,rfl,rfl,hj,htn,hf,hl,ol,hd⟩
  have hS:=hf.src (fun _ h hs=>Rd.ahead hs h)
  have hN:∀i,val B64 a/2^n.toNat/B64^i % B64=A.getD (n.toNat/64+i) 0/2^(n.toNat % 64)+2^(64 -n.toNat % 64)*(A.getD (n.toNat/64+i+1) 0 % 2^(n.toNat % 64)):=by
   intro i
   rw [digit (by omega:0<B64) A hoA (n.toNat/64+i),digit (by omega:0<B64) A hoA (n.toNat/64+i+1),hA0,←hp2]
   generalize val B64 a=V
   rw [h64,kf,j8 _ _ _ _ hw]
   congr 2
   generalize V/(2^64)^(n.toNat/64+i+1)=U
   rw [show 2^64=2^(n.toNat % 64)*2^(64 -n.toNat % 64) by rw [←Nat.pow_add];congr 1;omega,Nat.mod_mul_right_mod]
  refine zm (fun hlt=> ?_) (fun hge=> ?_)
  ·have hj':j<A.length -n.toNat/64:=by simp at hlt;omega
   have hx:=yi hoA (by omega:0<B64) (n.toNat/64+j)
   have e8:IntKind.i64.wrap ((j:Int)+1)=((j+1:Nat):Int):=by rw [zp (by omega) (by omega)];omega
   rw [zp (x:=((n.toNat/64:Nat):Int)+_) (by omega) (by omega),show ((n.toNat/64:Nat):Int)+(j:Int)=((n.toNat/64+j:Nat):Int) by omega,
    zp (x:=((n.toNat/64+j:Nat):Int)+1) (by omega) (by omega),show ((n.toNat/64+j:Nat):Int)+1=((n.toNat/64+j+1:Nat):Int) by omega]
   refine ldN hS (by omega) (by omega) ?_
   refine semShr (by omega) ?_
   simp only [Int.toNat_natCast]
   have hq:A.getD (n.toNat/64+j) 0/2^(n.toNat % 64)<B64:=Nat.lt_of_le_of_lt (Nat.div_le_self _ _) hx
   refine stF hf (by omega) (by omega) ?_
   intro w6 hf6
   simp only [Int.toNat_natCast] at hf6
   refine zm (fun hin=> ?_) (fun hin=> ?_)
   ·have hin':n.toNat/64+j+1<A.length:=by simp at hin;omega
    have hS6:=hf6.src (fun _ h hs=>Rd.ahead hs h)
    refine ldNf hf6.rd (by omega) (by simp;omega) ?_
    refine ldNf hS6 (by omega) (by omega) ?_
    simp only [Int.toNat_natCast]
    have hy:=yi hoA (by omega:0<B64) (n.toNat/64+j+1)
    have e3:IntKind.u64.wrap ((A.getD (n.toNat/64+j+1) 0:Int)*2^(1:Nat))=((A.getD (n.toNat/64+j+1) 0*2 % B64:Nat):Int):=by rw [xt,B64v,show (2:Int)^(1:Nat)=2 from rfl];omega
    have e4:IntKind.u64.wrap (63 -((n.toNat % 64:Nat):Int))=((63 -n.toNat % 64:Nat):Int):=by rw [yd (by omega) (by omega)];omega
    rw [e3,e4]
    refine fixShl (by omega) ?_
    rw [xd _ _ _ _ (by omega),if_pos rfl,uj hq (Nat.mod_lt _ (by omega))]
    have e5:A.getD (n.toNat/64+j+1) 0*2 % B64*2^(63 -n.toNat % 64) % B64=2^(64 -n.toNat % 64)*(A.getD (n.toNat/64+j+1) 0 % 2^(n.toNat % 64)):=by
     rw [Nat.mod_mul_mod,Nat.mul_assoc,show 2*2^(63 -n.toNat % 64)=2^(64 -n.toNat % 64) by rw [show 64 -n.toNat % 64=63 -n.toNat % 64+1 by omega,Nat.pow_succ];omega,h64,kv _ _ _ (by omega)]
     congr 3;omega
    have hql:A.getD (n.toNat/64+j) 0/2^(n.toNat % 64)<2^(64 -n.toNat % 64):=by
     rw [Nat.div_lt_iff_lt_mul (Nat.pow_pos (by omega)),←Nat.pow_add,show 64 -n.toNat % 64+n.toNat % 64=64 by omega]
     exact hx
    rw [e5,kr hql]
    refine stFf hf6 (Ahead.drew _) (by omega) (by simp;omega) ?_
    intro w7 hf7
    simp only [Int.toNat_natCast,List.set_set] at hf7
    refine ⟨⟨h0,h1,hz,_,j+1,by trivial,by trivial,by trivial,e8,by omega,htn,hf7,by simpa using hl,xb ol ?_,fun i hi=> ?_⟩,by rw [e8];omega⟩
    ·rw [←hN];exact Nat.mod_lt _ (by omega)
    ·rw [xd _ _ _ _ (by omega)]
     split
     ·rename_i h;subst h;exact (hN _).symm
     ·exact hd i (by omega)
   ·have hin':A.length≤n.toNat/64+j+1:=by simp at hin;omega
    refine ⟨⟨h0,h1,hz,_,j+1,by trivial,by trivial,by trivial,e8,by omega,htn,hf6,by simpa using hl,xb ol hq,fun i hi=> ?_⟩,by rw [e8];omega⟩
    rw [xd _ _ _ _ (by omega)]
    split
    ·rename_i h;subst h
     rw [hN,ui A 0 hin',Nat.zero_mod,Nat.mul_zero,Nat.add_zero]
    ·exact hd i (by omega)
  ·have hj':j=A.length -n.toNat/64:=by simp at hge;omega
   subst hj'
   have hv:val B64 l=val B64 a/2^n.toNat:=by
    refine tq (by omega) l _ ?_ (fun i hi=>hd i (by omega))
    rw [Nat.div_lt_iff_lt_mul (Nat.pow_pos (by omega)),←hp2,←Nat.mul_assoc,hl,←Nat.pow_add,show A.length -n.toNat/64+n.toNat/64=A.length by omega,←hA0]
    exact Nat.lt_of_lt_of_le (xa hoA) (Nat.le_mul_of_pos_right _ (Nat.pow_pos (by omega)))
   refine Calls.mono (hf.told (by omega) ol) ?_
   intro e w3 h
   have h':=h.ret
   rw [hv] at h'
   have hc:rightC (val B64 a) n=bigC (val B64 a/2^n.toNat):=by rw [rightC,if_neg (by omega)]
   rw [hc]
   obtain ⟨h1,s,rfl,h2⟩:=h'
   exact ⟨_,_,rfl,h1,_,rfl,h2⟩
end Nat
end
section
open Go Go.RowKit Eng Sp Dg
namespace Nat
def Num (w:World) (s:Slc) (N:Nat):Prop:=∃l,Rd .u64 w s (nn l)∧l.length≤2^44∧ok B64 l∧val B64 l=N
theorem Num.ahead {w w' s} {N:Nat} (h:Num w s N) (ha:Ahead w w'):Num w' s N:=by
 obtain ⟨l,h1,h2⟩:=h;exact ⟨l,h1.ahead ha,h2⟩
theorem zw {N m:Nat} (h:bl N≤64*m):(digs B64 N).length≤m:=by
 refine vk two64 ?_
 rw [gg]
 exact qc.1 h
theorem xc {N:Nat} (h:bl N≤67108864):bigC N=0:=by rw [bigC,if_pos h]
theorem xf {b:Nat} {w s} {N:Nat} (h:OwnNil b w s (digs B64 N)) (hb:bl N≤67108864):Num w s N:=
 ⟨_,h.rd,Nat.le_trans (zw (m:=2^20) (by omega)) (by omega),yb two64 _,zu two64 _⟩
theorem Ret.num {w w'} {code:Int} {N:Nat} {e:Ending} (h:Ret w code N e w') (hc:code=0) (hb:bl N≤67108864):Ahead w w'∧∃s,e= .returned (.tuple #[Slc.v s, .int .i64 0])∧OwnNil w.heap.size w' s (digs B64 N)∧Num w' s N:=by
 subst hc
 obtain ⟨ha,s,rfl,ho⟩:=h
 rw [if_pos rfl] at ho
 exact ⟨ha,s,rfl,ho,xf ho hb⟩
theorem xj {w s} {l:List Nat} (r:Rd .u64 w s (nn l)) (o:ok B64 l) (n:l.length*8≤140737488351232):Num w s (val B64 l):=⟨l,r,by omega,o,rfl⟩
theorem Num.bl {w s} {N:Nat} (h:Num w s N):bl N≤2^50:=by
 obtain ⟨l,_,h1,h2,rfl⟩:=h
 have:=kj h2
 omega
theorem pq {w p q} {x y:Nat} (hp:Num w p x) (hq:Num w q y):Calls pr nat_Add_id #[p.v,q.v] w (Ret w (bigC (x+y)) (x+y)):=by
 obtain ⟨a,ra,la,oa,rfl⟩:=hp
 obtain ⟨b,rb,lb,ob,rfl⟩:=hq
 exact Calls.mono (n9 ra rb la lb oa ob) fun _ _ h=>h.ret
def subC (x y:Nat):Int:=if x<y then 10 else bigC (x -y)
theorem ka {w p q} {x y:Nat} (hp:Num w p x) (hq:Num w q y):Calls pr nat_Sub_id #[p.v,q.v] w (Ret w (subC x y) (x -y)):=by
 obtain ⟨a,ra,la,oa,rfl⟩:=hp
 obtain ⟨b,rb,lb,ob,rfl⟩:=hq
 refine Calls.mono (me ra rb la lb oa ob) ?_
 rintro e w' (⟨h1,h2,rfl⟩|⟨h1,h2⟩)
 ·rw [subC,if_pos h1]
  exact ⟨h2,_,rfl,OwnNil.nil⟩
 ·rw [subC,if_neg (by omega)]
  exact h2.ret
theorem uf {w p q} {x y:Nat} (hp:Num w p x) (hq:Num w q y):Calls pr nat_Compare_id #[p.v,q.v] w fun e w'=>Ahead w w'∧e= .returned (.int .i64 (cmpI x y)):=by
 obtain ⟨a,ra,la,oa,rfl⟩:=hp
 obtain ⟨b,rb,lb,ob,rfl⟩:=hq
 exact ti ra rb (by omega) (by omega) oa ob
theorem xe {w p} {x:Nat} (hp:Num w p x):Calls pr nat_Length_id #[p.v] w fun e w'=>w'=w∧e= .returned (.int .i64 (bl x)):=by
 obtain ⟨a,ra,la,oa,rfl⟩:=hp
 exact us ra (by omega) oa
theorem jp {w p} {x:Nat} (hp:Num w p x) {n:Int} (h0: -9223372036854775808≤n) (h1:n≤9223372036854775807):Calls pr nat_Left_id #[p.v, .int .i64 n] w (Ret w (leftC x n) (x*2^n.toNat)):=by
 obtain ⟨a,ra,la,oa,rfl⟩:=hp
 exact zbf ra la oa h0 h1
theorem Ph {w p} {x:Nat} (hp:Num w p x) {n:Int}:Calls pr nat_Right_id #[p.v, .int .i64 n] w (Ret w (rightC x n) (x/2^n.toNat)):=by
 obtain ⟨a,ra,la,oa,rfl⟩:=hp
 exact zab ra la oa
end Nat
end
end Go.Proofs.YtbeiopoejdkheaaGreatDoor
