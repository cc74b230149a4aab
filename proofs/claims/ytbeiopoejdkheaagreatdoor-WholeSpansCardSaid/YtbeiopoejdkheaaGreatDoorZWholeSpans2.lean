/- What the law leans on, part 2. No condition. -/
import Derived.Test.YtbeiopoejdkheaaGreatDoorZWholeSpans1
set_option linter.unusedVariables false
set_option linter.unusedSimpArgs false
set_option maxRecDepth 100000
set_option maxHeartbeats 4000000
namespace Go.Proofs.YtbeiopoejdkheaaGreatDoor
section
open Go Go.RowKit Eng
open _root_.Go.IntKind (wrap)
theorem zap (aa:Slc) (ab:Slc) (w:World) (R:Ending→World→Prop) (h:Calls pr 110 #[aa.v,ab.v,.func (Fn.func 111) #[] #[]] w fun e1 w1=>∃s1:Slc,∃x1:Int,e1= .returned (.tuple #[s1.v,vi x1])∧(R (.returned (.tuple #[s1.v,vi x1])) w1)):Calls pr 79 #[aa.v,ab.v] w R:=by
 refine zk (fun _=>none) (by kernel_rfl) Tryz.func79 rfl ?_ ?_
 ·refine kcast h ?_;kernel_rfl
 ·exact (za rfl (ze (za rfl (ze (zg trivial)))))
theorem jd (aa:Slc) (ab:Slc) (w:World) (R:Ending→World→Prop) (h:kS 85 #[aa.v] w fun w1 s1=>(kS 85 #[ab.v] w1 fun w2 s2=>(kB 139 #[s1.v,s2.v] w2 fun w3 b1=>(br b1 (R (.returned (.tuple #[nSl.v,vi 3])) w3) (kS 111 #[s1.v,s2.v] w3 fun w4 s3=>(Calls pr 140 #[s3.v] w4 fun e5 w5=>∃s4:Slc,∃x1:Int,e5= .returned (.tuple #[s4.v,vi x1])∧(R (.returned (.tuple #[s4.v,vi x1])) w5))))))):Calls pr 110 #[aa.v,ab.v,.func (Fn.func 111) #[] #[]] w R:=by
 refine zk (fun _=>none) (by kernel_rfl) Tryz.func110 rfl ?_ ?_
 ·refine kcast h ?_;kernel_rfl
 ·exact (za rfl (ze (za rfl (ze (za rfl (za rfl (ze (zh (za rfl (ze (zg (zi (za rfl (ze (zg trivial)))))))))))))))
theorem Hv (aa:Slc) (ab:Slc) (w:World) (R:Ending→World→Prop) (h:kS 112 #[aa.v,ab.v,vi 40] w fun w1 s1=>(R (.returned s1.v) w1)):Calls pr 111 #[aa.v,ab.v] w R:=by
 refine zk (fun _=>none) (by kernel_rfl) Tryz.func111 rfl ?_ ?_
 ·refine kcast h ?_;kernel_rfl
 ·exact (za rfl (ze (za rfl (ze (zg trivial)))))
theorem Mc (a0:Slc) (a1:Slc) (a2:Int) (w:World) (R:Ending→World→Prop) (h:br (decide ((a0.n:Int)<(a1.n:Int))) (br (decide ((a0.n:Int)<a2)) (kS 141 #[a1.v,a0.v] w fun w1 s1=>(R (.returned s1.v) w1)) (br (decide ((a0.n:Int)≤(wrap .i64 (Int.tdiv (wrap .i64 ((a1.n:Int)+1)) 2)))) (semS pr (Instr.makeSlice 23 (vi (wrap .i64 ((wrap .i64 ((a1.n:Int)+(a0.n:Int)))+1))) (vi (wrap .i64 ((wrap .i64 ((a1.n:Int)+(a0.n:Int)))+1)))) w fun s2 w2=>kS 143 #[a1.v,vi 0,vi (wrap .i64 (Int.tdiv (wrap .i64 ((a1.n:Int)+1)) 2))] w2 fun w3 s3=>(kS 112 #[s3.v,a0.v,vi a2] w3 fun w4 s4=>(Calls pr 142 #[s2.v,s4.v,vi 0] w4 fun e4 w5=>e4= .returned (.tuple #[])∧(kS 143 #[a1.v,vi (wrap .i64 (Int.tdiv (wrap .i64 ((a1.n:Int)+1)) 2)),vi (a1.n:Int)] w5 fun w6 s5=>(kS 112 #[s5.v,a0.v,vi a2] w6 fun w7 s6=>(Calls pr 142 #[s2.v,s6.v,vi (wrap .i64 (Int.tdiv (wrap .i64 ((a1.n:Int)+1)) 2))] w7 fun e7 w8=>e7= .returned (.tuple #[])∧(R (.returned s2.v) w8))))))) (kS 143 #[a1.v,vi 0,vi (wrap .i64 (Int.tdiv (wrap .i64 ((a1.n:Int)+1)) 2))] w fun w9 s7=>(kS 143 #[a1.v,vi (wrap .i64 (Int.tdiv (wrap .i64 ((a1.n:Int)+1)) 2)),vi (a1.n:Int)] w9 fun w10 s8=>(kS 143 #[a0.v,vi 0,vi (wrap .i64 (Int.tdiv (wrap .i64 ((a1.n:Int)+1)) 2))] w10 fun w11 s9=>(kS 143 #[a0.v,vi (wrap .i64 (Int.tdiv (wrap .i64 ((a1.n:Int)+1)) 2)),vi (a0.n:Int)] w11 fun w12 s10=>(kS 112 #[s7.v,s9.v,vi a2] w12 fun w13 s11=>(kS 112 #[s8.v,s10.v,vi a2] w13 fun w14 s12=>(kS 145 #[s7.v,s8.v] w14 fun w15 s13=>(kS 85 #[s13.v] w15 fun w16 s14=>(kS 145 #[s9.v,s10.v] w16 fun w17 s15=>(kS 85 #[s15.v] w17 fun w18 s16=>(kS 112 #[s14.v,s16.v,vi a2] w18 fun w19 s17=>(kS 144 #[s17.v,s11.v] w19 fun w20 s18=>(kS 144 #[s18.v,s12.v] w20 fun w21 s19=>(semS pr (Instr.makeSlice 23 (vi (wrap .i64 ((wrap .i64 ((a1.n:Int)+(a0.n:Int)))+1))) (vi (wrap .i64 ((wrap .i64 ((a1.n:Int)+(a0.n:Int)))+1)))) w21 fun s20 w22=>Calls pr 142 #[s20.v,s11.v,vi 0] w22 fun e21 w23=>e21= .returned (.tuple #[])∧(Calls pr 142 #[s20.v,s19.v,vi (wrap .i64 (Int.tdiv (wrap .i64 ((a1.n:Int)+1)) 2))] w23 fun e22 w24=>e22= .returned (.tuple #[])∧(Calls pr 142 #[s20.v,s12.v,vi (wrap .i64 (2*(wrap .i64 (Int.tdiv (wrap .i64 ((a1.n:Int)+1)) 2))))] w24 fun e23 w25=>e23= .returned (.tuple #[])∧(R (.returned s20.v) w25))))))))))))))))))) (br (decide ((a1.n:Int)<a2)) (kS 141 #[a0.v,a1.v] w fun w26 s21=>(R (.returned s21.v) w26)) (br (decide ((a1.n:Int)≤(wrap .i64 (Int.tdiv (wrap .i64 ((a0.n:Int)+1)) 2)))) (semS pr (Instr.makeSlice 23 (vi (wrap .i64 ((wrap .i64 ((a0.n:Int)+(a1.n:Int)))+1))) (vi (wrap .i64 ((wrap .i64 ((a0.n:Int)+(a1.n:Int)))+1)))) w fun s22 w27=>kS 143 #[a0.v,vi 0,vi (wrap .i64 (Int.tdiv (wrap .i64 ((a0.n:Int)+1)) 2))] w27 fun w28 s23=>(kS 112 #[s23.v,a1.v,vi a2] w28 fun w29 s24=>(Calls pr 142 #[s22.v,s24.v,vi 0] w29 fun e27 w30=>e27= .returned (.tuple #[])∧(kS 143 #[a0.v,vi (wrap .i64 (Int.tdiv (wrap .i64 ((a0.n:Int)+1)) 2)),vi (a0.n:Int)] w30 fun w31 s25=>(kS 112 #[s25.v,a1.v,vi a2] w31 fun w32 s26=>(Calls pr 142 #[s22.v,s26.v,vi (wrap .i64 (Int.tdiv (wrap .i64 ((a0.n:Int)+1)) 2))] w32 fun e30 w33=>e30= .returned (.tuple #[])∧(R (.returned s22.v) w33))))))) (kS 143 #[a0.v,vi 0,vi (wrap .i64 (Int.tdiv (wrap .i64 ((a0.n:Int)+1)) 2))] w fun w34 s27=>(kS 143 #[a0.v,vi (wrap .i64 (Int.tdiv (wrap .i64 ((a0.n:Int)+1)) 2)),vi (a0.n:Int)] w34 fun w35 s28=>(kS 143 #[a1.v,vi 0,vi (wrap .i64 (Int.tdiv (wrap .i64 ((a0.n:Int)+1)) 2))] w35 fun w36 s29=>(kS 143 #[a1.v,vi (wrap .i64 (Int.tdiv (wrap .i64 ((a0.n:Int)+1)) 2)),vi (a1.n:Int)] w36 fun w37 s30=>(kS 112 #[s27.v,s29.v,vi a2] w37 fun w38 s31=>(kS 112 #[s28.v,s30.v,vi a2] w38 fun w39 s32=>(kS 145 #[s27.v,s28.v] w39 fun w40 s33=>(kS 85 #[s33.v] w40 fun w41 s34=>(kS 145 #[s29.v,s30.v] w41 fun w42 s35=>(kS 85 #[s35.v] w42 fun w43 s36=>(kS 112 #[s34.v,s36.v,vi a2] w43 fun w44 s37=>(kS 144 #[s37.v,s31.v] w44 fun w45 s38=>(kS 144 #[s38.v,s32.v] w45 fun w46 s39=>(semS pr (Instr.makeSlice 23 (vi (wrap .i64 ((wrap .i64 ((a0.n:Int)+(a1.n:Int)))+1))) (vi (wrap .i64 ((wrap .i64 ((a0.n:Int)+(a1.n:Int)))+1)))) w46 fun s40 w47=>Calls pr 142 #[s40.v,s31.v,vi 0] w47 fun e44 w48=>e44= .returned (.tuple #[])∧(Calls pr 142 #[s40.v,s39.v,vi (wrap .i64 (Int.tdiv (wrap .i64 ((a0.n:Int)+1)) 2))] w48 fun e45 w49=>e45= .returned (.tuple #[])∧(Calls pr 142 #[s40.v,s32.v,vi (wrap .i64 (2*(wrap .i64 (Int.tdiv (wrap .i64 ((a0.n:Int)+1)) 2))))] w49 fun e46 w50=>e46= .returned (.tuple #[])∧(R (.returned s40.v) w50)))))))))))))))))))):Calls pr 112 #[a0.v,a1.v,vi a2] w R:=by
 refine zk (fun _=>none) (by kernel_rfl) Tryz.func112 rfl ?_ ?_
 ·refine kcast h ?_;kernel_rfl
 ·exact (za rfl (ze (za rfl (za rfl (ze (zh (ze (zi (za rfl (za rfl (ze (zh (za rfl (ze (zg (zi (za rfl (ze (za rfl (za rfl (ze (zh (za rfl (ze (za rfl (ze (za rfl (ze (za rfl (ze (zg (zi (za rfl (ze (za rfl (ze (za rfl (ze (za rfl (ze (za rfl (ze (za rfl (ze (za rfl (ze (za rfl (ze (zg trivial)))))))))))))))))))))))))))))))))))))))))))))))))
theorem Hx (aa:Slc) (ab:Slc) (w:World) (R:Ending→World→Prop) (h:kI 46 #[aa.v] w fun w1 x1=>(kI 46 #[ab.v] w1 fun w2 x2=>(br (decide (x1>0)) (br (decide (x2>0)) (R (.returned (.bool (decide ((wrap .i64 ((wrap .i64 (x1+x2)) -1))>67108864)))) w2) (R (.returned (.bool false)) w2)) (R (.returned (.bool false)) w2)))):Calls pr 139 #[aa.v,ab.v] w R:=by
 refine zk (fun _=>none) (by kernel_rfl) Tryz.func139 rfl ?_ ?_
 ·refine kcast h ?_;kernel_rfl
 ·exact (za rfl (ze (za rfl (ze (za rfl (ze (zg trivial)))))))
theorem Fk (aa:Slc) (w:World) (R:Ending→World→Prop) (h:kS 85 #[aa.v] w fun w1 s1=>(kI 46 #[s1.v] w1 fun w2 x1=>(br (decide (x1>67108864)) (R (.returned (.tuple #[nSl.v,vi 3])) w2) (R (.returned (.tuple #[s1.v,vi 0])) w2)))):Calls pr 140 #[aa.v] w R:=by
 refine zk (fun _=>none) (by kernel_rfl) Tryz.func140 rfl ?_ ?_
 ·refine kcast h ?_;kernel_rfl
 ·exact (za rfl (ze (za rfl (ze (za rfl (za rfl (ze (zh (za rfl (ze (zg (zi (za rfl (ze (zg trivial)))))))))))))))
def T5 (J0:Slc→Slc→Slc→Int→Int→World→Prop) (m0:Slc→Slc→Slc→Int→Int→World→Nat) (J2:Slc→Slc→Slc→Int→Int→World→Slc→Slc→Int→Int→Int→Slc→Int→Int→Slc→Int→Int→World→Prop) (m2:Slc→Slc→Slc→Int→Int→World→Slc→Slc→Int→Int→Int→Slc→Int→Int→Slc→Int→Int→World→Nat):Nat→Option ((Act→World→Prop)×(Act→World→Nat))
 |0=>some (fun a_ w_=>atSz a_ 78 (atS a_ 1 fun t1=>atS a_ 5 fun t5=>atS a_ 20 fun t20=>atI .i64 a_ 21 fun t21=>atI .i64 a_ 22 fun t22=>J0 t1 t5 t20 t21 t22 w_),fun a_ w_=>mS a_ 1 fun t1=>mS a_ 5 fun t5=>mS a_ 20 fun t20=>mI a_ 21 fun t21=>mI a_ 22 fun t22=>m0 t1 t5 t20 t21 t22 w_)
 |_=>none
def Y4 (J0:Slc→Slc→Slc→Int→Int→World→Prop) (m0:Slc→Slc→Slc→Int→Int→World→Nat) (J2:Slc→Slc→Slc→Int→Int→World→Slc→Slc→Int→Int→Int→Slc→Int→Int→Slc→Int→Int→World→Prop) (m2:Slc→Slc→Slc→Int→Int→World→Slc→Slc→Int→Int→Int→Slc→Int→Int→Slc→Int→Int→World→Nat) (o_t1:Slc) (o_t5:Slc) (o_t20:Slc) (o_t21:Int) (o_t22:Int) (o_w_:World):Nat→Option ((Act→World→Prop)×(Act→World→Nat))
 |2=>some (fun a_ w_=>atSz a_ 78 (atS a_ 1 fun t1=>atS a_ 5 fun t5=>atI .i64 a_ 6 fun t6=>atI .u64 a_ 7 fun t7=>atI .u64 a_ 8 fun t8=>atS a_ 20 fun t20=>atI .i64 a_ 21 fun t21=>atI .i64 a_ 22 fun t22=>atS a_ 27 fun t27=>atI .i64 a_ 28 fun t28=>atI .i64 a_ 29 fun t29=>J2 o_t1 o_t5 o_t20 o_t21 o_t22 o_w_ t1 t5 t6 t7 t8 t20 t21 t22 t27 t28 t29 w_),fun a_ w_=>mS a_ 1 fun t1=>mS a_ 5 fun t5=>mI a_ 6 fun t6=>mI a_ 7 fun t7=>mI a_ 8 fun t8=>mS a_ 20 fun t20=>mI a_ 21 fun t21=>mI a_ 22 fun t22=>mS a_ 27 fun t27=>mI a_ 28 fun t28=>mI a_ 29 fun t29=>m2 o_t1 o_t5 o_t20 o_t21 o_t22 o_w_ t1 t5 t6 t7 t8 t20 t21 t22 t27 t28 t29 w_)
 |_=>none
theorem Md (a0:Slc) (a1:Slc) (w:World) (R:Ending→World→Prop) (J0:Slc→Slc→Slc→Int→Int→World→Prop) (m0:Slc→Slc→Slc→Int→Int→World→Nat) (J2:Slc→Slc→Slc→Int→Int→World→Slc→Slc→Int→Int→Int→Slc→Int→Int→Slc→Int→Int→World→Prop) (m2:Slc→Slc→Slc→Int→Int→World→Slc→Slc→Int→Int→Int→Slc→Int→Int→Slc→Int→Int→World→Nat) (h:semS pr (Instr.makeSlice 23 (vi (wrap .i64 ((a0.n:Int)+(a1.n:Int)))) (vi (wrap .i64 ((a0.n:Int)+(a1.n:Int))))) w fun s1 w1=>J0 a1 s1 a0 (a0.n:Int) 0 w1) (h0:∀t1 t5 t20 t21 t22 w_,J0 t1 t5 t20 t21 t22 w_→br (decide (t22<t21)) (semA pr (Instr.indexAt 23 t20.v (vi t22)) w_ fun ad1 w2=>ldI .u64 ad1 w2 fun x1=>J2 t1 t5 t20 t21 t22 w_ t1 t5 t22 x1 0 t20 t21 t22 t1 (t1.n:Int) 0 w2) (R (.returned t5.v) w_)) (h2:∀t1 t5 t20 t21 t22 w_,J0 t1 t5 t20 t21 t22 w_→∀ai af aj ak al ac ad ae ag ah ab w__,J2 t1 t5 t20 t21 t22 w_ ai af aj ak al ac ad ae ag ah ab w__→br (decide (ab<ah)) (semA pr (Instr.indexAt 23 ag.v (vi ab)) w__ fun ad2 w3=>ldI .u64 ad2 w3 fun x2=>Calls pr 167 #[.int .u64 ak,.int .u64 x2] w3 fun e1 w4=>∃x3:Int,∃x4:Int,e1= .returned (.tuple #[.int .u64 x3,.int .u64 x4])∧(Sem.wp pr (callFunc 121 #[.int .u64 x4,.int .u64 al,.int .u64 0]) (fun n1 w5=>∃x5:Int,∃x6:Int,n1= .value (.tuple #[.int .u64 x5,.int .u64 x6])∧(semA pr (Instr.indexAt 23 af.v (vi (wrap .i64 (aj+ab)))) w5 fun ad3 w6=>ldI .u64 ad3 w6 fun x7=>Sem.wp pr (callFunc 121 #[.int .u64 x7,.int .u64 x5,.int .u64 0]) (fun n2 w7=>∃x8:Int,∃x9:Int,n2= .value (.tuple #[.int .u64 x8,.int .u64 x9])∧(semA pr (Instr.indexAt 23 af.v (vi (wrap .i64 (aj+ab)))) w7 fun ad4 w8=>stC ad4 (.int .u64 x8) w8 fun w9=>J2 t1 t5 t20 t21 t22 w_ ai af aj ak (wrap .u64 ((wrap .u64 (x3+x6))+x9)) ac ad ae ag ah (wrap .i64 (ab+1)) w9∧m2 t1 t5 t20 t21 t22 w_ ai af aj ak (wrap .u64 ((wrap .u64 (x3+x6))+x9)) ac ad ae ag ah (wrap .i64 (ab+1)) w9<m2 t1 t5 t20 t21 t22 w_ ai af aj ak al ac ad ae ag ah ab w__)) (fun _ _=>False) w6)) (fun _ _=>False) w4)) (semA pr (Instr.indexAt 23 af.v (vi (wrap .i64 (aj+(ai.n:Int))))) w__ fun ad5 w10=>stC ad5 (.int .u64 al) w10 fun w11=>J0 ai af ac ad (wrap .i64 (ae+1)) w11∧m0 ai af ac ad (wrap .i64 (ae+1)) w11<m0 t1 t5 t20 t21 t22 w_)):Calls pr 141 #[a0.v,a1.v] w R:=by
 refine zk (T5 J0 m0 J2 m2) (by kernel_rfl) Tryz.func141 rfl ?_ ?_
 ·refine kcast h ?_;kernel_rfl
 ·exact (za rfl (ze (za rfl (ze (za rfl (za rfl (ze (yg _ rfl (fun a_ w_ aa=>(by
  obtain ⟨ap,aq,aa⟩:=ya aa
  obtain ⟨t1,ar,aa⟩:=zr aa
  obtain ⟨t5,au,aa⟩:=zr aa
  obtain ⟨t20,am,aa⟩:=zr aa
  obtain ⟨t21,an,aa⟩:=zq aa
  obtain ⟨t22,ao,aa⟩:=zq aa
  obtain ⟨g0,rfl⟩:∃g,a_=Fr 78 [(1,t1.v),(5,t5.v),(20,t20.v),(21,vi t21),(22,vi t22)] g:=⟨_,yp ap aq _ (zf ar (zf au (zf am (zf an (zf ao yc)))))⟩
  clear ap aq ar au am an ao
  have av:=aa
  refine ⟨(Y4 J0 m0 J2 m2 t1 t5 t20 t21 t22 w_),kcast (h0 t1 t5 t20 t21 t22 w_ av) ?_, ?_⟩
  ·kernel_rfl
  ·exact (za rfl (ze (za rfl (zh (zi (ye (za rfl (yh rfl (za rfl (ze (za rfl (ze (za rfl (za rfl (ze (yg _ rfl (fun a_ w__ aa=>(by
   obtain ⟨ap,aq,aa⟩:=ya aa
   obtain ⟨ai,ar,aa⟩:=zr aa
   obtain ⟨af,au,aa⟩:=zr aa
   obtain ⟨aj,az,aa⟩:=zq aa
   obtain ⟨ak,aA,aa⟩:=zq aa
   obtain ⟨al,aB,aa⟩:=zq aa
   obtain ⟨ac,am,aa⟩:=zr aa
   obtain ⟨ad,an,aa⟩:=zq aa
   obtain ⟨ae,ao,aa⟩:=zq aa
   obtain ⟨ag,aw,aa⟩:=zr aa
   obtain ⟨ah,ax,aa⟩:=zq aa
   obtain ⟨ab,ay,aa⟩:=zq aa
   obtain ⟨g2,rfl⟩:∃g,a_=Fr 78 [(1,ai.v),(5,af.v),(6,vi aj),(7,Value.int .u64 ak),(8,Value.int .u64 al),(20,ac.v),(21,vi ad),(22,vi ae),(27,ag.v),(28,vi ah),(29,vi ab)] g:=⟨_,yp ap aq _ (zf ar (zf au (zf az (zf aA (zf aB (zf am (zf an (zf ao (zf aw (zf ax (zf ay yc)))))))))))⟩
   clear ap aq ar au az aA aB am an ao aw ax ay
   have aC:=aa
   refine ⟨(fun _=>none),kcast (h2 t1 t5 t20 t21 t22 w_ av ai af aj ak al ac ad ae ag ah ab w__ aC) ?_, ?_⟩
   ·kernel_rfl
   ·exact (za rfl (ze (za rfl (zh (zi (ye (za rfl (yh rfl (za rfl (ze (za rfl (ze (za rfl (ze (za rfl (ze (za rfl (ze (za rfl (ze (ze (ze trivial)))))))))))))))))))))))) (ze (ze trivial)))))))))))))))))))) (za rfl (ze (zg trivial)))))))))))
def Mb (J0:Slc→Slc→Int→Int→Int→World→Prop) (m0:Slc→Slc→Int→Int→Int→World→Nat):Nat→Option ((Act→World→Prop)×(Act→World→Nat))
 |0=>some (fun a_ w_=>atSz a_ 53 (atS a_ 0 fun t0_a=>atS a_ 1 fun t1_b=>atI .i64 a_ 2 fun t2_at=>atI .u64 a_ 6 fun t6_carry=>atI .i64 a_ 7 fun t7_i=>J0 t0_a t1_b t2_at t6_carry t7_i w_),fun a_ w_=>mS a_ 0 fun t0_a=>mS a_ 1 fun t1_b=>mI a_ 2 fun t2_at=>mI a_ 6 fun t6_carry=>mI a_ 7 fun t7_i=>m0 t0_a t1_b t2_at t6_carry t7_i w_)
 |_=>none
theorem Hw (ah:Slc) (ai:Slc) (ag:Int) (w:World) (R:Ending→World→Prop) (J0:Slc→Slc→Int→Int→Int→World→Prop) (m0:Slc→Slc→Int→Int→Int→World→Nat) (h:J0 ah ai ag 0 ag w) (h0:∀ad ae ac ab aa w_,J0 ad ae ac ab aa w_→br (decide (aa<(ad.n:Int))) (br (decide ((wrap .i64 (aa -ac))<(ae.n:Int))) (br (decide ((wrap .i64 (aa -ac))<(ae.n:Int))) (semA pr (Instr.indexAt 23 ae.v (vi (wrap .i64 (aa -ac)))) w_ fun ad1 w1=>ldI .u64 ad1 w1 fun x1=>semA pr (Instr.indexAt 23 ad.v (vi aa)) w1 fun ad2 w2=>ldI .u64 ad2 w2 fun x2=>Sem.wp pr (callFunc 121 #[.int .u64 x2,.int .u64 x1,.int .u64 ab]) (fun n1 w3=>∃x3:Int,∃x4:Int,n1= .value (.tuple #[.int .u64 x3,.int .u64 x4])∧(semA pr (Instr.indexAt 23 ad.v (vi aa)) w3 fun ad3 w4=>stC ad3 (.int .u64 x3) w4 fun w5=>J0 ad ae ac x4 (wrap .i64 (aa+1)) w5∧m0 ad ae ac x4 (wrap .i64 (aa+1)) w5<m0 ad ae ac ab aa w_)) (fun _ _=>False) w2) (semA pr (Instr.indexAt 23 ad.v (vi aa)) w_ fun ad4 w6=>ldI .u64 ad4 w6 fun x5=>Sem.wp pr (callFunc 121 #[.int .u64 x5,.int .u64 0,.int .u64 ab]) (fun n2 w7=>∃x6:Int,∃x7:Int,n2= .value (.tuple #[.int .u64 x6,.int .u64 x7])∧(semA pr (Instr.indexAt 23 ad.v (vi aa)) w7 fun ad5 w8=>stC ad5 (.int .u64 x6) w8 fun w9=>J0 ad ae ac x7 (wrap .i64 (aa+1)) w9∧m0 ad ae ac x7 (wrap .i64 (aa+1)) w9<m0 ad ae ac ab aa w_)) (fun _ _=>False) w6)) (br (decide (ab>0)) (br (decide ((wrap .i64 (aa -ac))<(ae.n:Int))) (semA pr (Instr.indexAt 23 ae.v (vi (wrap .i64 (aa -ac)))) w_ fun ad6 w10=>ldI .u64 ad6 w10 fun x8=>semA pr (Instr.indexAt 23 ad.v (vi aa)) w10 fun ad7 w11=>ldI .u64 ad7 w11 fun x9=>Sem.wp pr (callFunc 121 #[.int .u64 x9,.int .u64 x8,.int .u64 ab]) (fun n3 w12=>∃x10:Int,∃x11:Int,n3= .value (.tuple #[.int .u64 x10,.int .u64 x11])∧(semA pr (Instr.indexAt 23 ad.v (vi aa)) w12 fun ad8 w13=>stC ad8 (.int .u64 x10) w13 fun w14=>J0 ad ae ac x11 (wrap .i64 (aa+1)) w14∧m0 ad ae ac x11 (wrap .i64 (aa+1)) w14<m0 ad ae ac ab aa w_)) (fun _ _=>False) w11) (semA pr (Instr.indexAt 23 ad.v (vi aa)) w_ fun ad9 w15=>ldI .u64 ad9 w15 fun x12=>Sem.wp pr (callFunc 121 #[.int .u64 x12,.int .u64 0,.int .u64 ab]) (fun n4 w16=>∃x13:Int,∃x14:Int,n4= .value (.tuple #[.int .u64 x13,.int .u64 x14])∧(semA pr (Instr.indexAt 23 ad.v (vi aa)) w16 fun ad10 w17=>stC ad10 (.int .u64 x13) w17 fun w18=>J0 ad ae ac x14 (wrap .i64 (aa+1)) w18∧m0 ad ae ac x14 (wrap .i64 (aa+1)) w18<m0 ad ae ac ab aa w_)) (fun _ _=>False) w15)) (R (.returned (.tuple #[])) w_))) (R (.returned (.tuple #[])) w_)):Calls pr 142 #[ah.v,ai.v,vi ag] w R:=by
 refine zk (Mb J0 m0) (by kernel_rfl) Tryz.func142 rfl ?_ ?_
 ·refine kcast h ?_;kernel_rfl
 ·exact (za rfl (ze (za rfl (ze (yg _ rfl (fun a_ w_ af=>(by
  obtain ⟨aj,ak,af⟩:=ya af
  obtain ⟨ad,al,af⟩:=zr af
  obtain ⟨ae,am,af⟩:=zr af
  obtain ⟨ac,an,af⟩:=zq af
  obtain ⟨ab,ao,af⟩:=zq af
  obtain ⟨aa,ap,af⟩:=zq af
  obtain ⟨g0,rfl⟩:∃g,a_=Fr 53 [(0,ad.v),(1,ae.v),(2,vi ac),(6,Value.int .u64 ab),(7,vi aa)] g:=⟨_,yp aj ak _ (zf al (zf am (zf an (zf ao (zf ap yc)))))⟩
  clear aj ak al am an ao ap
  have aq:=af
  refine ⟨(fun _=>none),kcast (h0 ad ae ac ab aa w_ aq) ?_, ?_⟩
  ·kernel_rfl
  ·exact (za rfl (za rfl (ze (zh (zi (ye (za rfl (yh rfl (za rfl (ze (za rfl (za rfl (ze (zh (ze (zi (ze (ze trivial)))))))))))))))))))) trivial)))))
def Hz (J0:Slc→Int→Int→World→Prop) (m0:Slc→Int→Int→World→Nat):Nat→Option ((Act→World→Prop)×(Act→World→Nat))
 |0=>some (fun a_ w_=>atSz a_ 32 (atS a_ 0 fun t0_a=>atI .i64 a_ 1 fun t1_from=>atI .i64 a_ 2 fun t2_to=>J0 t0_a t1_from t2_to w_),fun a_ w_=>mS a_ 0 fun t0_a=>mI a_ 1 fun t1_from=>mI a_ 2 fun t2_to=>m0 t0_a t1_from t2_to w_)
 |_=>none
theorem Fp (af:Slc) (ae:Int) (ag:Int) (w:World) (R:Ending→World→Prop) (J0:Slc→Int→Int→World→Prop) (m0:Slc→Int→Int→World→Nat) (h:J0 af (minI ae (af.n:Int)) (minI ag (af.n:Int)) w) (h0:∀ac aa ab w_,J0 ac aa ab w_→br (decide (ab>aa)) (semA pr (Instr.indexAt 23 ac.v (vi (wrap .i64 (ab -1)))) w_ fun ad1 w1=>ldI .u64 ad1 w1 fun x1=>br (x1==0) (J0 ac aa (wrap .i64 (ab -1)) w1∧m0 ac aa (wrap .i64 (ab -1)) w1<m0 ac aa ab w_) (semS pr (Instr.sliceAt 23 ac.v (some (vi aa)) (some (vi ab)) none) w1 fun s1 w2=>R (.returned s1.v) w2)) (semS pr (Instr.sliceAt 23 ac.v (some (vi aa)) (some (vi ab)) none) w_ fun s2 w3=>R (.returned s2.v) w3)):Calls pr 143 #[af.v,vi ae,vi ag] w R:=by
 refine zk (Hz J0 m0) (by kernel_rfl) Tryz.func143 rfl ?_ ?_
 ·refine kcast h ?_;kernel_rfl
 ·exact (za rfl (ze (za rfl (ze (za rfl (yg _ rfl (fun a_ w_ ad=>(by
  obtain ⟨ah,ai,ad⟩:=ya ad
  obtain ⟨ac,aj,ad⟩:=zr ad
  obtain ⟨aa,ak,ad⟩:=zq ad
  obtain ⟨ab,al,ad⟩:=zq ad
  obtain ⟨g0,rfl⟩:∃g,a_=Fr 32 [(0,ac.v),(1,vi aa),(2,vi ab)] g:=⟨_,yp ah ai _ (zf aj (zf ak (zf al yc)))⟩
  clear ah ai aj ak al
  have am:=ad
  refine ⟨(fun _=>none),kcast (h0 ac aa ab w_ am) ?_, ?_⟩
  ·kernel_rfl
  ·exact (za rfl (za rfl (ze (zh (zi (ye (yh rfl (ze trivial)))))))))) (za rfl (ze (zg trivial)))))))))
def Hy (J0:Slc→Slc→Int→Int→Int→World→Prop) (m0:Slc→Slc→Int→Int→Int→World→Nat):Nat→Option ((Act→World→Prop)×(Act→World→Nat))
 |0=>some (fun a_ w_=>atSz a_ 43 (atS a_ 1 fun t1_b=>atS a_ 5 fun t5_out=>atI .u64 a_ 6 fun t6_borrow=>atI .i64 a_ 16 fun t16=>atI .i64 a_ 17 fun t17=>J0 t1_b t5_out t6_borrow t16 t17 w_),fun a_ w_=>mS a_ 1 fun t1_b=>mS a_ 5 fun t5_out=>mI a_ 6 fun t6_borrow=>mI a_ 16 fun t16=>mI a_ 17 fun t17=>m0 t1_b t5_out t6_borrow t16 t17 w_)
 |_=>none
theorem Fm (ae:Slc) (af:Slc) (w:World) (R:Ending→World→Prop) (J0:Slc→Slc→Int→Int→Int→World→Prop) (m0:Slc→Slc→Int→Int→Int→World→Nat) (h:semS pr (Instr.makeSlice 23 (vi (ae.n:Int)) (vi (ae.n:Int))) w fun s1 w1=>semI pr .i64 (Builtin.copy_ #[23,23] 3 #[s1.v,ae.v]) w1 fun x1 w2=>J0 af s1 0 (s1.n:Int) 0 w2) (h0:∀ac aa ab t16 t17 w_,J0 ac aa ab t16 t17 w_→br (decide (t17<t16)) (br (decide (t17<(ac.n:Int))) (semA pr (Instr.indexAt 23 ac.v (vi t17)) w_ fun ad1 w3=>ldI .u64 ad1 w3 fun x2=>semA pr (Instr.indexAt 23 aa.v (vi t17)) w3 fun ad2 w4=>ldI .u64 ad2 w4 fun x3=>Sem.wp pr (callFunc 168 #[.int .u64 x3,.int .u64 x2,.int .u64 ab]) (fun n1 w5=>∃x4:Int,∃x5:Int,n1= .value (.tuple #[.int .u64 x4,.int .u64 x5])∧(semA pr (Instr.indexAt 23 aa.v (vi t17)) w5 fun ad3 w6=>stC ad3 (.int .u64 x4) w6 fun w7=>J0 ac aa x5 t16 (wrap .i64 (t17+1)) w7∧m0 ac aa x5 t16 (wrap .i64 (t17+1)) w7<m0 ac aa ab t16 t17 w_)) (fun _ _=>False) w4) (semA pr (Instr.indexAt 23 aa.v (vi t17)) w_ fun ad4 w8=>ldI .u64 ad4 w8 fun x6=>Sem.wp pr (callFunc 168 #[.int .u64 x6,.int .u64 0,.int .u64 ab]) (fun n2 w9=>∃x7:Int,∃x8:Int,n2= .value (.tuple #[.int .u64 x7,.int .u64 x8])∧(semA pr (Instr.indexAt 23 aa.v (vi t17)) w9 fun ad5 w10=>stC ad5 (.int .u64 x7) w10 fun w11=>J0 ac aa x8 t16 (wrap .i64 (t17+1)) w11∧m0 ac aa x8 t16 (wrap .i64 (t17+1)) w11<m0 ac aa ab t16 t17 w_)) (fun _ _=>False) w8)) (R (.returned aa.v) w_)):Calls pr 144 #[ae.v,af.v] w R:=by
 refine zk (Hy J0 m0) (by kernel_rfl) Tryz.func144 rfl ?_ ?_
 ·refine kcast h ?_;kernel_rfl
 ·exact (za rfl (ze (za rfl (ze (za rfl (ze (za rfl (ze (za rfl (za rfl (ze (yg _ rfl (fun a_ w_ ad=>(by
  obtain ⟨ai,aj,ad⟩:=ya ad
  obtain ⟨ac,ak,ad⟩:=zr ad
  obtain ⟨aa,al,ad⟩:=zr ad
  obtain ⟨ab,am,ad⟩:=zq ad
  obtain ⟨t16,ag,ad⟩:=zq ad
  obtain ⟨t17,ah,ad⟩:=zq ad
  obtain ⟨g0,rfl⟩:∃g,a_=Fr 43 [(1,ac.v),(5,aa.v),(6,Value.int .u64 ab),(16,vi t16),(17,vi t17)] g:=⟨_,yp ai aj _ (zf ak (zf al (zf am (zf ag (zf ah yc)))))⟩
  clear ai aj ak al am ag ah
  have an:=ad
  refine ⟨(fun _=>none),kcast (h0 ac aa ab t16 t17 w_ an) ?_, ?_⟩
  ·kernel_rfl
  ·exact (za rfl (ze (za rfl (zh (zi (ye (za rfl (yh rfl (za rfl (ze (za rfl (ze (za rfl (za rfl (ze (zh (ze (zi (ze (ze trivial)))))))))))))))))))))) (za rfl (ze (zg trivial)))))))))))))))
theorem zar (aa:Slc) (ab:Slc) (w:World) (R:Ending→World→Prop) (h:semS pr (Instr.makeSlice 23 (vi (wrap .i64 ((maxI (aa.n:Int) (ab.n:Int))+1))) (vi (wrap .i64 ((maxI (aa.n:Int) (ab.n:Int))+1)))) w fun s1 w1=>semI pr .i64 (Builtin.copy_ #[23,23] 3 #[s1.v,aa.v]) w1 fun x1 w2=>Calls pr 142 #[s1.v,ab.v,vi 0] w2 fun e1 w3=>e1= .returned (.tuple #[])∧(R (.returned s1.v) w3)):Calls pr 145 #[aa.v,ab.v] w R:=by
 refine zk (fun _=>none) (by kernel_rfl) Tryz.func145 rfl ?_ ?_
 ·refine kcast h ?_;kernel_rfl
 ·exact (za rfl (ze (za rfl (ze (za rfl (ze (za rfl (ze (za rfl (ze (zg trivial)))))))))))
theorem Ma (aa:Slc) (w:World) (R:Ending→World→Prop) (h:Calls pr 79 #[aa.v,aa.v] w fun e1 w1=>∃s1:Slc,∃x1:Int,e1= .returned (.tuple #[s1.v,vi x1])∧(R (.returned (.tuple #[s1.v,vi x1])) w1)):Calls pr 147 #[aa.v] w R:=by
 refine zk (fun _=>none) (by kernel_rfl) Tryz.func147 rfl ?_ ?_
 ·refine kcast h ?_;kernel_rfl
 ·exact (za rfl (ze (za rfl (ze (zg trivial)))))
end
section
open Go Go.RowKit Eng Sp Dg
namespace Mul
open _root_.Go.Proofs.YtbeiopoejdkheaaGreatDoor.Nat (ldN ldNf stN mkN Fill mkF stF stFf Num OwnNil add64 sub64)
def Only (k:Nat) (w w':World):Prop:=w'.os=w.os∧w'.tape=w.tape∧w'.output=w.output∧w'.heap.size=w.heap.size∧∀j,j≠k→w'.heap[j]? =w.heap[j]?
theorem Only.refl (k:Nat) (w:World):Only k w w:=⟨rfl,rfl,rfl,rfl,fun _ _=>rfl⟩
theorem Only.trans {k:Nat} {a b} {c:World} (h:Only k a b) (h':Only k b c):Only k a c:=
 ⟨h'.1.trans h.1,h'.2.1.trans h.2.1,h'.2.2.1.trans h.2.2.1,h'.2.2.2.1.trans h.2.2.2.1,fun j hj=>(h'.2.2.2.2 j hj).trans (h.2.2.2.2 j hj)⟩
theorem Only.setCell (k i:Nat) (w:World) (v:Value):Only k w (w.setCell ⟨k,i,none⟩ v):=
 ⟨rfl,rfl,rfl,by simp [World.setCell],fun j hj=>Below.heap_setCell _ _ _ _ (by simpa using hj)⟩
theorem Only.setRow (k:Nat) (w:World) (c:Array Value):Only k w (w.setRow k c):=
 ⟨rfl,rfl,rfl,by simp [World.setRow],fun j hj=>setRow_other w k j _ hj⟩
theorem Only.ahead {k:Nat} {w0 w w'} (h:Only k w w') (ha:Ahead w0 w) (hk:w0.heap.size≤k):Ahead w0 w':=
 Below.trans ha ⟨h.1,h.2.1,h.2.2.1,by rw [h.2.2.2.1];exact Nat.le_refl _,fun j hj=>h.2.2.2.2 j (by omega)⟩
def Off (k:Nat) (s:Slc):Prop:=∀ad,s.A=some ad→0<s.n→ad.block≠k
theorem ki (a:Addr) (i:Nat):(a.add i).block=a.block:=by unfold Addr.add;split<;>rfl
theorem Only.rd {k:Nat} {w w'} (h:Only k w w') {s:Slc} {l:List Int} {kd:IntKind} (hr:Rd kd w s l) (ho:Off k s):Rd kd w' s l:=
 ⟨hr.n,hr.c,fun i hi=>by
  obtain ⟨ad,e,hc⟩:=hr.get i hi
  refine ⟨ad,e, ?_⟩
  rw [World.cell?_of_block (w:=w)]
  ·exact hc
  ·rw [ki];exact h.2.2.2.2 _ (ho ad e (by rw [hr.n];omega))⟩
theorem Only.own {k:Nat} {w w'} (h:Only k w w') {s:Slc} {l:List Int} {kd:IntKind} {t:TypeId} {b:Nat} (hr:Owr kd t w s l b) (ho:b≠k):Owr kd t w' s l b:=by
 obtain ⟨sp,hc,hm⟩:=hr.mem
 exact ⟨hr.hd,sp,hc,by rw [h.2.2.2.2 b ho];exact hm⟩
theorem Only.ownNil {k base:Nat} {w w'} (h:Only k w w') {s:Slc} {l:List Nat} (hr:OwnNil base w s l) (ho:k<base):OwnNil base w' s l:=by
 rcases hr with h1|⟨b,h1,h2,h3⟩
 ·exact .inl h1
 ·exact .inr ⟨b,h1,h2,h.own h3 (by omega)⟩
theorem Cr {k base:Nat} {w s} {l:List Nat} (hr:OwnNil base w s l) (ho:k<base):Off k s:=by
 intro ad e _
 rcases hr with ⟨rfl,_⟩|⟨b,h1,_,h3⟩
 ·cases e
 ·have:=Option.some.inj (h3.A.symm.trans e)
  rw [←this];simp only;omega
theorem stO {t:TypeId} {w s} {l:List Nat} {b:Nat} (h:Owr .u64 tU64 w s (nn l) b) {i:Int} (h0:0≤i) (h1:i<l.length) {x:Nat} {K:World→Prop} (hk:∀w',Owr .u64 tU64 w' s (nn (l.set i.toNat x)) b→Only b w w'→K w') (hT:isSl pr t .u64=some tU64:=by kernel_rfl):semA pr (Instr.indexAt t s.v (.int .i64 i)) w fun ad w1=>stC ad (.int .u64 (x:Int)) w1 fun w2=>K w2:=by
 have hi:i.toNat<(nn l).length:=by rw [nn_length];omega
 unfold semA
 rw [Sem.wp_iff_run,vg hT w s i _ h.A h0 (by rw [h.n,nn_length];exact h1)]
 refine ⟨_,rfl, ?_⟩
 try dsimp only
 rw [zz]
 have:=h.set hi (x:Int)
 rw [cz] at this
 exact ⟨⟨_,h.cell hi⟩,h.frozen _,hk _ this (Only.setCell b _ w _)⟩
theorem pn {w c b} {l m:List Nat} {k at_:Nat} (hc:Owr .u64 tU64 w c (nn l) k) (hb:Rd .u64 w b (nn m)) (ho:Off k b) (ol:ok B64 l) (om:ok B64 m) (ll:l.length≤2^46) (lm:m.length≤2^46) (hat:at_≤l.length) (hfit:val B64 l+val B64 m*B64^at_<B64^l.length):Calls pr mul_addAt_id #[c.v,b.v, .int .i64 (at_:Int)] w fun e w'=>e= .returned (.tuple #[])∧Only k w w'∧∃l',Owr .u64 tU64 w' c (nn l') k∧l'.length=l.length∧ok B64 l'∧val B64 l'=val B64 l+val B64 m*B64^at_:=by
 have hB:=B64v
 have hcn:c.n=l.length:=by rw [hc.n,nn_length]
 have hbn:b.n=m.length:=by rw [hb.n,nn_length]
 refine Hw c b at_ w _ (fun t0 t1 t2 t6 t7 w'=>t0=c∧t1=b∧t2=(at_:Int)∧∃(j cr:Nat) (l':List Nat),t7=((at_+j:Nat):Int)∧at_+j≤l.length∧t6=(cr:Int)∧cr≤1∧Only k w w'∧Owr .u64 tU64 w' c (nn l') k∧l'.length=l.length∧ok B64 l'∧
  val B64 l'+cr*B64^(at_+j)=val B64 l+val B64 (m.take j)*B64^at_) (fun t0 _ _ _ i _=>((t0.n:Int) -i).toNat)
  ⟨rfl,rfl,rfl,0,0,l,rfl,hat,rfl,by omega,Only.refl _ _,hc,rfl,ol,by simp [val]⟩ ?_
 rintro t0 t1 t2 t6 t7 w1 ⟨rfl,rfl,rfl,j,cr,l',rfl,hj,rfl,hcr,hon,hc1,hl',ol',hv⟩
 have hb1:=hon.rd hb ho
 have ei:IntKind.i64.wrap (((at_+j:Nat):Int) -(at_:Int))=(j:Int):=by rw [zp (by omega) (by omega)];omega
 have e8:IntKind.i64.wrap (((at_+j:Nat):Int)+1)=((at_+(j+1):Nat):Int):=by rw [zp (by omega) (by omega)];omega
 rw [ei,e8]
 have round:∀y:Nat,y<B64→y=m.getD j 0→at_+j<l.length→∀w2,w2=w1→semA pr (Instr.indexAt 23 t0.v (.int .i64 ((at_+j:Nat):Int))) w2 fun ad2 w2=>ldI .u64 ad2 w2 fun x2=>
   Sem.wp pr (callFunc bits_Add64_id #[.int .u64 x2, .int .u64 (y:Int), .int .u64 (cr:Int)]) (fun n1 w3=>∃x3:Int,∃x4:Int,n1= .value (.tuple #[.int .u64 x3, .int .u64 x4])∧
    (semA pr (Instr.indexAt 23 t0.v (.int .i64 ((at_+j:Nat):Int))) w3 fun ad3 w4=>stC ad3 (.int .u64 x3) w4 fun w5=>
     (t0=t0∧t1=t1∧(at_:Int)=(at_:Int)∧∃(j' cr:Nat) (l':List Nat),((at_+(j+1):Nat):Int)=((at_+j':Nat):Int)∧at_+j'≤l.length∧x4=(cr:Int)∧cr≤1∧Only k w w5∧Owr .u64 tU64 w5 t0 (nn l') k∧l'.length=l.length∧ok B64 l'∧
  val B64 l'+cr*B64^(at_+j')=val B64 l+val B64 (m.take j')*B64^at_)∧((t0.n:Int) -((at_+(j+1):Nat):Int)).toNat<((t0.n:Int) -((at_+j:Nat):Int)).toNat)) (fun _ _=>False) w2:=by
  rintro y hy hym hlt w2 rfl
  refine ldN hc1.rd (by omega) (by omega) ?_
  rw [Int.toNat_natCast]
  have hx:=yi ol' (by omega:0<B64) (at_+j)
  refine add64 hcr ?_
  refine stO hc1 (by omega) (by omega) ?_
  intro w5 ho5 hon5
  rw [Int.toNat_natCast] at ho5
  have hq1:(l'.getD (at_+j) 0+y+cr)/B64≤1:=by
   have:l'.getD (at_+j) 0+y+cr<2*B64:=by omega
   have:=(Nat.div_lt_iff_lt_mul (by omega:0<B64)).2 this
   omega
  refine ⟨⟨rfl,rfl,rfl,j+1,_,_,rfl,by omega,rfl,hq1,hon.trans hon5,ho5,by simpa using hl',xb ol' (Nat.mod_lt _ (by omega)), ?_⟩,by omega⟩
  have vs:=kb (B:=B64) l' (at_+j) ((l'.getD (at_+j) 0+y+cr) % B64) (by omega)
  have dm:=Nat.mod_add_div (l'.getD (at_+j) 0+y+cr) B64
  rw [yj,←hym,Nat.add_mul,show at_+(j+1)=at_+j+1 by omega,Nat.pow_succ,show B64^j*y*B64^at_=B64^(at_+j)*y by rw [Nat.pow_add];ac_rfl]
  generalize (l'.getD (at_+j) 0+y+cr) % B64=s at*
  generalize (l'.getD (at_+j) 0+y+cr)/B64=q at*
  generalize l'.getD (at_+j) 0=x at*
  generalize B64^(at_+j)=P at*
  have e:P*s+q*(P*B64)=P*x+P*y+cr*P:=by
   have:P*(s+B64*q)=P*(x+y+cr):=by rw [dm]
   rw [Nat.mul_add,Nat.mul_add,Nat.mul_add] at this
   rw [Nat.mul_comm cr P,←this]
   ac_rfl
  omega
 have fin:(¬(at_+j<l.length))∨(m.length≤j∧cr=0)→(Ending.returned (Value.tuple #[])= .returned (.tuple #[])∧Only k w w1∧∃l'',Owr .u64 tU64 w1 t0 (nn l'') k∧l''.length=l.length∧ok B64 l''∧val B64 l''=val B64 l+val B64 m*B64^at_):=by
  intro h
  refine ⟨rfl,hon,l',hc1,hl',ol', ?_⟩
  have hle:val B64 (m.take j)≤val B64 m:=by rw [xi m (min j m.length) (Nat.min_le_right _ _)];rw [show m.take (min j m.length)=m.take j by rw [Nat.min_def];split;rfl;rw [List.take_of_length_le (Nat.le_refl _),List.take_of_length_le (by omega)]];omega
  rcases h with h|⟨h,rfl⟩
  ·have he:at_+j=l.length:=by omega
   rw [he] at hv
   have h2:val B64 (m.take j)*B64^at_≤val B64 m*B64^at_:=Nat.mul_le_mul_right _ hle
   have h3:cr=0:=by
    rcases Nat.lt_or_ge cr 1 with h4|h4
    ·omega
    ·have:cr=1:=by omega
     subst this
     omega
   subst h3
   have h5:val B64 m=val B64 (m.take j):=by
    rcases Nat.lt_or_ge j m.length with hjm|hjm
    ·
     rw [xi m j (by omega)] at hfit⊢
     rcases Nat.eq_zero_or_pos (val B64 (m.drop j)) with hz|hp
     ·rw [hz];simp
     ·exfalso
      have:B64^l.length≤B64^j*val B64 (m.drop j)*B64^at_:=by
       rw [←he,Nat.pow_add,Nat.mul_comm (B64^at_)]
       exact Nat.mul_le_mul_right _ (Nat.le_mul_of_pos_right _ hp)
      rw [Nat.add_mul] at hfit
      omega
    ·rw [List.take_of_length_le hjm]
   rw [h5];omega
  ·rw [List.take_of_length_le h] at hv
   omega
 refine zm (fun hlt=> ?_) (fun hge=> ?_)
 ·have hlt':at_+j<l.length:=by simp at hlt;omega
  refine zm (fun hin=> ?_) (fun hin=> ?_)
  ·have hin':j<m.length:=by simp at hin;omega
   refine yz hin ?_
   refine ldN hb1 (by omega) (by omega) ?_
   rw [Int.toNat_natCast]
   exact round _ (yi om (by omega) j) rfl hlt' _ rfl
  ·have hin':m.length≤j:=by simp at hin;omega
   refine zm (fun hp=> ?_) (fun hp=> ?_)
   ·exact zt hin (round 0 (by omega) (ui _ _ hin').symm hlt' _ rfl)
   ·exact fin (.inr ⟨hin',by simp at hp;omega⟩)
 ·exact fin (.inl (by simp at hge;omega))
end Mul
end
section
open Go Go.RowKit Eng Sp Dg
namespace Mul
open _root_.Go.Proofs.YtbeiopoejdkheaaGreatDoor.Nat (ldN ldNf stN mkN Fill mkF stF stFf Num OwnNil add64 sub64)
theorem Ze {w s} {l:List Int} {kd:IntKind} (hr:Rd kd w s l) {k:Nat} (hk:w.heap.size≤k):Off k s:=by
 intro ad e hp
 obtain ⟨ad',e',hc⟩:=hr.get 0 (by have:=hr.n;omega)
 rw [e] at e'
 obtain rfl:=Option.some.inj e'
 intro hb
 have hnone:w.heap[k]? =none:=by simp [hk]
 have:(ad.add 0).block=k:=by rw [ki];exact hb
 simp [World.cell?,this,hnone] at hc
theorem cpO {t:TypeId} {w s x} {l ys:List Nat} {b:Nat} {ty:TypeId} (h:Owr .u64 tU64 w s (nn l) b) (hx:Rd .u64 w x (nn ys)) (hle:ys.length≤l.length) {K:Int→World→Prop} (hk:∀n w',Owr .u64 tU64 w' s (nn (ys++l.drop ys.length)) b→Only b w w'→K n w') (hT:isSl pr t .u64=some tU64:=by kernel_rfl):semI pr .i64 (Builtin.copy_ #[t,t] ty #[s.v,x.v]) w K:=by
 obtain ⟨hu,he,inf,hi,hs1,hb8,hz⟩:=tu hT
 obtain ⟨sp,hc,hh⟩:=h.mem
 have hsv:s.v= .slice (some ⟨b,0,none⟩) l.length s.c:=by rw [Slc.v,h.A,h.n,nn_length]
 have hxn:x.n=ys.length:=by rw [hx.n,nn_length]
 unfold semI
 rw [Sem.wp_iff_run,hsv]
 obtain ⟨A,n,c⟩:=x
 simp only at hxn
 subst hxn
 cases A with
 |none=>
  have hnil:ys= []:=by
   cases ys with
   |nil=>rfl
   |cons y ys=>
    obtain ⟨ad,e,_⟩:=hx.get 0 (by simp)
    cases e
  subst hnil
  have hr:(Builtin.copy_ #[t,t] ty #[.slice (some ⟨b,0,none⟩) l.length s.c,Slc.v ⟨none,0,c⟩]).run pr w= .ok (goInt 0) w:=by
   simp [Builtin.copy_,Slc.v,run_underlying hu,Builtin.lenOf,Builtin.firstCells,sizeOf,typeInfo,hi,storeCells]
  simp only [List.length_nil]
  rw [hr]
  exact ⟨_,rfl,hk _ _ (by simpa using h) (Only.refl _ _)⟩
 |some ad=>
  have hr:=run_copy_row (P:=pr) w t t ty tU64 b 0 l.length s.c ad ys.length c (ints .u64 (nn l)++sp).toArray tU64 (ints .u64 (nn ys)) hu (by rw [hi];simp [hs1]) hh (by simp [ints,Nat.min_eq_left hle])
   (fun j v hj=>by
    have hj':j<(nn ys).length:=by
     have:=(List.getElem?_eq_some_iff.1 hj).1
     simpa [ints] using this
    obtain ⟨ad',e',hcc⟩:=hx.get j hj'
    obtain rfl:=Option.some.inj e'
    rw [Y1 hj'] at hj
    obtain rfl:=Option.some.inj hj
    exact hcc) (by simp [ints];omega) (by simp [ints,Value.oneCell'])
  have hxv:Slc.v ⟨some ad,ys.length,c⟩= .slice (some ad) ys.length c:=rfl
  rw [hxv,hr]
  refine ⟨_,rfl,hk _ _ ⟨?_,sp, ?_, ?_⟩ (Only.setRow _ _ _)⟩
  ·rw [h.hd];simp;omega
  ·rw [hc];simp;omega
  ·rw [setRow_heap w b _ _ tU64 (0,0) hh]
   congr 2
   simp [ints,nn,List.drop_append,show ys.length -l.length=0 by omega]
theorem Pf {w a} {l:List Nat} (h:Rd .u64 w a (nn l)) (ol:ok B64 l) (ll:l.length≤2^46) {f t:Int} (hf:0≤f) (h0:min f.toNat l.length≤min t.toNat l.length) (ht:0≤t):Calls pr mul_part_id #[a.v, .int .i64 f, .int .i64 t] w fun e w'=>w'=w∧∃s,e= .returned (Slc.v s)∧Rd .u64 w s (nn (digs B64 (val B64 ((l.drop (min f.toNat l.length)).take (min t.toNat l.length -min f.toNat l.length))))):=by
 have hn:a.n=l.length:=by rw [h.n,nn_length]
 have hc:=h.c
 generalize hF:min f.toNat l.length=F at*
 generalize hT:min t.toNat l.length=T at*
 have hTl:T≤l.length:=by omega
 have eF:minI f (a.n:Int)=(F:Int):=by unfold minI;split<;>omega
 have eT:minI t (a.n:Int)=(T:Int):=by unfold minI;split<;>omega
 refine Fp a f t w _ (fun t0 t1 t2 w'=>t0=a∧w'=w∧t1=(F:Int)∧∃j:Nat,t2=(j:Int)∧F≤j∧j≤T∧∀i,j≤i→i<T→l.getD i 0=0) (fun _ _ t2 _=>t2.toNat)
  ⟨rfl,rfl,eF,T,eT,h0,Nat.le_refl _,fun i h1 h2=>by omega⟩ ?_
 rintro t0 t1 t2 w1 ⟨rfl,rfl,rfl,j,rfl,hj1,hj2,hz⟩
 have fin:(j=F∨l.getD (j -1) 0≠0)→semS pr (Instr.sliceAt 23 t0.v (some (.int .i64 (F:Int))) (some (.int .i64 (j:Int))) none) w1 fun s1 w2=>
   w2=w1∧∃s,Ending.returned s1.v= .returned (Slc.v s)∧Rd .u64 w1 s (nn (digs B64 (val B64 ((l.drop F).take (T -F))))):=by
  intro hlast
  have e:=gp (t:=23) (e:=tU64) (k:= .u64) (P:=pr) (by kernel_rfl) w1 t0 (l:=(F:Int)) (h:=(j:Int)) (by omega) (by omega) (by omega)
  unfold semS
  rw [Sem.wp_iff_run,e]
  refine ⟨_,rfl,rfl,_,rfl, ?_⟩
  have hd:digs B64 (val B64 ((l.drop F).take (T -F)))=((l.drop F).take (T -F)).take (j -F):=by
   refine jw two64 (vr (jj ol F) _) (by simp;omega) (fun i h1 h2=> ?_) ?_
   ·have h3:i<T -F:=by simp at h2;omega
    rw [Q5 _ h3,km]
    exact hz (F+i) (by omega) (by omega)
   ·rcases hlast with h1|h1
    ·left;omega
    ·by_cases hjF:j=F
     ·left;omega
     ·right
      rw [Q5 _ (by omega),km,show F+(j -F -1)=j -1 by omega]
      exact h1
  rw [hd,List.take_take,Nat.min_eq_left (by omega),←vm,←Ck]
  have h2:=(Rd.drop h (m:=F) (by rw [nn_length];omega)).take (m:=j -F) (c:=t0.c -F) (by simp;omega) (by omega)
  simp only [Int.toNat_natCast]
  exact h2
 refine zm (fun hp=> ?_) (fun hp=> ?_)
 ·have hp':F<j:=by simp at hp;omega
  rw [zp (x:=(j:Int) -1) (by omega) (by omega)]
  refine ldN h (by omega) (by omega) ?_
  rw [show ((j:Int) -1).toNat=j -1 by omega]
  refine zm (fun hx=> ?_) (fun hx=> ?_)
  ·refine ⟨⟨rfl,rfl,rfl,j -1,by omega,by omega,by omega,fun i h1 h2=> ?_⟩,by omega⟩
   by_cases hi:i=j -1
   ·subst hi;simpa using hx
   ·exact hz i (by omega) h2
  ·exact fin (.inr (by simpa using hx))
 ·exact fin (.inl (by simp at hp;omega))
theorem Vv (l:List Nat) (n:Nat):val B64 (l++List.replicate n 0)=val B64 l:=by rw [p7,xn,Nat.mul_zero,Nat.add_zero]
theorem G5 {w a b} {la lb:List Nat} (ha:Rd .u64 w a (nn la)) (hb:Rd .u64 w b (nn lb)) (oa:ok B64 la) (ob:ok B64 lb) (na:la.length+1≤2^45) (nb:lb.length+1≤2^45):Calls pr mul_sum_id #[a.v,b.v] w fun e w'=>Ahead w w'∧∃s l,e= .returned (Slc.v s)∧OwnNil w.heap.size w' s l∧l.length=max la.length lb.length+1∧ok B64 l∧val B64 l=val B64 la+val B64 lb:=by
 have hB:=B64v
 have hna:a.n=la.length:=by rw [ha.n,nn_length]
 have hnb:b.n=lb.length:=by rw [hb.n,nn_length]
 have em:maxI (a.n:Int) (b.n:Int)=((max la.length lb.length:Nat):Int):=by unfold maxI;split<;>omega
 refine zar a b w _ ?_
 rw [em,zp (x:=((max la.length lb.length:Nat):Int)+1) (by omega) (by omega)]
 refine mkN (by omega) (by omega) ?_
 intro c w1 hc ho h1 hs1
 have hr:=ha.ahead h1
 refine cpO ho hr (by simp;omega) ?_
 intro n w2 ho2 hon2
 have hlen:(la++(List.replicate ((max la.length lb.length:Nat)+1:Int).toNat 0).drop la.length).length=max la.length lb.length+1:=by simp;omega
 have hval:val B64 (la++(List.replicate ((max la.length lb.length:Nat)+1:Int).toNat 0).drop la.length)=val B64 la:=by rw [List.drop_replicate];exact Vv _ _
 have hok:ok B64 (la++(List.replicate ((max la.length lb.length:Nat)+1:Int).toNat 0).drop la.length):=Za.2 ⟨oa,jj (yr (by omega) _) _⟩
 generalize la++(List.replicate ((max la.length lb.length:Nat)+1:Int).toNat 0).drop la.length=L at*
 have hfit:val B64 L+val B64 lb*B64^0<B64^L.length:=by
  rw [hval,hlen,Nat.pow_zero,Nat.mul_one,Nat.pow_succ]
  have h2:=Nat.lt_of_lt_of_le (xa oa) (Nat.pow_le_pow_right (by omega) (Nat.le_max_left la.length lb.length))
  have h3:=Nat.lt_of_lt_of_le (xa ob) (Nat.pow_le_pow_right (by omega) (Nat.le_max_right la.length lb.length))
  have:=Nat.mul_le_mul_left (B64^max la.length lb.length) two64
  omega
 refine Calls.mono (pn (at_:=0) ho2 (hon2.rd (hb.ahead h1) (Ze hb (Nat.le_refl _))) (Ze hb (Nat.le_refl _)) hok ob (by omega) (by omega) (Nat.zero_le _) hfit) ?_
 rintro e w3 ⟨rfl,hon3,l',ho3,hl',ol',hv'⟩
 refine ⟨rfl,(hon2.trans hon3).ahead h1 (Nat.le_refl _),c,l',rfl, .inr ⟨_,Nat.le_refl _,by rw [hc];unfold maxLen;omega,ho3⟩,by rw [hl',hlen],ol',by rw [hv',hval,Nat.pow_zero,Nat.mul_one]⟩
theorem Pb {w a b} {la lb:List Nat} (ha:Rd .u64 w a (nn la)) (hb:Rd .u64 w b (nn lb)) (oa:ok B64 la) (ob:ok B64 lb) (na:la.length+1≤2^45) (nb:lb.length≤2^46) (hle:val B64 lb≤val B64 la):Calls pr mul_less_id #[a.v,b.v] w fun e w'=>Ahead w w'∧∃s l,e= .returned (Slc.v s)∧OwnNil w.heap.size w' s l∧l.length=la.length∧ok B64 l∧val B64 l=val B64 la -val B64 lb:=by
 have hB:=B64v
 have hna:a.n=la.length:=by rw [ha.n,nn_length]
 have hnb:b.n=lb.length:=by rw [hb.n,nn_length]
 refine Fm a b w _ (fun t1 out t6 t16 t17 w'=>t1=b∧t16=(la.length:Int)∧Ahead w w'∧∃(j cr:Nat) (l:List Nat),t17=(j:Int)∧j≤la.length∧t6=(cr:Int)∧cr≤1∧Owr .u64 tU64 w' out (nn l) w.heap.size∧out.c≤maxLen∧
  l.length=la.length∧ok B64 l∧l.drop j=la.drop j∧val B64 (l.take j)+val B64 (lb.take j)=val B64 (la.take j)+cr*B64^j) (fun _ _ _ n i _=>(n -i).toNat) ?_ ?_
 ·rw [hna]
  refine mkN (by omega) (by omega) ?_
  intro c w1 hc ho h1 hs1
  refine cpO ho (ha.ahead h1) (by simp) ?_
  intro n w2 ho2 hon2
  have e:la++(List.replicate ((la.length:Nat):Int).toNat 0).drop la.length=la:=by simp
  rw [e] at ho2
  exact ⟨rfl,by rw [ho2.n,nn_length],hon2.ahead h1 (Nat.le_refl _),0,0,la,rfl,Nat.zero_le _,rfl,by omega,ho2,by rw [hc];unfold maxLen;omega,rfl,oa,rfl,by simp [val]⟩
 ·rintro t1 out t6 t16 t17 w1 ⟨rfl,rfl,h1,j,cr,l,rfl,hj,rfl,hcr,ho,hoc,hl,ol,hdr,hv⟩
  have e8:IntKind.i64.wrap ((j:Int)+1)=((j+1:Nat):Int):=by rw [zp (by omega) (by omega)];omega
  rw [e8]
  have round:∀y:Nat,y<B64→y=lb.getD j 0→j<la.length→semA pr (Instr.indexAt 23 out.v (.int .i64 (j:Int))) w1 fun ad2 w4=>ldI .u64 ad2 w4 fun x3=>
    Sem.wp pr (callFunc bits_Sub64_id #[.int .u64 x3, .int .u64 (y:Int), .int .u64 (cr:Int)]) (fun n1 w5=>∃x4:Int,∃x5:Int,n1= .value (.tuple #[.int .u64 x4, .int .u64 x5])∧
     (semA pr (Instr.indexAt 23 out.v (.int .i64 (j:Int))) w5 fun ad3 w6=>stC ad3 (.int .u64 x4) w6 fun w7=>
      (t1=t1∧(la.length:Int)=(la.length:Int)∧Ahead w w7∧∃(j' cr:Nat) (l:List Nat),((j+1:Nat):Int)=(j':Int)∧j'≤la.length∧x5=(cr:Int)∧cr≤1∧Owr .u64 tU64 w7 out (nn l) w.heap.size∧out.c≤maxLen∧
  l.length=la.length∧ok B64 l∧l.drop j'=la.drop j'∧val B64 (l.take j')+val B64 (lb.take j')=val B64 (la.take j')+cr*B64^j')∧((la.length:Int) -((j+1:Nat):Int)).toNat<((la.length:Int) -(j:Int)).toNat)) (fun _ _=>False) w4:=by
   intro y hy hyb hjl
   refine ldN ho.rd (by omega) (by omega) ?_
   rw [Int.toNat_natCast]
   have hx:l.getD j 0=la.getD j 0:=by
    have e1:=km l 0 j
    have e2:=km la 0 j
    rw [Nat.add_zero] at e1 e2
    rw [←e1,hdr,e2]
   have hxB:=yi oa (by omega:0<B64) j
   rw [hx]
   refine sub64 hcr ?_
   refine stO ho (by omega) (by omega) ?_
   intro w7 ho7 hon7
   rw [Int.toNat_natCast] at ho7
   have hst:(la.getD j 0+B64 -y -cr) % B64+y+cr=la.getD j 0+B64*(if la.getD j 0<y+cr then 1 else 0):=by
    generalize la.getD j 0=x at*
    split
    ·rename_i h
     rw [Nat.mod_eq_of_lt (by omega)];omega
    ·rename_i h
     have:x+B64 -y -cr=(x -y -cr)+B64:=by omega
     rw [this,Nat.add_mod_right,Nat.mod_eq_of_lt (by omega)];omega
   refine ⟨⟨rfl,rfl,hon7.ahead h1 (Nat.le_refl _),j+1,_,_,rfl,hjl,rfl,by split<;>omega,ho7,hoc,by simpa using hl,xb ol (Nat.mod_lt _ (by omega)), ?_, ?_⟩,by omega⟩
   ·rw [List.drop_set_of_lt (by omega),←List.drop_drop,←List.drop_drop,hdr]
   ·rw [xu _ _ _ (by omega),yj,yj,Nat.pow_succ,←hyb]
    exact Xn hst hv
  refine zm (fun hlt=> ?_) (fun hge=> ?_)
  ·have hjl:j<la.length:=by simp at hlt;omega
   refine zm (fun hin=> ?_) (fun hin=> ?_)
   ·have hin':j<lb.length:=by simp at hin;omega
    refine ldN (hb.ahead h1) (by omega) (by omega) ?_
    rw [Int.toNat_natCast]
    exact round _ (yi ob (by omega) j) rfl hjl
   ·have hin':lb.length≤j:=by simp at hin;omega
    exact round 0 (by omega) (ui _ _ hin').symm hjl
  ·have hjl:j=la.length:=by simp at hge;omega
   subst hjl
   refine ⟨h1,out,l,rfl, .inr ⟨_,Nat.le_refl _,hoc,ho⟩,hl,ol, ?_⟩
   have hlt:=xa ol
   rw [hl] at hlt
   rw [yx l (by omega),yx la (Nat.le_refl _)] at hv
   have hlb:val B64 (lb.take la.length)=val B64 lb:=by
    rw [zdr (by omega) ob,Nat.mod_eq_of_lt (Nat.lt_of_le_of_lt hle (xa oa))]
   rw [hlb] at hv
   have h3:cr=0:=by
    rcases Nat.lt_or_ge cr 1 with h4|h4
    ·omega
    ·have:cr=1:=by omega
     subst this
     omega
   subst h3
   omega
end Mul
end
section
open Go Go.RowKit Eng Sp Dg
namespace Sb
open _root_.Go.Proofs.YtbeiopoejdkheaaGreatDoor.Nat (OwnNil)
open _root_.Go.Proofs.YtbeiopoejdkheaaGreatDoor.Mul (Only Off)
def Blk (w:World) (b:Nat) (cs:Array Value):Prop:=∃t,w.heap[b]? =some (.cells cs t (0,0))
theorem Blk.lt {w} {b:Nat} {cs:Array Value} (h:Blk w b cs):b<w.heap.size:=by
 obtain ⟨t,h⟩:=h;exact (Array.getElem?_eq_some_iff.1 h).1
theorem Blk.ahead {w w'} {b:Nat} {cs:Array Value} (h:Blk w b cs) (ha:Ahead w w'):Blk w' b cs:=by
 have hl:=h.lt
 obtain ⟨t,h⟩:=h;exact ⟨t,by rw [Below.block ha b hl];exact h⟩
theorem Blk.only {w w'} {b k:Nat} {cs:Array Value} (h:Blk w b cs) (ho:Only k w w') (hne:b≠k):Blk w' b cs:=by
 obtain ⟨t,h⟩:=h;exact ⟨t,by rw [ho.2.2.2.2 b hne];exact h⟩
theorem Blk.cell {w} {b i:Nat} {cs:Array Value} {v:Value} (h:Blk w b cs) (hc:cs[i]? =some v):w.cell? ⟨b,i,none⟩=some v:=by
 obtain ⟨t,h⟩:=h
 simp [World.cell?,h,hc]
theorem yv {w:World} {cs:Array Value} {t:TypeId} {K:Addr→World→Prop} (h:∀b w',b=w.heap.size→Ahead w w'→w'.heap.size=b+1→Blk w' b cs→K ⟨b,0,none⟩ w'):newC w cs t K:=
 h _ _ rfl (Ahead.alloc _ _) (pz _ _) ⟨t,te _ _⟩
structure Upd (b:Nat) (w w':World):Prop where
  only:Only b w w'
  rd:∀s l,Rd .u64 w s l→Rd .u64 w' s l
theorem Upd.trans {b:Nat} {w w'} {w'':World} (h:Upd b w w') (h':Upd b w' w''):Upd b w w'':=⟨h.only.trans h'.only,fun s l hr=>h'.rd s l (h.rd s l hr)⟩
theorem Upd.ahead {b:Nat} {w0 w w'} (h:Upd b w w') (ha:Ahead w0 w) (hb:w0.heap.size≤b):Ahead w0 w':=h.only.ahead ha hb
theorem Upd.size {b:Nat} {w w'} (h:Upd b w w'):w'.heap.size=w.heap.size:=h.only.2.2.2.1
theorem Upd.own {b base:Nat} {w w'} (h:Upd b w w') {s:Slc} {l:List Nat} (hr:OwnNil base w s l) (ho:b<base):OwnNil base w' s l:=h.only.ownNil hr ho
theorem Upd.own2 {k base:Nat} {w0 w w'} (u:Upd k w w') {s:Slc} {l:List Nat} (h:OwnNil base w0 s l) (ha:Ahead w0 w) (hk:w0.heap.size≤k):OwnNil base w' s l:=by
 rcases h with h1|⟨b,h1,h2,h3⟩
 ·exact .inl h1
 ·have:=h3.lt
  exact .inr ⟨b,h1,h2,u.only.own (h3.ahead ha) (by omega)⟩
theorem Upd.blk {b k:Nat} {w w'} {cs:Array Value} (h:Upd k w w') (hr:Blk w b cs) (hne:b≠k):Blk w' b cs:=hr.only h.only hne
def noU (cs:Array Value):Bool:=cs.toList.all fun v=>match v with
 | .int .u64 _=>false
 |_=>true
theorem Cq {w} {b:Nat} {cs:Array Value} {s} {l:List Int} (h:Blk w b cs) (hn:noU cs=true) (hr:Rd .u64 w s l):Off b s:=by
 intro ad e hp hb
 obtain ⟨ad',e',hc⟩:=hr.get 0 (by have:=hr.n;omega)
 rw [e] at e'
 obtain rfl:=Option.some.inj e'
 obtain ⟨t,h⟩:=h
 have hadd:ad.add 0=ad:=by simp [Addr.add]
 rw [hadd,World.cell?,hb,h] at hc
 simp only at hc
 split at hc
 ·cases hc
 ·have hm:=Array.mem_of_getElem? hc
  unfold noU at hn
  have:=List.all_eq_true.1 hn _ (Array.mem_toList_iff.2 hm)
  simp at this
theorem p5 (i:Nat) {w:World} {b:Nat} {cs:Array Value} {ad:Addr} {v:Value} {K:World→Prop} (h:Blk w b cs) (hi:i<cs.size) (hn:noU cs=true) (hk:∀w',Upd b w w'→Blk w' b (cs.setIfInBounds i v)→K w') (hA:ad=⟨b,i,none⟩:=by first|rfl|exact zz):stC ad v w K:=by
 subst hA
 obtain ⟨t,hh⟩:=h
 have ho:Only b w (w.setCell ⟨b,i,none⟩ v):=Only.setCell b i w v
 refine ⟨⟨cs[i],by simp [World.cell?,hh,hi]⟩,by simp [World.frozen?,hh],hk _ ⟨ho,fun s l hr=>ho.rd hr (Cq ⟨t,hh⟩ hn hr)⟩ ⟨t, ?_⟩⟩
 have hlt:=(Array.getElem?_eq_some_iff.1 hh).1
 have hget:=(Array.getElem?_eq_some_iff.1 hh).2
 simp [World.setCell,Array.getElem?_modify,hh]
theorem uu (i:Nat) {w:World} {b:Nat} {cs:Array Value} {ad:Addr} {x:Bool} {K:Bool→Prop} (h:Blk w b cs) (hc:cs[i]? =some (.bool x)) (hk:K x) (hA:ad=⟨b,i,none⟩:=by first|rfl|exact zz):ldB ad w K:=by
 subst hA;exact ⟨x,h.cell hc,hk⟩
theorem vj (i:Nat) {w:World} {b:Nat} {cs:Array Value} {ad:Addr} {x:Slc} {K:Slc→Prop} (h:Blk w b cs) (hc:cs[i]? =some x.v) (hk:K x) (hA:ad=⟨b,i,none⟩:=by first|rfl|exact zz):ldS ad w K:=by
 subst hA;exact ⟨x,h.cell hc,hk⟩
theorem xz (i:Nat) {w:World} {b:Nat} {cs:Array Value} {ad:Addr} {k:IntKind} {x:Int} {K:Int→Prop} (h:Blk w b cs) (hc:cs[i]? =some (.int k x)) (hk:K x) (hA:ad=⟨b,i,none⟩:=by first|rfl|exact zz):ldI k ad w K:=by
 subst hA;exact ⟨x,h.cell hc,hk⟩
abbrev c3 (x:Bool) (s:Slc) (e:Int):Array Value:= #[.bool x,s.v, .int .i64 e]
abbrev c2 (x:Bool) (s:Slc):Array Value:= #[.bool x,s.v]
theorem get3 {w} {b:Nat} {x:Bool} {s:Slc} {e:Int} {K:Bool→Slc→Int→Prop} (h:Blk w b (c3 x s e)) (hk:K x s e):ldB ⟨b,0,none⟩ w fun x'=>ldS ((⟨b,0,none⟩:Addr).add 1) w fun s'=>ldI .i64 ((⟨b,0,none⟩:Addr).add 2) w fun e'=>K x' s' e':=
 uu 0 h rfl (vj 1 h rfl (xz 2 h rfl hk))
theorem get2 {w} {b:Nat} {x:Bool} {s:Slc} {cs:Array Value} {K:Bool→Slc→Prop} (h:Blk w b cs) (h0:cs[0]? =some (.bool x)) (h1:cs[1]? =some s.v) (hk:K x s):ldB ⟨b,0,none⟩ w fun x'=>ldS ((⟨b,0,none⟩:Addr).add 1) w fun s'=>K x' s':=
 uu 0 h h0 (vj 1 h h1 hk)
theorem set3 {w} {b:Nat} {x0 x:Bool} {s0 s:Slc} {e0 e:Int} {K:World→Prop} (h:Blk w b (c3 x0 s0 e0)) (hk:∀w',Upd b w w'→Blk w' b (c3 x s e)→K w'):stC ⟨b,0,none⟩ (.bool x) w fun w1=>stC ((⟨b,0,none⟩:Addr).add 1) s.v w1 fun w2=>stC ((⟨b,0,none⟩:Addr).add 2) (.int .i64 e) w2 fun w3=>K w3:=
 p5 0 h (by simp) rfl fun w1 u1 h1=>p5 1 (cs:=c3 x s0 e0) h1 (by simp) rfl fun w2 u2 h2=>p5 2 (cs:=c3 x s e0) h2 (by simp) rfl fun w3 u3 h3=>hk w3 ((u1.trans u2).trans u3) h3
theorem set2 {w} {b:Nat} {x0 x:Bool} {s0 s:Slc} {K:World→Prop} (h:Blk w b (c2 x0 s0)) (hk:∀w',Upd b w w'→Blk w' b (c2 x s)→K w'):stC ⟨b,0,none⟩ (.bool x) w fun w1=>stC ((⟨b,0,none⟩:Addr).add 1) s.v w1 fun w2=>K w2:=
 p5 0 h (by simp) rfl fun w1 u1 h1=>p5 1 (cs:=c2 x s0) h1 (by simp) rfl fun w2 u2 h2=>hk w2 (u1.trans u2) h2
theorem ret3 {w} {b:Nat} {x0 x:Bool} {s0 s:Slc} {e0 e:Int} {K:Bool→Slc→Int→World→Prop} (h:Blk w b (c3 x0 s0 e0)) (hk:∀w',Upd b w w'→Blk w' b (c3 x s e)→K x s e w'):stC ⟨b,0,none⟩ (.bool x) w fun w1=>stC ((⟨b,0,none⟩:Addr).add 1) s.v w1 fun w2=>stC ((⟨b,0,none⟩:Addr).add 2) (.int .i64 e) w2 fun w3=>ldB ⟨b,0,none⟩ w3 fun x'=>ldS ((⟨b,0,none⟩:Addr).add 1) w3 fun s'=>ldI .i64 ((⟨b,0,none⟩:Addr).add 2) w3 fun e'=>K x' s' e' w3:=
 set3 h fun w' u h'=>get3 h' (hk w' u h')
end Sb
end
section
open Go Go.RowKit Eng
open _root_.Go.IntKind (wrap)
def H2 (J0:Slc→Int→Int→World→Prop) (m0:Slc→Int→Int→World→Nat):Nat→Option ((Act→World→Prop)×(Act→World→Nat))
 |0=>some (fun a_ w_=>atSz a_ 20 (atS a_ 5 fun t5=>atI .i64 a_ 6 fun t6=>atI .i64 a_ 7 fun t7=>J0 t5 t6 t7 w_),fun a_ w_=>mS a_ 5 fun t5=>mI a_ 6 fun t6=>mI a_ 7 fun t7=>m0 t5 t6 t7 w_)
 |_=>none
theorem Fw (ab:Slc) (w:World) (R:Ending→World→Prop) (J0:Slc→Int→Int→World→Prop) (m0:Slc→Int→Int→World→Nat) (h:J0 ab (ab.n:Int) 0 w) (h0:∀t5 t6 t7 w_,J0 t5 t6 t7 w_→br (decide (t7<t6)) (semA pr (Instr.indexAt 23 t5.v (vi t7)) w_ fun ad1 w1=>ldI .u64 ad1 w1 fun x1=>br (x1 !=0) (kI 95 #[.int .u64 x1] w1 fun w2 x2=>(R (.returned (vi (wrap .i64 ((wrap .i64 (64*t7))+x2)))) w2)) (J0 t5 t6 (wrap .i64 (t7+1)) w1∧m0 t5 t6 (wrap .i64 (t7+1)) w1<m0 t5 t6 t7 w_)) (R (.returned (vi 0)) w_)):Calls pr 49 #[ab.v] w R:=by
 refine zk (H2 J0 m0) (by kernel_rfl) Tryz.func49 rfl ?_ ?_
 ·refine kcast h ?_;kernel_rfl
 ·exact (za rfl (ze (za rfl (za rfl (ze (yg _ rfl (fun a_ w_ aa=>(by
  obtain ⟨ac,ad,aa⟩:=ya aa
  obtain ⟨t5,ae,aa⟩:=zr aa
  obtain ⟨t6,af,aa⟩:=zq aa
  obtain ⟨t7,ag,aa⟩:=zq aa
  obtain ⟨g0,rfl⟩:∃g,a_=Fr 20 [(5,t5.v),(6,vi t6),(7,vi t7)] g:=⟨_,yp ac ad _ (zf ae (zf af (zf ag yc)))⟩
  clear ac ad ae af ag
  have ah:=aa
  refine ⟨(fun _=>none),kcast (h0 t5 t6 t7 w_ ah) ?_, ?_⟩
  ·kernel_rfl
  ·exact (za rfl (ze (za rfl (zh (zi (ye (za rfl (yh rfl (za rfl (ze (za rfl (ze (zh (za rfl (ze (zg (zi (ze trivial)))))))))))))))))))) (za rfl (ze (zg trivial)))))))))
theorem zat (ab:Slc) (aa:Int) (w:World) (R:Ending→World→Prop) (h:br (decide (aa<0)) (R (.returned (vi 0)) w) (br (decide ((wrap .i64 (Int.tdiv aa 64))≥(ab.n:Int))) (R (.returned (vi 0)) w) (semA pr (Instr.indexAt 23 ab.v (vi (wrap .i64 (Int.tdiv aa 64)))) w fun ad1 w1=>ldI .u64 ad1 w1 fun x1=>semI pr .u64 (binOp .shr 65 (.int .u64 x1) (.int .u64 (wrap .u64 (Int.tmod aa 64)))) w1 fun x2 w2=>R (.returned (vi (wrap .i64 (andI .u64 x2 1)))) w2))):Calls pr 52 #[ab.v,vi aa] w R:=by
 refine zk (fun _=>none) (by kernel_rfl) Tryz.func52 rfl ?_ ?_
 ·refine kcast h ?_;kernel_rfl
 ·exact (za rfl (ze (za rfl (za rfl (ze (zh (za rfl (ze (zg (zi (za rfl (ze (zg trivial)))))))))))))
theorem P4 (aa:Bool) (ab:Slc) (ac:Int) (w:World) (R:Ending→World→Prop) (h:newC w #[.bool aa,ab.v] 25 fun ad1 w1=>newC w1 (zD false nSl 0) 127 fun ad2 w2=>ld2 ad1 w2 fun b1 s1=>kI 82 #[uP b1 s1] w2 fun w3 x1=>(br (x1==0) (xt3 ad2 (.bool false) nSl.v (vi 0) w3 fun w6=>ld3 ad2 w6 fun b2 s2 x2=>R (.returned (uD b2 s2 x2)) w6) (ldS (ad1.add 1) w3 fun s3=>kS 85 #[s3.v] w3 fun w7 s4=>(stC (ad1.add 1) s4.v w7 fun w8=>ldS (ad1.add 1) w8 fun s5=>kI 49 #[s5.v] w8 fun w9 x3=>(br (decide (x3>0)) (ldS (ad1.add 1) w9 fun s6=>kS 166 #[s6.v,vi x3] w9 fun w10 s7=>(stC (ad1.add 1) s7.v w10 fun w11=>ld2 ad1 w11 fun b3 s8=>xD ad2 b3 s8 (wrap .i64 (ac+x3)) w11 fun w14=>ld3 ad2 w14 fun b4 s9 x4=>R (.returned (uD b4 s9 x4)) w14)) (ld2 ad1 w9 fun b5 s10=>xD ad2 b5 s10 (wrap .i64 (ac+x3)) w9 fun w17=>ld3 ad2 w17 fun b6 s11 x5=>R (.returned (uD b6 s11 x5)) w17)))))):Calls pr 134 #[uP aa ab,vi ac] w R:=by
 refine zk (fun _=>none) (by kernel_rfl) Tryz.func134 rfl ?_ ?_
 ·refine kcast h ?_;kernel_rfl
 ·exact (za rfl (ze (za rfl (za rfl (ze (zh (za rfl (ze (zg (zi (za rfl (ze (za rfl (ze (za rfl (za rfl (ze (zh (ze (zi (za rfl (ze (zg trivial)))))))))))))))))))))))
def cu (J0:Slc→Int→Int→Slc→Int→Int→World→Prop) (m0:Slc→Int→Int→Slc→Int→Int→World→Nat):Nat→Option ((Act→World→Prop)×(Act→World→Nat))
 |0=>some (fun a_ w_=>atSz a_ 76 (atS a_ 0 fun t0=>atI .i64 a_ 7 fun t7=>atI .u64 a_ 8 fun t8=>atS a_ 9 fun t9=>atI .i64 a_ 31 fun t31=>atI .i64 a_ 32 fun t32=>J0 t0 t7 t8 t9 t31 t32 w_),fun a_ w_=>mS a_ 0 fun t0=>mI a_ 7 fun t7=>mI a_ 8 fun t8=>mS a_ 9 fun t9=>mI a_ 31 fun t31=>mI a_ 32 fun t32=>m0 t0 t7 t8 t9 t31 t32 w_)
 |_=>none
theorem Z5 (a0:Slc) (a1:Int) (w:World) (R:Ending→World→Prop) (J0:Slc→Int→Int→Slc→Int→Int→World→Prop) (m0:Slc→Int→Int→Slc→Int→Int→World→Nat) (h:Calls pr 174 #[a0.v,vi a1] w fun e1 w1=>∃s1:Slc,∃x1:Int,e1= .returned (.tuple #[s1.v,vi x1])∧(br (x1==0) (R (.returned s1.v) w1) (semS pr (Instr.makeSlice 23 (vi (wrap .i64 ((a0.n:Int) -(wrap .i64 (Int.tdiv a1 64))))) (vi (wrap .i64 ((a0.n:Int) -(wrap .i64 (Int.tdiv a1 64)))))) w1 fun s2 w2=>J0 a0 (wrap .i64 (Int.tdiv a1 64)) (wrap .u64 (Int.tmod a1 64)) s2 (s2.n:Int) 0 w2))) (h0:∀t0 t7 t8 t9 t31 t32 w_,J0 t0 t7 t8 t9 t31 t32 w_→br (decide (t32<t31)) (semA pr (Instr.indexAt 23 t0.v (vi (wrap .i64 (t32+t7)))) w_ fun ad1 w3=>ldI .u64 ad1 w3 fun x2=>semI pr .u64 (binOp .shr 65 (.int .u64 x2) (.int .u64 t8)) w3 fun x3 w4=>semA pr (Instr.indexAt 23 t9.v (vi t32)) w4 fun ad2 w5=>stC ad2 (.int .u64 x3) w5 fun w6=>br (decide (t8>0)) (br (decide ((wrap .i64 ((wrap .i64 (t32+t7))+1))<(t0.n:Int))) (fixA pr (Instr.indexAt 23 t9.v (vi t32)) w6 fun ad3=>ldI .u64 ad3 w6 fun x4=>fixA pr (Instr.indexAt 23 t0.v (vi (wrap .i64 ((wrap .i64 (t32+t7))+1)))) w6 fun ad4=>ldI .u64 ad4 w6 fun x5=>fixI pr .u64 (binOp .shl 65 (.int .u64 x5) (.int .u64 (wrap .u64 (64 -t8)))) w6 fun x6=>fixA pr (Instr.indexAt 23 t9.v (vi t32)) w6 fun ad5=>stC ad5 (.int .u64 (orI .u64 x4 x6)) w6.drew fun w7=>J0 t0 t7 t8 t9 t31 (wrap .i64 (t32+1)) w7∧m0 t0 t7 t8 t9 t31 (wrap .i64 (t32+1)) w7<m0 t0 t7 t8 t9 t31 t32 w_) (J0 t0 t7 t8 t9 t31 (wrap .i64 (t32+1)) w6∧m0 t0 t7 t8 t9 t31 (wrap .i64 (t32+1)) w6<m0 t0 t7 t8 t9 t31 t32 w_)) (J0 t0 t7 t8 t9 t31 (wrap .i64 (t32+1)) w6∧m0 t0 t7 t8 t9 t31 (wrap .i64 (t32+1)) w6<m0 t0 t7 t8 t9 t31 t32 w_)) (kS 85 #[t9.v] w_ fun w8 s3=>(R (.returned s3.v) w8))):Calls pr 166 #[a0.v,vi a1] w R:=by
 refine zk (cu J0 m0) (by kernel_rfl) Tryz.func166 rfl ?_ ?_
 ·refine kcast h ?_;kernel_rfl
 ·exact (za rfl (ze (za rfl (ze (za rfl (za rfl (ze (zh (za rfl (ze (zg (zi (za rfl (ze (za rfl (ze (za rfl (za rfl (ze (yg _ rfl (fun a_ w_ aa=>(by
  obtain ⟨ad,ae,aa⟩:=ya aa
  obtain ⟨t0,af,aa⟩:=zr aa
  obtain ⟨t7,ag,aa⟩:=zq aa
  obtain ⟨t8,ah,aa⟩:=zq aa
  obtain ⟨t9,ai,aa⟩:=zr aa
  obtain ⟨t31,ab,aa⟩:=zq aa
  obtain ⟨t32,ac,aa⟩:=zq aa
  obtain ⟨g0,rfl⟩:∃g,a_=Fr 76 [(0,t0.v),(7,vi t7),(8,Value.int .u64 t8),(9,t9.v),(31,vi t31),(32,vi t32)] g:=⟨_,yp ad ae _ (zf af (zf ag (zf ah (zf ai (zf ab (zf ac yc))))))⟩
  clear ad ae af ag ah ai ab ac
  have aj:=aa
  refine ⟨(fun _=>none),kcast (h0 t0 t7 t8 t9 t31 t32 w_ aj) ?_, ?_⟩
  ·kernel_rfl
  ·exact (za rfl (ze (za rfl (zh (zi (ye (za rfl (yh rfl (za rfl (ze (za rfl (ze (za rfl (ze (zh (jq 16 (by kernel_rfl) (by kernel_rfl) (by kernel_rfl) (by kernel_rfl) (by kernel_rfl) (zi (ze trivial)))))))))))))))))))) (za rfl (ze (zg trivial)))))))))))))))))))))))
theorem T1 (aa:Bool) (ab:Slc) (ac:Int) (w:World) (R:Ending→World→Prop) (h:newC w #[.bool aa,ab.v] 25 fun ad1 w1=>newC w1 (zD false nSl 0) 27 fun ad2 w2=>ld2 ad1 w2 fun b1 s1=>kD 134 #[uP b1 s1,vi ac] w2 fun w3 b2 s2 x1=>(newC w3 (zD false nSl 0) 127 fun ad3 w4=>xD ad3 b2 s2 x1 w4 fun w7=>ld2 ad3 w7 fun b3 s3=>kI 128 #[uP b3 s3] w7 fun w8 x2=>(br (x2==0) (xt3 ad2 (.bool false) nSl.v (vi 0) w8 fun w11=>ld3 ad2 w11 fun b4 s4 x3=>R (.returned (.tuple #[uD b4 s4 x3,vi 0])) w11) (ld2 ad3 w8 fun b5 s5=>kI 135 #[uP b5 s5] w8 fun w12 x4=>(br (decide (x4>67108864)) (xt3 ad2 (.bool false) nSl.v (vi 0) w12 fun w15=>ld3 ad2 w15 fun b6 s6 x5=>R (.returned (.tuple #[uD b6 s6 x5,vi 3])) w15) (ldI .i64 (ad3.add 2) w12 fun x6=>kB 136 #[vi x6] w12 fun w16 b7=>(br (!b7) (xt3 ad2 (.bool false) nSl.v (vi 0) w16 fun w19=>ld3 ad2 w19 fun b8 s7 x7=>R (.returned (.tuple #[uD b8 s7 x7,vi 80])) w19) (ld3 ad3 w16 fun b9 s8 x8=>xD ad2 b9 s8 x8 w16 fun w22=>ld3 ad2 w22 fun b10 s9 x9=>R (.returned (.tuple #[uD b10 s9 x9,vi 0])) w22)))))))):Calls pr 104 #[uP aa ab,vi ac] w R:=by
 refine zk (fun _=>none) (by kernel_rfl) Tryz.func104 rfl ?_ ?_
 ·refine kcast h ?_;kernel_rfl
 ·exact (za rfl (ze (za rfl (ze (za rfl (yh rfl (za rfl (ze (zh (za rfl (ze (zg (za rfl (ze (zh (za rfl (ze (zg (za rfl (ze (zh (za rfl (ze (zg (zi (za rfl (ze (zg trivial))))))))))))))))))))))))))))
theorem T0 (aa:Bool) (ab:Slc) (ac:Int) (w:World) (R:Ending→World→Prop) (h:newC w (zD aa ab ac) 27 fun ad1 w1=>newC w1 (zD false nSl 0) 127 fun ad2 w2=>ldI .i64 (ad1.add 2) w2 fun x1=>kB 136 #[vi x1] w2 fun w3 b1=>(br (!b1) (xt3 ad2 (.bool false) nSl.v (vi 0) w3 fun w6=>ld3 ad2 w6 fun b2 s1 x2=>R (.returned (.tuple #[uD b2 s1 x2,vi 80])) w6) (ld3 ad1 w3 fun b3 s2 x3=>kD 134 #[uP b3 s2,vi x3] w3 fun w7 b4 s3 x4=>(xD ad2 b4 s3 x4 w7 fun w10=>ld3 ad2 w10 fun b5 s4 x5=>R (.returned (.tuple #[uD b5 s4 x5,vi 0])) w10)))):Calls pr 127 #[uD aa ab ac] w R:=by
 refine zk (fun _=>none) (by kernel_rfl) Tryz.func127 rfl ?_ ?_
 ·refine kcast h ?_;kernel_rfl
 ·exact (za rfl (ze (za rfl (za rfl (ze (zh (za rfl (ze (zg (zi (za rfl (ze (zg trivial)))))))))))))
theorem Yz (aa:Int) (w:World) (R:Ending→World→Prop) (h:br (decide (aa≥(-1099511627776))) (R (.returned (.bool (decide (aa≤1099511627776)))) w) (R (.returned (.bool false)) w)):Calls pr 136 #[vi aa] w R:=by
 refine zk (fun _=>none) (by kernel_rfl) Tryz.func136 rfl ?_ ?_
 ·refine kcast h ?_;kernel_rfl
 ·exact (za rfl (ze (za rfl (ze (zg trivial)))))
theorem M0 (aa:Bool) (ab:Slc) (w:World) (R:Ending→World→Prop) (h:newC w #[.bool aa,ab.v] 25 fun ad1 w1=>ldS (ad1.add 1) w1 fun s1=>kI 46 #[s1.v] w1 fun w2 x1=>(br (x1==0) (R (.returned (vi 0)) w2) (ldB ad1 w2 fun b1=>br b1 (R (.returned (vi (-1))) w2) (R (.returned (vi 1)) w2)))):Calls pr 82 #[uP aa ab] w R:=by
 refine zk (fun _=>none) (by kernel_rfl) Tryz.func82 rfl ?_ ?_
 ·refine kcast h ?_;kernel_rfl
 ·exact (za rfl (ze (za rfl (yh rfl (za rfl (ze (zh (za rfl (ze (zg (za rfl (ze (zh (za rfl (ze (zg (zi (za rfl (ze (zg trivial))))))))))))))))))))
theorem Dz (aa:Int) (w:World) (R:Ending→World→Prop) (h:newC w #[.bool false,nSl.v] 25 fun ad1 w1=>br (decide (aa<0)) (kS 84 #[.int .u64 (wrap .u64 (0 -(wrap .u64 aa)))] w1 fun w2 s1=>(xt2 ad1 (.bool true) s1.v w2 fun w4=>ld2 ad1 w4 fun b1 s2=>R (.returned (uP b1 s2)) w4)) (kS 84 #[.int .u64 (wrap .u64 aa)] w1 fun w5 s3=>(xt2 ad1 (.bool false) s3.v w5 fun w7=>ld2 ad1 w7 fun b2 s4=>R (.returned (uP b2 s4)) w7))):Calls pr 83 #[vi aa] w R:=by
 refine zk (fun _=>none) (by kernel_rfl) Tryz.func83 rfl ?_ ?_
 ·refine kcast h ?_;kernel_rfl
 ·exact (za rfl (ze (za rfl (za rfl (ze (zh (za rfl (ze (zg (zi (za rfl (ze (zg trivial)))))))))))))
theorem Mz (aa:Bool) (ab:Slc) (w:World) (R:Ending→World→Prop) (h:newC w #[.bool false,nSl.v] 25 fun ad1 w1=>Calls pr 165 #[uP aa ab] w1 fun e1 w2=>∃b1:Bool,∃s1:Slc,∃x1:Int,e1= .returned (.tuple #[uP b1 s1,vi x1])∧(xt2 ad1 (.bool b1) s1.v w2 fun w4=>ld2 ad1 w4 fun b2 s2=>R (.returned (.tuple #[uP b2 s2,vi x1])) w4)):Calls pr 160 #[.bool aa,ab.v] w R:=by
 refine zk (fun _=>none) (by kernel_rfl) Tryz.func160 rfl ?_ ?_
 ·refine kcast h ?_;kernel_rfl
 ·exact (za rfl (ze (za rfl (ze (zg trivial)))))
theorem G8 (aa:Bool) (ab:Slc) (ac:Bool) (ad:Slc) (w:World) (R:Ending→World→Prop) (h:newC w #[.bool aa,ab.v] 25 fun ad1 w1=>newC w1 #[.bool ac,ad.v] 25 fun ad2 w2=>newC w2 #[.bool false,nSl.v] 25 fun ad3 w3=>∃V1:Nat→Nat→Prop,Out (V1 0) ad1 (ld2 ad1 w3.drew fun b1 s1=>Out (V1 2) ad2 (ld2 ad2 w3.drew fun b2 s2=>Calls pr 172 #[uP b1 s1] w3.drew fun e1 w4=>∃b3:Bool,∃s3:Slc,e1= .returned (uP b3 s3)∧(Bar (V1 2) w3.drew w4∧(Calls pr 172 #[uP b2 s2] w4 fun e2 w5=>∃b4:Bool,∃s4:Slc,e2= .returned (uP b4 s4)∧(xt2 ad1 (.bool b3) s3.v w5 fun w7=>xt2 ad2 (.bool b4) s4.v w7 fun w9=>ldB ad1 w9 fun b5=>ldB ad2 w9 fun b6=>br (b5==b6) (ldS (ad1.add 1) w9 fun s5=>ldS (ad2.add 1) w9 fun s6=>Calls pr 94 #[s5.v,s6.v] w9 fun e3 w10=>∃s7:Slc,∃x1:Int,e3= .returned (.tuple #[s7.v,vi x1])∧(ldB ad1 w10 fun b7=>Calls pr 133 (zD b7 s7 x1) w10 fun e4 w11=>∃b8:Bool,∃s8:Slc,∃x2:Int,e4= .returned (.tuple #[uP b8 s8,vi x2])∧(xt2 ad3 (.bool b8) s8.v w11 fun w13=>ld2 ad3 w13 fun b9 s9=>R (.returned (.tuple #[uP b9 s9,vi x2])) w13))) (ldS (ad1.add 1) w9 fun s10=>ldS (ad2.add 1) w9 fun s11=>kI 81 #[s10.v,s11.v] w9 fun w14 x3=>(br (decide (x3<0)) (ld2 ad2 w14 fun b10 s12=>ld2 ad1 w14 fun b11 s13=>xt2 ad1 (.bool b10) s12.v w14 fun w16=>xt2 ad2 (.bool b11) s13.v w16 fun w18=>ldS (ad1.add 1) w18 fun s14=>ldS (ad2.add 1) w18 fun s15=>Calls pr 158 #[s14.v,s15.v] w18 fun e6 w19=>∃s16:Slc,∃x4:Int,e6= .returned (.tuple #[s16.v,vi x4])∧(ldB ad1 w19 fun b12=>Calls pr 133 (zD b12 s16 x4) w19 fun e7 w20=>∃b13:Bool,∃s17:Slc,∃x5:Int,e7= .returned (.tuple #[uP b13 s17,vi x5])∧(xt2 ad3 (.bool b13) s17.v w20 fun w22=>ld2 ad3 w22 fun b14 s18=>R (.returned (.tuple #[uP b14 s18,vi x5])) w22))) (ldS (ad1.add 1) w14 fun s19=>ldS (ad2.add 1) w14 fun s20=>Calls pr 158 #[s19.v,s20.v] w14 fun e8 w23=>∃s21:Slc,∃x6:Int,e8= .returned (.tuple #[s21.v,vi x6])∧(ldB ad1 w23 fun b15=>Calls pr 133 (zD b15 s21 x6) w23 fun e9 w24=>∃b16:Bool,∃s22:Slc,∃x7:Int,e9= .returned (.tuple #[uP b16 s22,vi x7])∧(xt2 ad3 (.bool b16) s22.v w24 fun w26=>ld2 ad3 w26 fun b17 s23=>R (.returned (.tuple #[uP b17 s23,vi x7])) w26))))))))))):Calls pr 162 #[uP aa ab,uP ac ad] w R:=by
 refine zk (marks [2000001] (fun _=>none)) (by kernel_rfl) Tryz.func162 rfl ?_ ?_
 ·refine kcast h ?_;kernel_rfl
 ·exact (za rfl (ze (za rfl (xq _ rfl (by kernel_rfl) (za rfl (za rfl (ze (zh (za rfl (ze (za rfl (ze (zg (zi (za rfl (za rfl (ze (zh (ze (zi (za rfl (ze (za rfl (ze (zg trivial)))))))))))))))))))))))))
theorem dr (aa:Bool) (ab:Slc) (w:World) (R:Ending→World→Prop) (h:newC w #[.bool aa,ab.v] 125 fun ad1 w1=>ld2 ad1 w1 fun b1 s1=>kI 82 #[uP b1 s1] w1 fun w2 x1=>(R (.returned (vi x1)) w2)):Calls pr 128 #[uP aa ab] w R:=by
 refine zk (fun _=>none) (by kernel_rfl) Tryz.func128 rfl ?_ ?_
 ·refine kcast h ?_;kernel_rfl
 ·exact (za rfl (ze (za rfl (ze (zg trivial)))))
theorem gi (aa:Bool) (ab:Slc) (w:World) (R:Ending→World→Prop) (h:newC w #[.bool aa,ab.v] 125 fun ad1 w1=>ldS (ad1.add 1) w1 fun s1=>kI 46 #[s1.v] w1 fun w2 x1=>(R (.returned (vi x1)) w2)):Calls pr 135 #[uP aa ab] w R:=by
 refine zk (fun _=>none) (by kernel_rfl) Tryz.func135 rfl ?_ ?_
 ·refine kcast h ?_;kernel_rfl
 ·exact (za rfl (ze (za rfl (ze (zg trivial)))))
theorem fp (aa:Bool) (ab:Slc) (ac:Int) (w:World) (R:Ending→World→Prop) (h:newC w (zD aa ab ac) 127 fun ad1 w1=>ldI .i64 (ad1.add 2) w1.drew fun x1=>ld2 ad1 w1.drew fun b1 s1=>kI 135 #[uP b1 s1] w1.drew fun w2 x2=>(Ahead w1.drew w2∧(R (.returned (vi (wrap .i64 ((wrap .i64 (x1+x2)) -1)))) w2))):Calls pr 129 #[uD aa ab ac] w R:=by
 refine zk (fun _=>none) (by kernel_rfl) Tryz.func129 rfl ?_ ?_
 ·refine kcast h ?_;kernel_rfl
 ·exact (za rfl (ze (za rfl (yy (by kernel_rfl) (by kernel_rfl) (by kernel_rfl) (zg trivial)))))
theorem Ub (aa:Bool) (ab:Slc) (ac:Int) (ad:Int) (w:World) (R:Ending→World→Prop) (h:newC w (zD aa ab ac) 27 fun ad1 w1=>newC w1 (zD false nSl 0) 27 fun ad2 w2=>ld3 ad1 w2 fun b1 s1 x1=>kU 127 #[uD b1 s1 x1] w2 fun w3 b2 s2 x2 x3=>(newC w3 (zD false nSl 0) 127 fun ad3 w4=>xD ad3 b2 s2 x2 w4 fun w7=>br (x3 !=0) (xt3 ad2 (.bool false) nSl.v (vi 0) w7 fun w10=>ld3 ad2 w10 fun b3 s3 x4=>R (.returned (.tuple #[uD b3 s3 x4,vi x3])) w10) (kB 136 #[vi ad] w7 fun w11 b4=>(br (!b4) (xt3 ad2 (.bool false) nSl.v (vi 0) w11 fun w14=>ld3 ad2 w14 fun b5 s4 x5=>R (.returned (.tuple #[uD b5 s4 x5,vi 1])) w14) (ld3 ad3 w11 fun b6 s5 x6=>kU 104 #[uP b6 s5,vi (wrap .i64 (x6+ad))] w11 fun w15 b7 s6 x7 x8=>(xD ad2 b7 s6 x7 w15 fun w18=>ld3 ad2 w18 fun b8 s7 x9=>R (.returned (.tuple #[uD b8 s7 x9,vi x8])) w18)))))):Calls pr 138 #[uD aa ab ac,vi ad] w R:=by
 refine zk (fun _=>none) (by kernel_rfl) Tryz.func138 rfl ?_ ?_
 ·refine kcast h ?_;kernel_rfl
 ·exact (za rfl (ze (za rfl (ze (za rfl (za rfl (ze (zh (za rfl (ze (zg (zi (za rfl (za rfl (ze (zh (za rfl (ze (zg (zi (za rfl (ze (zg trivial)))))))))))))))))))))))
theorem Tt (aa:Bool) (ab:Slc) (ac:Int) (w:World) (R:Ending→World→Prop) (h:newC w (zD aa ab ac) 27 fun ad1 w1=>ld2 ad1 w1 fun b1 s1=>kI 82 #[uP b1 s1] w1 fun w2 x1=>(R (.returned (vi x1)) w2)):Calls pr 37 #[uD aa ab ac] w R:=by
 refine zk (fun _=>none) (by kernel_rfl) Tryz.func37 rfl ?_ ?_
 ·refine kcast h ?_;kernel_rfl
 ·exact (za rfl (ze (za rfl (ze (zg trivial)))))
def Uc (J0:Int→Int→Slc→Slc→Int→Int→World→Prop) (m0:Int→Int→Slc→Slc→Int→Int→World→Nat):Nat→Option ((Act→World→Prop)×(Act→World→Nat))
 |0=>some (fun a_ w_=>atSz a_ 65 (atI .i64 a_ 7 fun t7=>atI .u64 a_ 8 fun t8=>atS a_ 9 fun t9=>atS a_ 32 fun t32=>atI .i64 a_ 33 fun t33=>atI .i64 a_ 34 fun t34=>J0 t7 t8 t9 t32 t33 t34 w_),fun a_ w_=>mI a_ 7 fun t7=>mI a_ 8 fun t8=>mS a_ 9 fun t9=>mS a_ 32 fun t32=>mI a_ 33 fun t33=>mI a_ 34 fun t34=>m0 t7 t8 t9 t32 t33 t34 w_)
 |_=>none
theorem Tu (a0:Slc) (a1:Int) (w:World) (R:Ending→World→Prop) (J0:Int→Int→Slc→Slc→Int→Int→World→Prop) (m0:Int→Int→Slc→Slc→Int→Int→World→Nat) (h:Calls pr 159 #[a0.v,vi a1] w fun e1 w1=>∃s1:Slc,∃x1:Int,e1= .returned (.tuple #[s1.v,vi x1])∧(br (x1==0) (R (.returned s1.v) w1) (semS pr (Instr.makeSlice 23 (vi (wrap .i64 ((wrap .i64 ((a0.n:Int)+(wrap .i64 (Int.tdiv a1 64))))+1))) (vi (wrap .i64 ((wrap .i64 ((a0.n:Int)+(wrap .i64 (Int.tdiv a1 64))))+1)))) w1 fun s2 w2=>J0 (wrap .i64 (Int.tdiv a1 64)) (wrap .u64 (Int.tmod a1 64)) s2 a0 (a0.n:Int) 0 w2))) (h0:∀t7 t8 t9 t32 t33 t34 w_,J0 t7 t8 t9 t32 t33 t34 w_→br (decide (t34<t33)) (semA pr (Instr.indexAt 23 t32.v (vi t34)) w_ fun ad1 w3=>ldI .u64 ad1 w3 fun x2=>semA pr (Instr.indexAt 23 t9.v (vi (wrap .i64 (t34+t7)))) w3 fun ad2 w4=>ldI .u64 ad2 w4 fun x3=>semI pr .u64 (binOp .shl 65 (.int .u64 x2) (.int .u64 t8)) w4 fun x4 w5=>semA pr (Instr.indexAt 23 t9.v (vi (wrap .i64 (t34+t7)))) w5 fun ad3 w6=>stC ad3 (.int .u64 (orI .u64 x3 x4)) w6 fun w7=>br (decide (t8>0)) (semI pr .u64 (binOp .shr 65 (.int .u64 x2) (.int .u64 (wrap .u64 (64 -t8)))) w7 fun x5 w8=>semA pr (Instr.indexAt 23 t9.v (vi (wrap .i64 ((wrap .i64 (t34+t7))+1)))) w8 fun ad4 w9=>stC ad4 (.int .u64 x5) w9 fun w10=>J0 t7 t8 t9 t32 t33 (wrap .i64 (t34+1)) w10∧m0 t7 t8 t9 t32 t33 (wrap .i64 (t34+1)) w10<m0 t7 t8 t9 t32 t33 t34 w_) (J0 t7 t8 t9 t32 t33 (wrap .i64 (t34+1)) w7∧m0 t7 t8 t9 t32 t33 (wrap .i64 (t34+1)) w7<m0 t7 t8 t9 t32 t33 t34 w_)) (kS 85 #[t9.v] w_ fun w11 s3=>(R (.returned s3.v) w11))):Calls pr 130 #[a0.v,vi a1] w R:=by
 refine zk (Uc J0 m0) (by kernel_rfl) Tryz.func130 rfl ?_ ?_
 ·refine kcast h ?_;kernel_rfl
 ·exact (za rfl (ze (za rfl (ze (za rfl (za rfl (ze (zh (za rfl (ze (zg (zi (za rfl (ze (za rfl (ze (za rfl (za rfl (ze (yg _ rfl (fun a_ w_ aa=>(by
  obtain ⟨ae,af,aa⟩:=ya aa
  obtain ⟨t7,ag,aa⟩:=zq aa
  obtain ⟨t8,ah,aa⟩:=zq aa
  obtain ⟨t9,ai,aa⟩:=zr aa
  obtain ⟨t32,ab,aa⟩:=zr aa
  obtain ⟨t33,ac,aa⟩:=zq aa
  obtain ⟨t34,ad,aa⟩:=zq aa
  obtain ⟨g0,rfl⟩:∃g,a_=Fr 65 [(7,vi t7),(8,Value.int .u64 t8),(9,t9.v),(32,t32.v),(33,vi t33),(34,vi t34)] g:=⟨_,yp ae af _ (zf ag (zf ah (zf ai (zf ab (zf ac (zf ad yc))))))⟩
  clear ae af ag ah ai ab ac ad
  have aj:=aa
  refine ⟨(fun _=>none),kcast (h0 t7 t8 t9 t32 t33 t34 w_ aj) ?_, ?_⟩
  ·kernel_rfl
  ·exact (za rfl (ze (za rfl (zh (zi (ye (za rfl (yh rfl (za rfl (ze (za rfl (ze (za rfl (ze (zh (ze (zi (ze trivial)))))))))))))))))))) (za rfl (ze (zg trivial)))))))))))))))))))))))
theorem Z2 (aa:Bool) (ab:Slc) (ac:Int) (ad:Bool) (ae:Slc) (af:Int) (w:World) (R:Ending→World→Prop) (h:newC w (zD aa ab ac) 127 fun ad1 w1=>newC w1 (zD ad ae af) 127 fun ad2 w2=>ld2 ad1 w2.drew fun b1 s1=>ld2 ad2 w2.drew fun b2 s2=>kI 128 #[uP b1 s1] w2.drew fun w3 x1=>(Ahead w2.drew w3∧(kI 128 #[uP b2 s2] w3 fun w4 x2=>(Ahead w3 w4∧(br (decide (x1<x2)) (R (.returned (vi (-1))) w4) (br (decide (x1>x2)) (R (.returned (vi 1)) w4) (br (x1==0) (R (.returned (vi 0)) w4) (ld3 ad1 w4.drew fun b3 s3 x3=>ld3 ad2 w4.drew fun b4 s4 x4=>kI 129 #[uD b3 s3 x3] w4.drew fun w5 x5=>(Ahead w4.drew w5∧(kI 129 #[uD b4 s4 x4] w5 fun w6 x6=>(Ahead w5 w6∧(br (x5 !=x6) (ld3 ad1 w6.drew fun b5 s5 x7=>ld3 ad2 w6.drew fun b6 s6 x8=>kI 129 #[uD b5 s5 x7] w6.drew fun w7 x9=>(Ahead w6.drew w7∧(kI 129 #[uD b6 s6 x8] w7 fun w8 x10=>(Ahead w7 w8∧(br (decide (x9<x10)) (R (.returned (vi (wrap .i64 (0 -x1)))) w8) (R (.returned (vi x1)) w8)))))) (ldS (ad1.add 1) w6 fun s7=>ldS (ad2.add 1) w6 fun s8=>∀w9,Ahead w6 w9→(ldI .i64 (ad1.add 2) w9 fun x11=>ldI .i64 (ad2.add 2) w9 fun x12=>br (decide (x11>x12)) (ldI .i64 (ad1.add 2) w9 fun x13=>ldI .i64 (ad2.add 2) w9 fun x14=>kS 130 #[s7.v,vi (wrap .i64 (x13 -x14))] w9 fun w10 s9=>(kI 81 #[s9.v,s8.v] w10 fun w11 x15=>(R (.returned (vi (wrap .i64 (x1*x15)))) w11))) (ldI .i64 (ad2.add 2) w9 fun x16=>ldI .i64 (ad1.add 2) w9 fun x17=>kS 130 #[s8.v,vi (wrap .i64 (x16 -x17))] w9 fun w12 s10=>(kI 81 #[s7.v,s10.v] w12 fun w13 x18=>(R (.returned (vi (wrap .i64 (x1*x18)))) w13))))))))))))))))):Calls pr 100 #[uD aa ab ac,uD ad ae af] w R:=by
 refine zk (fun _=>none) (by kernel_rfl) Tryz.func100 rfl ?_ ?_
 ·refine kcast h ?_;kernel_rfl
 ·exact (za rfl (ze (za rfl (yy (by kernel_rfl) (by kernel_rfl) (by kernel_rfl) (za rfl (yh rfl (za rfl (ze (zh (za rfl (ze (zg (za rfl (ze (zh (za rfl (ze (zg (za rfl (ze (zh (za rfl (ze (zg (zi (za rfl (za rfl (yy (by kernel_rfl) (by kernel_rfl) (by kernel_rfl) (zh (za rfl (za rfl (yy (by kernel_rfl) (by kernel_rfl) (by kernel_rfl) (zh (za rfl (ze (zg (zi (za rfl (ze (zg (zi (za rfl (qd (by kernel_rfl) (by kernel_rfl) (by kernel_rfl) (by kernel_rfl) (za rfl (za rfl (ze (zh (ze (ze (za rfl (ze (zg trivial))))))))))))))))))))))))))))))))))))))))))))))))))))
theorem Z0 (aa:Bool) (ab:Slc) (ac:Int) (ad:Bool) (ae:Slc) (af:Int) (w:World) (R:Ending→World→Prop) (h:newC w (zD aa ab ac) 27 fun ad1 w1=>newC w1 (zD ad ae af) 27 fun ad2 w2=>ld3 ad1 w2 fun b1 s1 x1=>ld3 ad2 w2 fun b2 s2 x2=>Calls pr 99 #[uD b1 s1 x1,uD b2 s2 x2] w2 fun e1 w3=>∃b3:Bool,∃s3:Slc,∃x3:Int,∃b4:Bool,∃s4:Slc,∃x4:Int,∃x5:Int,e1= .returned (.tuple #[uD b3 s3 x3,uD b4 s4 x4,vi x5])∧(newC w3 (zD false nSl 0) 127 fun ad3 w4=>newC w4 (zD false nSl 0) 127 fun ad4 w5=>xD ad3 b3 s3 x3 w5 fun w8=>xD ad4 b4 s4 x4 w8 fun w11=>br (x5 !=0) (R (.returned (.tuple #[vi 0,vi x5])) w11) (ld3 ad3 w11 fun b5 s5 x6=>ld3 ad4 w11 fun b6 s6 x7=>kI 100 #[uD b5 s5 x6,uD b6 s6 x7] w11 fun w12 x8=>(R (.returned (.tuple #[vi x8,vi 0])) w12)))):Calls pr 59 #[uD aa ab ac,uD ad ae af] w R:=by
 refine zk (fun _=>none) (by kernel_rfl) Tryz.func59 rfl ?_ ?_
 ·refine kcast h ?_;kernel_rfl
 ·exact (za rfl (ze (za rfl (ze (za rfl (za rfl (ze (zh (za rfl (ze (zg (zi (za rfl (ze (zg trivial)))))))))))))))
theorem Py (aa:Bool) (ab:Slc) (ac:Int) (ad:Bool) (ae:Slc) (af:Int) (w:World) (R:Ending→World→Prop) (h:newC w (zD aa ab ac) 27 fun ad1 w1=>newC w1 (zD ad ae af) 27 fun ad2 w2=>newC w2 (zD false nSl 0) 27 fun ad3 w3=>ld3 ad1 w3 fun b1 s1 x1=>ld3 ad2 w3 fun b2 s2 x2=>kU 106 #[uD b1 s1 x1,uD b2 s2 x2,vi (-1)] w3 fun w4 b3 s3 x3 x4=>(xD ad3 b3 s3 x3 w4 fun w7=>ld3 ad3 w7 fun b4 s4 x5=>R (.returned (.tuple #[uD b4 s4 x5,vi x4])) w7)):Calls pr 70 #[uD aa ab ac,uD ad ae af] w R:=by
 refine zk (fun _=>none) (by kernel_rfl) Tryz.func70 rfl ?_ ?_
 ·refine kcast h ?_;kernel_rfl
 ·exact (za rfl (ze (za rfl (ze (zg trivial)))))
theorem Pw (aa:Bool) (ab:Slc) (ac:Int) (ad:Bool) (ae:Slc) (af:Int) (w:World) (R:Ending→World→Prop) (h:newC w (zD aa ab ac) 27 fun ad1 w1=>newC w1 (zD ad ae af) 27 fun ad2 w2=>newC w2 (zD false nSl 0) 27 fun ad3 w3=>ld3 ad1 w3 fun b1 s1 x1=>ld3 ad2 w3 fun b2 s2 x2=>kU 106 #[uD b1 s1 x1,uD b2 s2 x2,vi 1] w3 fun w4 b3 s3 x3 x4=>(xD ad3 b3 s3 x3 w4 fun w7=>ld3 ad3 w7 fun b4 s4 x5=>R (.returned (.tuple #[uD b4 s4 x5,vi x4])) w7)):Calls pr 71 #[uD aa ab ac,uD ad ae af] w R:=by
 refine zk (fun _=>none) (by kernel_rfl) Tryz.func71 rfl ?_ ?_
 ·refine kcast h ?_;kernel_rfl
 ·exact (za rfl (ze (za rfl (ze (zg trivial)))))
theorem Ua (ab:Bool) (ac:Slc) (ad:Int) (aa:Int) (ae:Int) (w:World) (R:Ending→World→Prop) (h:newC w (zD ab ac ad) 27 fun ad1 w1=>newC w1 (zD false nSl 0) 27 fun ad2 w2=>ld3 ad1 w2 fun b1 s1 x1=>kU 127 #[uD b1 s1 x1] w2 fun w3 b2 s2 x2 x3=>(newC w3 (zD false nSl 0) 127 fun ad3 w4=>xD ad3 b2 s2 x2 w4 fun w7=>br (x3 !=0) (xt3 ad2 (.bool false) nSl.v (vi 0) w7 fun w10=>ld3 ad2 w10 fun b3 s3 x4=>R (.returned (.tuple #[uD b3 s3 x4,vi x3])) w10) (kB 136 #[vi aa] w7 fun w11 b4=>(br (!b4) (xt3 ad2 (.bool false) nSl.v (vi 0) w11 fun w14=>ld3 ad2 w14 fun b5 s4 x5=>R (.returned (.tuple #[uD b5 s4 x5,vi 1])) w14) (kB 163 #[vi ae] w11 fun w15 b6=>(br (!b6) (xt3 ad2 (.bool false) nSl.v (vi 0) w15 fun w18=>ld3 ad2 w18 fun b7 s5 x6=>R (.returned (.tuple #[uD b7 s5 x6,vi 81])) w18) (ld3 ad3 w15 fun b8 s6 x7=>kU 164 #[uD b8 s6 x7,vi aa,vi ae] w15 fun w19 b9 s7 x8 x9=>(xD ad2 b9 s7 x8 w19 fun w22=>ld3 ad2 w22 fun b10 s8 x10=>R (.returned (.tuple #[uD b10 s8 x10,vi x9])) w22)))))))):Calls pr 132 #[uD ab ac ad,vi aa,vi ae] w R:=by
 refine zk (fun _=>none) (by kernel_rfl) Tryz.func132 rfl ?_ ?_
 ·refine kcast h ?_;kernel_rfl
 ·exact (za rfl (ze (za rfl (ze (za rfl (yh rfl (za rfl (ze (zh (za rfl (ze (zg (za rfl (ze (zh (za rfl (ze (zg (za rfl (ze (zh (za rfl (ze (zg (zi (za rfl (ze (zg trivial))))))))))))))))))))))))))))
theorem Z4 (ab:Bool) (ac:Slc) (ad:Int) (aa:Int) (ae:Int) (w:World) (R:Ending→World→Prop) (h:newC w (zD ab ac ad) 127 fun ad1 w1=>newC w1 (zD false nSl 0) 27 fun ad2 w2=>ld2 ad1 w2 fun b1 s1=>kI 128 #[uP b1 s1] w2 fun w3 x1=>(br (x1==0) (ld3 ad1 w3 fun b2 s2 x2=>kU 104 #[uP b2 s2,vi x2] w3 fun w4 b3 s3 x3 x4=>(xD ad2 b3 s3 x3 w4 fun w7=>ld3 ad2 w7 fun b4 s4 x5=>R (.returned (.tuple #[uD b4 s4 x5,vi x4])) w7)) (ldI .i64 (ad1.add 2) w3 fun x6=>br (decide (x6≥aa)) (ld3 ad1 w3 fun b5 s5 x7=>kU 104 #[uP b5 s5,vi x7] w3 fun w8 b6 s6 x8 x9=>(xD ad2 b6 s6 x8 w8 fun w11=>ld3 ad2 w11 fun b7 s7 x10=>R (.returned (.tuple #[uD b7 s7 x10,vi x9])) w11)) (ld3 ad1 w3 fun b8 s8 x11=>Calls pr 173 #[uD b8 s8 x11,vi aa,vi ae] w3 fun e4 w12=>∃b9:Bool,∃s9:Slc,e4= .returned (uP b9 s9)∧(kU 104 #[uP b9 s9,vi aa] w12 fun w13 b10 s10 x12 x13=>(xD ad2 b10 s10 x12 w13 fun w16=>ld3 ad2 w16 fun b11 s11 x14=>R (.returned (.tuple #[uD b11 s11 x14,vi x13])) w16)))))):Calls pr 164 #[uD ab ac ad,vi aa,vi ae] w R:=by
 refine zk (fun _=>none) (by kernel_rfl) Tryz.func164 rfl ?_ ?_
 ·refine kcast h ?_;kernel_rfl
 ·exact (za rfl (ze (za rfl (za rfl (ze (zh (za rfl (ze (zg (zi (za rfl (ze (zg trivial)))))))))))))
def qj (K3:Int→Int→Addr→Addr→Bool→World→Prop) (K8:Int→Addr→Addr→Int→Slc→World→Prop) (K16:Addr→Addr→Slc→Bool→World→Prop):Nat→Option ((Act→World→Prop)×(Act→World→Nat))
 |3000003=>some (fun a_ w_=>atSz a_ 98 (atI .i64 a_ 1 fun t1=>atI .i64 a_ 2 fun t2=>atA a_ 3 fun t3=>atA a_ 6 fun t6=>atB a_ 19 fun t19=>K3 t1 t2 t3 t6 t19 w_),fun _ _=>0)
 |3000008=>some (fun a_ w_=>atSz a_ 98 (atI .i64 a_ 2 fun t2=>atA a_ 3 fun t3=>atA a_ 6 fun t6=>atI .i64 a_ 7 fun t7=>atS a_ 8 fun t8=>K8 t2 t3 t6 t7 t8 w_),fun _ _=>0)
 |3000016=>some (fun a_ w_=>atSz a_ 98 (atA a_ 3 fun t3=>atA a_ 6 fun t6=>atS a_ 8 fun t8=>atB a_ 9 fun t9=>K16 t3 t6 t8 t9 w_),fun _ _=>0)
 |_=>none
theorem Uf (an:Bool) (ao:Slc) (ap:Int) (a1:Int) (a2:Int) (w:World) (R:Ending→World→Prop) (K3:Int→Int→Addr→Addr→Bool→World→Prop) (K8:Int→Addr→Addr→Int→Slc→World→Prop) (K16:Addr→Addr→Slc→Bool→World→Prop) (h:newC w (zD an ao ap) 127 fun ad1 w1=>newC w1 #[.bool false,nSl.v] 25 fun ad2 w2=>ld2 ad1 w2 fun b1 s1=>kI 128 #[uP b1 s1] w2 fun w3 x1=>(br (x1==0) (K3 a1 a2 ad1 ad2 true w3) (ldI .i64 (ad1.add 2) w3 fun x8=>K3 a1 a2 ad1 ad2 (decide (x8≥a1)) w3))) (ak:∀t1 t2 t3 t6 t19 w_,K3 t1 t2 t3 t6 t19 w_→br t19 (ld3 t3 w_.drew fun b2 s2 x2=>kS 130 #[s2.v,vi (maxI (wrap .i64 (x2 -t1)) 0)] w_.drew fun w4 s3=>(Ahead w_.drew w4∧(xt2 t6 (.bool b2) s3.v w4 fun w6=>ld2 t6 w6 fun b3 s4=>R (.returned (uP b3 s4)) w6))) (ldI .i64 (t3.add 2) w_ fun x3=>ld2 t3 w_ fun b4 s5=>kI 135 #[uP b4 s5] w_ fun w7 x4=>(br (decide ((wrap .i64 (t1 -x3))<x4)) (ldS (t3.add 1) w7 fun s6=>kS 166 #[s6.v,vi (wrap .i64 (t1 -x3))] w7 fun w8 s7=>(K8 t2 t3 t6 (wrap .i64 (t1 -x3)) s7 w8)) (K8 t2 t3 t6 (wrap .i64 (t1 -x3)) nSl w7)))) (al:∀t2 t3 t6 t7 t8 w_,K8 t2 t3 t6 t7 t8 w_→br (t2==2) (ldS (t3.add 1) w_ fun s8=>kI 52 #[s8.v,vi (wrap .i64 (t7 -1))] w_ fun w9 x5=>(br (x5==1) (ldS (t3.add 1) w9 fun s9=>kI 49 #[s9.v] w9 fun w10 x6=>(br (decide (x6<(wrap .i64 (t7 -1)))) (K16 t3 t6 t8 true w10) (kI 52 #[t8.v,vi 0] w10 fun w17 x7=>(br (!(x7==1)) (K16 t3 t6 t8 false w17) (K16 t3 t6 t8 true w17))))) (K16 t3 t6 t8 false w9))) (br (t2==0) (ldB t3 w_ fun b9=>K16 t3 t6 t8 b9 w_) (ldB t3 w_ fun b10=>K16 t3 t6 t8 (!b10) w_))) (am:∀t3 t6 t8 t9 w_,K16 t3 t6 t8 t9 w_→br t9 (kS 84 #[.int .u64 1] w_ fun w11 s10=>(kS 171 #[t8.v,s10.v] w11 fun w12 s11=>(ldB t3 w12 fun b5=>xt2 t6 (.bool b5) s11.v w12 fun w14=>ld2 t6 w14 fun b6 s12=>R (.returned (uP b6 s12)) w14))) (ldB t3 w_ fun b7=>xt2 t6 (.bool b7) t8.v w_ fun w16=>ld2 t6 w16 fun b8 s13=>R (.returned (uP b8 s13)) w16)):Calls pr 173 #[uD an ao ap,vi a1,vi a2] w R:=by
 refine zk (qj K3 K8 K16) (by kernel_rfl) Tryz.func173 rfl ?_ ?_
 ·refine kcast h ?_;kernel_rfl
 ·exact (za rfl (ze (za rfl (xr _ rfl (ze (za rfl (ze (za rfl (ze (xr _ rfl (za rfl (ze (zh (ze (zi trivial))))) (fun a_ w_ aa=>(by
  obtain ⟨ab,ac,aa⟩:=ya aa
  obtain ⟨t2,ai,aa⟩:=zq aa
  obtain ⟨t3,ad,aa⟩:=yf aa
  obtain ⟨t6,ae,aa⟩:=yf aa
  obtain ⟨t7,ar,aa⟩:=zq aa
  obtain ⟨t8,aj,aa⟩:=zr aa
  obtain ⟨aw,rfl⟩:∃g,a_=Fr 98 [(2,vi t2),(3,vp t3),(6,vp t6),(7,vi t7),(8,t8.v)] g:=⟨_,yp ab ac _ (zf ai (zf ad (zf ae (zf ar (zf aj yc)))))⟩
  clear ab ac ai ad ae ar aj
  have af:=aa
  refine ⟨(qj K3 K8 K16),kcast (al t2 t3 t6 t7 t8 w_ af) ?_, ?_⟩
  ·kernel_rfl
  ·exact (za rfl (ze (xr _ rfl (za rfl (ze (yh rfl (za rfl (ze (zh (za rfl (za rfl (ze (zh (ye (zi (ze (za rfl (ze (zh (ze (ze trivial)))))))))))))))))) (fun a_ w_ aa=>(by
   obtain ⟨ab,ac,aa⟩:=ya aa
   obtain ⟨t3,ad,aa⟩:=yf aa
   obtain ⟨t6,ae,aa⟩:=yf aa
   obtain ⟨t8,aj,aa⟩:=zr aa
   obtain ⟨t9,au,aa⟩:=th aa
   obtain ⟨ax,rfl⟩:∃g,a_=Fr 98 [(3,vp t3),(6,vp t6),(8,t8.v),(9,Value.bool t9)] g:=⟨_,yp ab ac _ (zf ad (zf ae (zf aj (zf au yc))))⟩
   clear ab ac ad ae aj au
   have ag:=aa
   refine ⟨(qj K3 K8 K16),kcast (am t3 t6 t8 t9 w_ ag) ?_, ?_⟩
   ·kernel_rfl
   ·exact (za rfl (za rfl (ze (zh (ze (zi (za rfl (ze (zg trivial)))))))))))))))))))))) (fun a_ w_ aa=>(by
  obtain ⟨ab,ac,aa⟩:=ya aa
  obtain ⟨t1,av,aa⟩:=zq aa
  obtain ⟨t2,ai,aa⟩:=zq aa
  obtain ⟨t3,ad,aa⟩:=yf aa
  obtain ⟨t6,ae,aa⟩:=yf aa
  obtain ⟨t19,aq,aa⟩:=th aa
  obtain ⟨ay,rfl⟩:∃g,a_=Fr 98 [(1,vi t1),(2,vi t2),(3,vp t3),(6,vp t6),(19,Value.bool t19)] g:=⟨_,yp ab ac _ (zf av (zf ai (zf ad (zf ae (zf aq yc)))))⟩
  clear ab ac av ai ad ae aq
  have ah:=aa
  refine ⟨(qj K3 K8 K16),kcast (ak t1 t2 t3 t6 t19 w_ ah) ?_, ?_⟩
  ·kernel_rfl
  ·exact (zh (za rfl (yy (by kernel_rfl) (by kernel_rfl) (by kernel_rfl) (zg (zi trivial)))))))))))
theorem dq (aa:Int) (w:World) (R:Ending→World→Prop) (h:br (aa==0) (R (.returned (.bool true)) w) (br (aa==1) (R (.returned (.bool true)) w) (R (.returned (.bool (aa==2))) w))):Calls pr 163 #[vi aa] w R:=by
 refine zk (fun _=>none) (by kernel_rfl) Tryz.func163 rfl ?_ ?_
 ·refine kcast h ?_;kernel_rfl
 ·exact (za rfl (ze (za rfl (ze (zg trivial)))))
def Ud (J0:Slc→Slc→Slc→Int→Int→Int→World→Prop) (m0:Slc→Slc→Slc→Int→Int→Int→World→Nat):Nat→Option ((Act→World→Prop)×(Act→World→Nat))
 |0=>some (fun a_ w_=>atSz a_ 51 (atS a_ 0 fun t0_a=>atS a_ 1 fun t1_b=>atS a_ 5 fun t5_out=>atI .u64 a_ 6 fun t6_carry=>atI .i64 a_ 20 fun t20=>atI .i64 a_ 21 fun t21=>J0 t0_a t1_b t5_out t6_carry t20 t21 w_),fun a_ w_=>mS a_ 0 fun t0_a=>mS a_ 1 fun t1_b=>mS a_ 5 fun t5_out=>mI a_ 6 fun t6_carry=>mI a_ 20 fun t20=>mI a_ 21 fun t21=>m0 t0_a t1_b t5_out t6_carry t20 t21 w_)
 |_=>none
theorem Tz (af:Slc) (ag:Slc) (w:World) (R:Ending→World→Prop) (J0:Slc→Slc→Slc→Int→Int→Int→World→Prop) (m0:Slc→Slc→Slc→Int→Int→Int→World→Nat) (h:semS pr (Instr.makeSlice 23 (vi (wrap .i64 ((maxI (af.n:Int) (ag.n:Int))+1))) (vi (wrap .i64 ((maxI (af.n:Int) (ag.n:Int))+1)))) w fun s1 w1=>J0 af ag s1 0 (s1.n:Int) 0 w1) (h0:∀ac ad aa ab t20 t21 w_,J0 ac ad aa ab t20 t21 w_→br (decide (t21<t20)) (Calls pr 175 #[ac.v,vi t21] w_ fun e1 w2=>∃x1:Int,e1= .returned (.int .u64 x1)∧(Calls pr 175 #[ad.v,vi t21] w2 fun e2 w3=>∃x2:Int,e2= .returned (.int .u64 x2)∧(br (decide ((wrap .u64 (x1+x2))<x1)) (semA pr (Instr.indexAt 23 aa.v (vi t21)) w3 fun ad1 w4=>stC ad1 (.int .u64 (wrap .u64 ((wrap .u64 (x1+x2))+ab))) w4 fun w5=>J0 ac ad aa 1 t20 (wrap .i64 (t21+1)) w5∧m0 ac ad aa 1 t20 (wrap .i64 (t21+1)) w5<m0 ac ad aa ab t20 t21 w_) (br (decide ((wrap .u64 ((wrap .u64 (x1+x2))+ab))<(wrap .u64 (x1+x2)))) (semA pr (Instr.indexAt 23 aa.v (vi t21)) w3 fun ad2 w6=>stC ad2 (.int .u64 (wrap .u64 ((wrap .u64 (x1+x2))+ab))) w6 fun w7=>J0 ac ad aa 1 t20 (wrap .i64 (t21+1)) w7∧m0 ac ad aa 1 t20 (wrap .i64 (t21+1)) w7<m0 ac ad aa ab t20 t21 w_) (semA pr (Instr.indexAt 23 aa.v (vi t21)) w3 fun ad3 w8=>stC ad3 (.int .u64 (wrap .u64 ((wrap .u64 (x1+x2))+ab))) w8 fun w9=>J0 ac ad aa 0 t20 (wrap .i64 (t21+1)) w9∧m0 ac ad aa 0 t20 (wrap .i64 (t21+1)) w9<m0 ac ad aa ab t20 t21 w_))))) (kS 85 #[aa.v] w_ fun w10 s2=>(R (.returned s2.v) w10))):Calls pr 171 #[af.v,ag.v] w R:=by
 refine zk (Ud J0 m0) (by kernel_rfl) Tryz.func171 rfl ?_ ?_
 ·refine kcast h ?_;kernel_rfl
 ·exact (za rfl (ze (za rfl (ze (za rfl (ze (za rfl (za rfl (ze (yg _ rfl (fun a_ w_ ae=>(by
  obtain ⟨aj,ak,ae⟩:=ya ae
  obtain ⟨ac,al,ae⟩:=zr ae
  obtain ⟨ad,am,ae⟩:=zr ae
  obtain ⟨aa,an,ae⟩:=zr ae
  obtain ⟨ab,ao,ae⟩:=zq ae
  obtain ⟨t20,ah,ae⟩:=zq ae
  obtain ⟨t21,ai,ae⟩:=zq ae
  obtain ⟨g0,rfl⟩:∃g,a_=Fr 51 [(0,ac.v),(1,ad.v),(5,aa.v),(6,Value.int .u64 ab),(20,vi t20),(21,vi t21)] g:=⟨_,yp aj ak _ (zf al (zf am (zf an (zf ao (zf ah (zf ai yc))))))⟩
  clear aj ak al am an ao ah ai
  have ap:=ae
  refine ⟨(fun _=>none),kcast (h0 ac ad aa ab t20 t21 w_ ap) ?_, ?_⟩
  ·kernel_rfl
  ·exact (za rfl (ze (za rfl (zh (zi (ye (za rfl (yh rfl (za rfl (ze (za rfl (ze (za rfl (ze (za rfl (ze (za rfl (ze (za rfl (za rfl (ze (zh (ze (zi (ze (ze trivial)))))))))))))))))))))))))))) (za rfl (ze (zg trivial)))))))))))))
theorem Tv (aa:Slc) (ab:Int) (w:World) (R:Ending→World→Prop) (h:br (decide (ab<(aa.n:Int))) (semA pr (Instr.indexAt 23 aa.v (vi ab)) w fun ad1 w1=>ldI .u64 ad1 w1 fun x1=>R (.returned (.int .u64 x1)) w1) (R (.returned (.int .u64 0)) w)):Calls pr 175 #[aa.v,vi ab] w R:=by
 refine zk (fun _=>none) (by kernel_rfl) Tryz.func175 rfl ?_ ?_
 ·refine kcast h ?_;kernel_rfl
 ·exact (za rfl (ze (za rfl (za rfl (ze (zh (za rfl (ze (zg (zi (za rfl (ze (zg trivial)))))))))))))
theorem Pu (aa:Bool) (ab:Slc) (ac:Int) (ad:Bool) (ae:Slc) (af:Int) (w:World) (R:Ending→World→Prop) (h:newC w (zD aa ab ac) 27 fun ad1 w1=>newC w1 (zD ad ae af) 27 fun ad2 w2=>newC w2 (zD false nSl 0) 27 fun ad3 w3=>ld3 ad1 w3 fun b1 s1 x1=>ld3 ad2 w3 fun b2 s2 x2=>Calls pr 99 #[uD b1 s1 x1,uD b2 s2 x2] w3 fun e1 w4=>∃b3:Bool,∃s3:Slc,∃x3:Int,∃b4:Bool,∃s4:Slc,∃x4:Int,∃x5:Int,e1= .returned (.tuple #[uD b3 s3 x3,uD b4 s4 x4,vi x5])∧(newC w4 (zD false nSl 0) 127 fun ad4 w5=>newC w5 (zD false nSl 0) 127 fun ad5 w6=>xD ad4 b3 s3 x3 w6 fun w9=>xD ad5 b4 s4 x4 w9 fun w12=>br (x5 !=0) (xt3 ad3 (.bool false) nSl.v (vi 0) w12 fun w15=>ld3 ad3 w15 fun b5 s5 x6=>R (.returned (.tuple #[uD b5 s5 x6,vi x5])) w15) (ld3 ad4 w12 fun b6 s6 x7=>ld3 ad5 w12 fun b7 s7 x8=>kU 131 #[uD b6 s6 x7,uD b7 s7 x8] w12 fun w16 b8 s8 x9 x10=>(xD ad3 b8 s8 x9 w16 fun w19=>ld3 ad3 w19 fun b9 s9 x11=>R (.returned (.tuple #[uD b9 s9 x11,vi x10])) w19)))):Calls pr 101 #[uD aa ab ac,uD ad ae af] w R:=by
 refine zk (fun _=>none) (by kernel_rfl) Tryz.func101 rfl ?_ ?_
 ·refine kcast h ?_;kernel_rfl
 ·exact (za rfl (ze (za rfl (ze (za rfl (za rfl (ze (zh (za rfl (ze (zg (zi (za rfl (ze (zg trivial)))))))))))))))
end
section
open Go Go.RowKit Eng Sp Dg
namespace Dg
def tz (x:Nat):Nat:=if x=0 then 0 else Lib.ctzFrom (bl x) x
theorem Zy {x:Nat} (h:x≠0):∃m,x=2^tz x*(2*m+1):=by
 obtain ⟨m,hm,_⟩:=Lib.ctzFrom_spec (bl x) x (by omega) (uv x)
 exact ⟨m,by rw [tz,if_neg h];exact hm⟩
theorem Yw:∀ {a b m n:Nat} ,2^a*(2*m+1)=2^b*(2*n+1)→a=b
 |0,0,_,_,_=>rfl
 |0,b+1,m,n,h=>by
   rw [Nat.pow_succ] at h;simp at h;have:2^b*2*(2*n+1)=2*(2^b*(2*n+1)):=by ac_rfl
   omega
 |a+1,0,m,n,h=>by
   rw [Nat.pow_succ] at h;simp at h;have:2^a*2*(2*m+1)=2*(2^a*(2*m+1)):=by ac_rfl
   omega
 |a+1,b+1,m,n,h=>by
  rw [Nat.pow_succ,Nat.pow_succ] at h
  have h1:2^a*2*(2*m+1)=2*(2^a*(2*m+1)):=by ac_rfl
  have h2:2^b*2*(2*n+1)=2*(2^b*(2*n+1)):=by ac_rfl
  have:=Yw (a:=a) (b:=b) (m:=m) (n:=n) (by omega)
  omega
theorem za8 {x k m:Nat} (h:x=2^k*(2*m+1)):tz x=k:=by
 have hx:x≠0:=by
  have:0<2^k:=Nat.pow_pos (by omega)
  rw [h];exact Nat.mul_ne_zero (by omega) (by omega)
 obtain ⟨n,hn⟩:=Zy hx
 exact Yw (hn.symm.trans h)
theorem Qy:tz 0=0:=if_pos rfl
theorem za9 {x:Nat} (h:x≠0):tz x<bl x:=by
 rw [tz,if_neg h]
 exact (Lib.ctzFrom_spec (bl x) x (by omega) (uv x)).choose_spec.2
theorem qv (x:Nat):tz x≤bl x:=by
 by_cases h:x=0
 ·rw [h,Qy];omega
 ·exact Nat.le_of_lt (za9 h)
def od (x:Nat):Nat:=x/2^tz x
theorem gm (x:Nat):2^tz x*od x=x:=by
 by_cases h:x=0
 ·subst h;simp [od]
 ·obtain ⟨m,hm⟩:=Zy h
  exact Nat.mul_div_cancel' ⟨_,hm⟩
theorem Us {x:Nat} (h:x≠0):od x % 2=1:=by
 obtain ⟨m,hm⟩:=Zy h
 have:od x=2*m+1:=by
  have h1:=gm x
  have hp:0<2^tz x:=Nat.pow_pos (by omega)
  exact Nat.eq_of_mul_eq_mul_left hp (h1.trans hm)
 omega
theorem vq:od 0=0:=by simp [od]
theorem M9 {x:Nat} (h:x≠0):od x≠0:=fun e=>by have:=Us h;omega
theorem Yv {x:Nat} :od x=0↔x=0:=⟨fun h=>by rcases Nat.eq_zero_or_pos x with h1|h1;exact h1;exact absurd h (M9 (by omega)),fun h=>by rw [h,vq]⟩
theorem ms (x:Nat):od x≤x:=Nat.div_le_self _ _
theorem zct {x:Nat} (h:x % 2=1):tz x=0:=za8 (k:=0) (m:=x/2) (by simp;omega)
theorem Pe {x:Nat} (h:x % 2=1):od x=x:=by rw [od,zct h];simp
theorem zf5 (x:Nat):od (od x)=od x:=by
 by_cases h:x=0
 ·rw [h,vq,vq]
 ·exact Pe (Us h)
theorem ctz64 {x:Nat} (h0:x≠0) (h:x<2^64):Lib.ctz 64 x=tz x∧tz x<64:=by
 obtain ⟨m,hm,hk⟩:=Lib.ctzFrom_spec 64 x (by omega) h
 have e:Lib.ctz 64 x=Lib.ctzFrom 64 x:=by simp [Lib.ctz,h0]
 have e2:=za8 hm
 rw [e,e2]
 exact ⟨rfl,hk⟩
theorem zcs {l:List Nat} {j:Nat} (h0:l.take j=List.replicate j 0) (hj:j<l.length) (ol:ok B64 l) (hx:l.getD j 0≠0):tz (val B64 l)=64*j+tz (l.getD j 0)∧val B64 l≠0:=by
 have h64:B64=2^64:=rfl
 have hlt:=yi ol (by rw [B64v];omega) j
 rw [h64] at hlt
 obtain ⟨_,h1⟩:=ctz64 hx hlt
 obtain ⟨m,hm⟩:=Zy hx
 have hv:=nc (B:=B64) l j hj
 rw [h0,xn,Nat.zero_add] at hv
 have e:val B64 l=2^(64*j+tz (l.getD j 0))*(2*(m+2^(63 -tz (l.getD j 0))*val B64 (l.drop (j+1)))+1):=by
  rw [hv,gg,Nat.pow_add,Nat.mul_assoc]
  congr 1
  generalize val B64 (l.drop (j+1))=r
  have h2:B64=2^tz (l.getD j 0)*(2*2^(63 -tz (l.getD j 0))):=by
   rw [h64,←Nat.pow_succ',←Nat.pow_add];congr 1;omega
  generalize tz (l.getD j 0)=t at*
  rw [h2,Nat.mul_assoc]
  conv=>lhs;lhs;rw [hm]
  rw [←Nat.mul_add]
  congr 1
  rw [Nat.mul_add,Nat.mul_assoc]
  omega
 refine ⟨za8 e, ?_⟩
 rw [e]
 exact Nat.mul_ne_zero (Nat.ne_of_gt (Nat.pow_pos (by omega))) (by omega)
end Dg
namespace Dy
open _root_.Go.Proofs.YtbeiopoejdkheaaGreatDoor.Nat (ldN OwnNil m9)
def Tab (w:World):Prop:=∀j,j<64→w.cell? ⟨0,j,none⟩=some (.int .u8 ((Lib.deBruijn64tab.getD j 0:Nat):Int))
theorem Tab.ahead {w w'} (h:Tab w) (ha:Ahead w w'):Tab w':=fun j hj=>ha.cell (h j hj)
theorem fg {w} {x:Nat} (hT:Tab w) (h0:x≠0) (h:x<B64):Calls pr bits_TrailingZeros64_id #[.int .u64 (x:Int)] w fun e w'=>w'=w∧e= .returned (.int .i64 (tz x)):=by
 refine Calls.mono (tz64_laid x h w fun _ j hj=>hT j (by simpa [Lib.deBruijn64tab] using hj)) ?_
 rintro e w' ⟨rfl,rfl⟩
 rw [(ctz64 h0 h).1]
 exact ⟨rfl,rfl⟩
theorem zb6 {x:Nat} (h:((x:Int) !=0)=true):x≠0:=by simpa using h
theorem zbx {x:Nat} (h:((x:Int) !=0)=false):x=0:=by simpa using h
theorem mj {w s} {l:List Nat} (hT:Tab w) (h:Rd .u64 w s (nn l)) (hl:l.length≤2^46) (ol:ok B64 l):Calls pr nat_Tail_id #[s.v] w fun e w'=>w'=w∧e= .returned (.int .i64 (tz (val B64 l))):=by
 have hn:s.n=l.length:=by rw [h.n,nn_length]
 refine Fw s w _ (fun t n i w'=>t=s∧n=(l.length:Int)∧w'=w∧∃j:Nat,i=(j:Int)∧j≤l.length∧l.take j=List.replicate j 0) (fun _ n i _=>(n -i).toNat)
  ⟨rfl,by rw [hn],rfl,0,rfl,Nat.zero_le _,by simp⟩ ?_
 rintro t n i w1 ⟨rfl,rfl,rfl,j,rfl,hj,hz⟩
 refine zm (fun hlt=> ?_) (fun hge=> ?_)
 ·have hj':j<l.length:=by simp at hlt;omega
  refine ldN h (by omega) (by omega) ?_
  rw [Int.toNat_natCast]
  have e8:IntKind.i64.wrap ((j:Int)+1)=((j+1:Nat):Int):=by rw [zp (by omega) (by omega)];omega
  refine zm (fun hx=> ?_) (fun hx=> ?_)
  ·have hx0:l.getD j 0≠0:=zb6 hx
   have hlt:=yi ol (by rw [B64v];omega) j
   obtain ⟨h1,_⟩:=zcs hz hj' ol hx0
   obtain ⟨_,h2⟩:=ctz64 hx0 hlt
   refine Calls.mono (fg hT hx0 hlt) ?_
   rintro e w2 ⟨rfl,rfl⟩
   refine ⟨_,rfl,rfl, ?_⟩
   try dsimp only
   rw [h1,zp (x:=64*(j:Int)) (by omega) (by omega),zp (by omega) (by omega)]
   congr 2
  ·have hx0:l.getD j 0=0:=zbx hx
   refine ⟨⟨rfl,rfl,rfl,j+1,e8,hj', ?_⟩,by rw [e8];omega⟩
   rw [List.take_succ_eq_append_getElem hj',hz,List.replicate_succ']
   congr 2
   rw [←xx l 0 hj',hx0]
 ·have hj':j=l.length:=by simp at hge;omega
  subst hj'
  rw [List.take_length] at hz
  refine ⟨rfl, ?_⟩
  rw [hz,xn,Qy];rfl
end Dy
end
section
open Go Go.RowKit Eng
open _root_.Go.IntKind (wrap)
def Zh (J0:Slc→Int→World→Prop) (m0:Slc→Int→World→Nat):Nat→Option ((Act→World→Prop)×(Act→World→Nat))
 |0=>some (fun a_ w_=>atSz a_ 22 (atS a_ 0 fun t0_a=>atI .i64 a_ 3 fun t3_n=>J0 t0_a t3_n w_),fun a_ w_=>mS a_ 0 fun t0_a=>mI a_ 3 fun t3_n=>m0 t0_a t3_n w_)
 |_=>none
theorem Ym (ad:Slc) (w:World) (R:Ending→World→Prop) (J0:Slc→Int→World→Prop) (m0:Slc→Int→World→Nat) (h:J0 ad (ad.n:Int) w) (h0:∀ab aa w_,J0 ab aa w_→br (decide (aa>0)) (semA pr (Instr.indexAt 32 ab.v (vi (wrap .i64 (aa -1)))) w_ fun ad1 w1=>ldI .u64 ad1 w1 fun x1=>br (x1==0) (J0 ab (wrap .i64 (aa -1)) w1∧m0 ab (wrap .i64 (aa -1)) w1<m0 ab aa w_) (semS pr (Instr.sliceAt 32 ab.v none (some (vi aa)) (some (vi aa))) w1 fun s1 w2=>R (.returned s1.v) w2)) (semS pr (Instr.sliceAt 32 ab.v none (some (vi aa)) (some (vi aa))) w_ fun s2 w3=>R (.returned s2.v) w3)):Calls pr 76 #[ad.v] w R:=by
 refine zk (Zh J0 m0) (by kernel_rfl) Tryz.func76 rfl ?_ ?_
 ·refine kcast h ?_;kernel_rfl
 ·exact (za rfl (ze (za rfl (ze (za rfl (yg _ rfl (fun a_ w_ ac=>(by
  obtain ⟨ae,af,ac⟩:=ya ac
  obtain ⟨ab,ag,ac⟩:=zr ac
  obtain ⟨aa,ah,ac⟩:=zq ac
  obtain ⟨g0,rfl⟩:∃g,a_=Fr 22 [(0,ab.v),(3,vi aa)] g:=⟨_,yp ae af _ (zf ag (zf ah yc))⟩
  clear ae af ag ah
  have ai:=ac
  refine ⟨(fun _=>none),kcast (h0 ab aa w_ ai) ?_, ?_⟩
  ·kernel_rfl
  ·exact (za rfl (za rfl (ze (zh (zi (ye (yh rfl (ze trivial)))))))))) (za rfl (ze (zg trivial)))))))))
def Xw (J0:Slc→Slc→Int→Int→World→Prop) (m0:Slc→Slc→Int→Int→World→Nat):Nat→Option ((Act→World→Prop)×(Act→World→Nat))
 |0=>some (fun a_ w_=>atSz a_ 26 (atS a_ 3 fun t3_out=>atS a_ 10 fun t10=>atI .i64 a_ 11 fun t11=>atI .i64 a_ 12 fun t12=>J0 t3_out t10 t11 t12 w_),fun a_ w_=>mS a_ 3 fun t3_out=>mS a_ 10 fun t10=>mI a_ 11 fun t11=>mI a_ 12 fun t12=>m0 t3_out t10 t11 t12 w_)
 |_=>none
theorem Ta (ab:Slc) (w:World) (R:Ending→World→Prop) (J0:Slc→Slc→Int→Int→World→Prop) (m0:Slc→Slc→Int→Int→World→Nat) (h:semS pr (Instr.makeSlice 32 (vi 0) (vi (wrap .i64 (2*(ab.n:Int))))) w fun s1 w1=>J0 s1 ab (ab.n:Int) 0 w1) (h0:∀aa t10 t11 t12 w_,J0 aa t10 t11 t12 w_→br (decide (t12<t11)) (semA pr (Instr.indexAt 22 t10.v (vi t12)) w_ fun ad1 w2=>ldI .u64 ad1 w2 fun x1=>newC w2 #[.int .u64 (Int.tmod x1 4294967296),.int .u64 (wrap .u64 (Int.tdiv x1 4294967296))] 65 fun ad2 w3=>semS pr (Builtin.append_ #[32,32] 32 #[aa.v,(⟨some ad2,2,2⟩:Slc).v]) w3 fun s2 w4=>J0 s2 t10 t11 (wrap .i64 (t12+1)) w4∧m0 s2 t10 t11 (wrap .i64 (t12+1)) w4<m0 aa t10 t11 t12 w_) (kS 76 #[aa.v] w_ fun w5 s3=>(R (.returned s3.v) w5))):Calls pr 33 #[ab.v] w R:=by
 refine zk (Xw J0 m0) (by kernel_rfl) Tryz.func33 rfl ?_ ?_
 ·refine kcast h ?_;kernel_rfl
 ·exact (za rfl (ze (za rfl (ze (za rfl (za rfl (ze (yg _ rfl (fun a_ w_ ac=>(by
  obtain ⟨ag,ah,ac⟩:=ya ac
  obtain ⟨aa,ai,ac⟩:=zr ac
  obtain ⟨t10,ad,ac⟩:=zr ac
  obtain ⟨t11,ae,ac⟩:=zq ac
  obtain ⟨t12,af,ac⟩:=zq ac
  obtain ⟨g0,rfl⟩:∃g,a_=Fr 26 [(3,aa.v),(10,t10.v),(11,vi t11),(12,vi t12)] g:=⟨_,yp ag ah _ (zf ai (zf ad (zf ae (zf af yc))))⟩
  clear ag ah ai ad ae af
  have aj:=ac
  refine ⟨(fun _=>none),kcast (h0 aa t10 t11 t12 w_ aj) ?_, ?_⟩
  ·kernel_rfl
  ·exact (za rfl (ze (za rfl (zh (zi (ye (za rfl (yh rfl (za rfl (ze (ze (ze trivial)))))))))))))) (za rfl (ze (zg trivial)))))))))))
theorem Xu (aa:Int) (w:World) (R:Ending→World→Prop) (h:newC w #[.int .u64 (wrap .u64 aa)] 65 fun ad1 w1=>kS 33 #[(⟨some ad1,1,1⟩:Slc).v] w1 fun w2 s1=>(R (.returned s1.v) w2)):Calls pr 56 #[vi aa] w R:=by
 refine zk (fun _=>none) (by kernel_rfl) Tryz.func56 rfl ?_ ?_
 ·refine kcast h ?_;kernel_rfl
 ·exact (za rfl (ze (za rfl (ze (zg trivial)))))
theorem gy (aa:Slc) (w:World) (R:Ending→World→Prop) (h:R (.returned (.bool ((aa.n:Int)==0))) w):Calls pr 40 #[aa.v] w R:=by
 refine zk (fun _=>none) (by kernel_rfl) Tryz.func40 rfl ?_ ?_
 ·refine kcast h ?_;kernel_rfl
 ·exact (za rfl (ze (za rfl (ze (zg trivial)))))
def gw (J0:Int→Int→World→Prop) (m0:Int→Int→World→Nat):Nat→Option ((Act→World→Prop)×(Act→World→Nat))
 |0=>some (fun a_ w_=>atSz a_ 25 (atI .i64 a_ 3 fun t3_n=>atI .u64 a_ 4 fun t4_v=>J0 t3_n t4_v w_),fun a_ w_=>mI a_ 3 fun t3_n=>mI a_ 4 fun t4_v=>m0 t3_n t4_v w_)
 |_=>none
theorem f8 (ac:Slc) (w:World) (R:Ending→World→Prop) (J0:Int→Int→World→Prop) (m0:Int→Int→World→Nat) (h:br ((ac.n:Int)==0) (R (.returned (vi 0)) w) (semA pr (Instr.indexAt 32 ac.v (vi (wrap .i64 ((ac.n:Int) -1)))) w fun ad1 w1=>ldI .u64 ad1 w1 fun x1=>J0 (wrap .i64 (32*(wrap .i64 ((ac.n:Int) -1)))) x1 w1)) (h0:∀aa ab w_,J0 aa ab w_→br (decide (ab>0)) (J0 (wrap .i64 (aa+1)) (wrap .u64 (Int.tdiv ab 2)) w_∧m0 (wrap .i64 (aa+1)) (wrap .u64 (Int.tdiv ab 2)) w_<m0 aa ab w_) (R (.returned (vi aa)) w_)):Calls pr 34 #[ac.v] w R:=by
 refine zk (gw J0 m0) (by kernel_rfl) Tryz.func34 rfl ?_ ?_
 ·refine kcast h ?_;kernel_rfl
 ·exact (za rfl (ze (za rfl (za rfl (ze (zh (za rfl (ze (zg (zi (za rfl (ze (za rfl (za rfl (ze (yg _ rfl (fun a_ w_ ad=>(by
  obtain ⟨ae,af,ad⟩:=ya ad
  obtain ⟨aa,ag,ad⟩:=zq ad
  obtain ⟨ab,ah,ad⟩:=zq ad
  obtain ⟨g0,rfl⟩:∃g,a_=Fr 25 [(3,vi aa),(4,Value.int .u64 ab)] g:=⟨_,yp ae af _ (zf ag (zf ah yc))⟩
  clear ae af ag ah
  have ai:=ad
  refine ⟨(fun _=>none),kcast (h0 aa ab w_ ai) ?_, ?_⟩
  ·kernel_rfl
  ·exact (za rfl (za rfl (ze (zh (zi (ye (za rfl (yh rfl (ze (ze trivial)))))))))))) (za rfl (ze (zg trivial)))))))))))))))))))
theorem f7 (ab:Slc) (aa:Int) (w:World) (R:Ending→World→Prop) (h:br (decide (aa<0)) (R (.returned (vi 0)) w) (br (decide ((wrap .i64 (Int.tdiv aa 32))≥(ab.n:Int))) (R (.returned (vi 0)) w) (semA pr (Instr.indexAt 32 ab.v (vi (wrap .i64 (Int.tdiv aa 32)))) w fun ad1 w1=>ldI .u64 ad1 w1 fun x1=>semI pr .u64 (binOp .shr 65 (.int .u64 x1) (vi (Int.tmod aa 32))) w1 fun x2 w2=>R (.returned (vi (wrap .i64 (andI .u64 x2 1)))) w2))):Calls pr 97 #[ab.v,vi aa] w R:=by
 refine zk (fun _=>none) (by kernel_rfl) Tryz.func97 rfl ?_ ?_
 ·refine kcast h ?_;kernel_rfl
 ·exact (za rfl (ze (za rfl (za rfl (ze (zh (za rfl (ze (zg (zi (za rfl (ze (zg trivial)))))))))))))
def Ye (J0:Slc→Slc→Int→World→Prop) (m0:Slc→Slc→Int→World→Nat):Nat→Option ((Act→World→Prop)×(Act→World→Nat))
 |0=>some (fun a_ w_=>atSz a_ 41 (atS a_ 0 fun t0_a=>atS a_ 1 fun t1_b=>atI .i64 a_ 5 fun t5_i=>J0 t0_a t1_b t5_i w_),fun a_ w_=>mS a_ 0 fun t0_a=>mS a_ 1 fun t1_b=>mI a_ 5 fun t5_i=>m0 t0_a t1_b t5_i w_)
 |_=>none
theorem Xq (ae:Slc) (af:Slc) (w:World) (R:Ending→World→Prop) (J0:Slc→Slc→Int→World→Prop) (m0:Slc→Slc→Int→World→Nat) (h:br ((ae.n:Int) !=(af.n:Int)) (br (decide ((ae.n:Int)<(af.n:Int))) (R (.returned (vi (-1))) w) (R (.returned (vi 1)) w)) (J0 ae af (wrap .i64 ((ae.n:Int) -1)) w)) (h0:∀ab ac aa w_,J0 ab ac aa w_→br (decide (aa≥0)) (fixA pr (Instr.indexAt 32 ab.v (vi aa)) w_ fun ad1=>ldI .u64 ad1 w_ fun x1=>fixA pr (Instr.indexAt 32 ac.v (vi aa)) w_ fun ad2=>ldI .u64 ad2 w_ fun x2=>∀w1,Ahead w_ w1→(br (decide (x1<x2)) (R (.returned (vi (-1))) w1) (fixA pr (Instr.indexAt 32 ab.v (vi aa)) w1 fun ad3=>ldI .u64 ad3 w1 fun x3=>fixA pr (Instr.indexAt 32 ac.v (vi aa)) w1 fun ad4=>ldI .u64 ad4 w1 fun x4=>∀w2,Ahead w1 w2→(br (decide (x3>x4)) (R (.returned (vi 1)) w2) (J0 ab ac (wrap .i64 (aa -1)) w2∧m0 ab ac (wrap .i64 (aa -1)) w2<m0 ab ac aa w_))))) (R (.returned (vi 0)) w_)):Calls pr 57 #[ae.v,af.v] w R:=by
 refine zk (Ye J0 m0) (by kernel_rfl) Tryz.func57 rfl ?_ ?_
 ·refine kcast h ?_;kernel_rfl
 ·exact (za rfl (ze (za rfl (za rfl (ze (zh (za rfl (za rfl (ze (zh (za rfl (ze (zg (zi (za rfl (ze (zg (zi (za rfl (za rfl (ze (yg _ rfl (fun a_ w_ ad=>(by
  obtain ⟨ag,ah,ad⟩:=ya ad
  obtain ⟨ab,ai,ad⟩:=zr ad
  obtain ⟨ac,aj,ad⟩:=zr ad
  obtain ⟨aa,ak,ad⟩:=zq ad
  obtain ⟨g0,rfl⟩:∃g,a_=Fr 41 [(0,ab.v),(1,ac.v),(5,vi aa)] g:=⟨_,yp ag ah _ (zf ai (zf aj (zf ak yc)))⟩
  clear ag ah ai aj ak
  have al:=ad
  refine ⟨(fun _=>none),kcast (h0 ab ac aa w_ al) ?_, ?_⟩
  ·kernel_rfl
  ·exact (za rfl (za rfl (ze (zh (zi (ye (za rfl (yh rfl (za rfl (za rfl (qd (by kernel_rfl) (by kernel_rfl) (by kernel_rfl) (by kernel_rfl) (zh (za rfl (ze (zg (zi (za rfl (qd (by kernel_rfl) (by kernel_rfl) (by kernel_rfl) (by kernel_rfl) (zh (za rfl (ze (zg (zi (ze trivial)))))))))))))))))))))))))) (za rfl (ze (zg trivial)))))))))))))))))))))))))
theorem cb (aa:Slc) (ab:Int) (w:World) (R:Ending→World→Prop) (h:br (decide (ab<(aa.n:Int))) (semA pr (Instr.indexAt 32 aa.v (vi ab)) w fun ad1 w1=>ldI .u64 ad1 w1 fun x1=>R (.returned (.int .u64 x1)) w1) (R (.returned (.int .u64 0)) w)):Calls pr 98 #[aa.v,vi ab] w R:=by
 refine zk (fun _=>none) (by kernel_rfl) Tryz.func98 rfl ?_ ?_
 ·refine kcast h ?_;kernel_rfl
 ·exact (za rfl (ze (za rfl (za rfl (ze (zh (za rfl (ze (zg (zi (za rfl (ze (zg trivial)))))))))))))
def Yd (J0:Slc→Slc→Int→Slc→Int→Int→World→Prop) (m0:Slc→Slc→Int→Slc→Int→Int→World→Nat):Nat→Option ((Act→World→Prop)×(Act→World→Nat))
 |0=>some (fun a_ w_=>atSz a_ 44 (atS a_ 0 fun t0_a=>atS a_ 1 fun t1_b=>atI .i64 a_ 5 fun t5_n=>atS a_ 6 fun t6_out=>atI .u64 a_ 7 fun t7_carry=>atI .i64 a_ 8 fun t8_i=>J0 t0_a t1_b t5_n t6_out t7_carry t8_i w_),fun a_ w_=>mS a_ 0 fun t0_a=>mS a_ 1 fun t1_b=>mI a_ 5 fun t5_n=>mS a_ 6 fun t6_out=>mI a_ 7 fun t7_carry=>mI a_ 8 fun t8_i=>m0 t0_a t1_b t5_n t6_out t7_carry t8_i w_)
 |_=>none
theorem Xp (ah:Slc) (ai:Slc) (w:World) (R:Ending→World→Prop) (J0:Slc→Slc→Int→Slc→Int→Int→World→Prop) (m0:Slc→Slc→Int→Slc→Int→Int→World→Nat) (h:br (decide ((ai.n:Int)>(ah.n:Int))) (semS pr (Instr.makeSlice 32 (vi (wrap .i64 ((ai.n:Int)+1))) (vi (wrap .i64 ((ai.n:Int)+1)))) w fun s1 w1=>J0 ah ai (ai.n:Int) s1 0 0 w1) (semS pr (Instr.makeSlice 32 (vi (wrap .i64 ((ah.n:Int)+1))) (vi (wrap .i64 ((ah.n:Int)+1)))) w fun s3 w7=>J0 ah ai (ah.n:Int) s3 0 0 w7)) (h0:∀ae af ag ab aa ac w_,J0 ae af ag ab aa ac w_→br (decide (ac≤ag)) (Calls pr 98 #[ae.v,vi ac] w_ fun e1 w2=>∃x1:Int,e1= .returned (.int .u64 x1)∧(Calls pr 98 #[af.v,vi ac] w2 fun e2 w3=>∃x2:Int,e2= .returned (.int .u64 x2)∧(semA pr (Instr.indexAt 32 ab.v (vi ac)) w3 fun ad1 w4=>stC ad1 (.int .u64 (Int.tmod (wrap .u64 ((wrap .u64 (x1+x2))+aa)) 4294967296)) w4 fun w5=>J0 ae af ag ab (wrap .u64 (Int.tdiv (wrap .u64 ((wrap .u64 (x1+x2))+aa)) 4294967296)) (wrap .i64 (ac+1)) w5∧m0 ae af ag ab (wrap .u64 (Int.tdiv (wrap .u64 ((wrap .u64 (x1+x2))+aa)) 4294967296)) (wrap .i64 (ac+1)) w5<m0 ae af ag ab aa ac w_))) (kS 76 #[ab.v] w_ fun w6 s2=>(R (.returned s2.v) w6))):Calls pr 67 #[ah.v,ai.v] w R:=by
 refine zk (Yd J0 m0) (by kernel_rfl) Tryz.func67 rfl ?_ ?_
 ·refine kcast h ?_;kernel_rfl
 ·exact (za rfl (ze (za rfl (ze (za rfl (za rfl (ze (zh (ze (zi (za rfl (ze (za rfl (ze (za rfl (za rfl (ze (yg _ rfl (fun a_ w_ ad=>(by
  obtain ⟨aj,ak,ad⟩:=ya ad
  obtain ⟨ae,al,ad⟩:=zr ad
  obtain ⟨af,am,ad⟩:=zr ad
  obtain ⟨ag,an,ad⟩:=zq ad
  obtain ⟨ab,ao,ad⟩:=zr ad
  obtain ⟨aa,ap,ad⟩:=zq ad
  obtain ⟨ac,aq,ad⟩:=zq ad
  obtain ⟨g0,rfl⟩:∃g,a_=Fr 44 [(0,ae.v),(1,af.v),(5,vi ag),(6,ab.v),(7,Value.int .u64 aa),(8,vi ac)] g:=⟨_,yp aj ak _ (zf al (zf am (zf an (zf ao (zf ap (zf aq yc))))))⟩
  clear aj ak al am an ao ap aq
  have ar:=ad
  refine ⟨(fun _=>none),kcast (h0 ae af ag ab aa ac w_ ar) ?_, ?_⟩
  ·kernel_rfl
  ·exact (za rfl (za rfl (ze (zh (zi (ye (za rfl (yh rfl (za rfl (ze (za rfl (ze (ze (ze trivial)))))))))))))))) (za rfl (ze (zg trivial)))))))))))))))))))))
def Yk (J0:Slc→Slc→Slc→Int→Int→Int→World→Prop) (m0:Slc→Slc→Slc→Int→Int→Int→World→Nat):Nat→Option ((Act→World→Prop)×(Act→World→Nat))
 |0=>some (fun a_ w_=>atSz a_ 39 (atS a_ 0 fun t0_a=>atS a_ 1 fun t1_b=>atS a_ 5 fun t5_out=>atI .u64 a_ 6 fun t6_borrow=>atI .i64 a_ 13 fun t13=>atI .i64 a_ 14 fun t14=>J0 t0_a t1_b t5_out t6_borrow t13 t14 w_),fun a_ w_=>mS a_ 0 fun t0_a=>mS a_ 1 fun t1_b=>mS a_ 5 fun t5_out=>mI a_ 6 fun t6_borrow=>mI a_ 13 fun t13=>mI a_ 14 fun t14=>m0 t0_a t1_b t5_out t6_borrow t13 t14 w_)
 |_=>none
theorem Xz (af:Slc) (ag:Slc) (w:World) (R:Ending→World→Prop) (J0:Slc→Slc→Slc→Int→Int→Int→World→Prop) (m0:Slc→Slc→Slc→Int→Int→Int→World→Nat) (h:semS pr (Instr.makeSlice 32 (vi (af.n:Int)) (vi (af.n:Int))) w fun s1 w1=>J0 af ag s1 0 (af.n:Int) 0 w1) (h0:∀ad ae ab aa t13 t14 w_,J0 ad ae ab aa t13 t14 w_→br (decide (t14<t13)) (fixA pr (Instr.indexAt 32 ad.v (vi t14)) w_.drew fun ad1=>ldI .u64 ad1 w_.drew fun x1=>Calls pr 98 #[ae.v,vi t14] w_.drew fun e1 w2=>∃x2:Int,e1= .returned (.int .u64 x2)∧(Ahead w_.drew w2∧(semA pr (Instr.indexAt 32 ab.v (vi t14)) w2 fun ad2 w3=>stC ad2 (.int .u64 (Int.tmod (wrap .u64 ((wrap .u64 ((wrap .u64 (x1+4294967296)) -x2)) -aa)) 4294967296)) w3 fun w4=>J0 ad ae ab (wrap .u64 (1 -(wrap .u64 (Int.tdiv (wrap .u64 ((wrap .u64 ((wrap .u64 (x1+4294967296)) -x2)) -aa)) 4294967296)))) t13 (wrap .i64 (t14+1)) w4∧m0 ad ae ab (wrap .u64 (1 -(wrap .u64 (Int.tdiv (wrap .u64 ((wrap .u64 ((wrap .u64 (x1+4294967296)) -x2)) -aa)) 4294967296)))) t13 (wrap .i64 (t14+1)) w4<m0 ad ae ab aa t13 t14 w_))) (kS 76 #[ab.v] w_ fun w5 s2=>(R (.returned s2.v) w5))):Calls pr 68 #[af.v,ag.v] w R:=by
 refine zk (Yk J0 m0) (by kernel_rfl) Tryz.func68 rfl ?_ ?_
 ·refine kcast h ?_;kernel_rfl
 ·exact (za rfl (ze (za rfl (ze (za rfl (ze (za rfl (za rfl (ze (yg _ rfl (fun a_ w_ ac=>(by
  obtain ⟨aj,ak,ac⟩:=ya ac
  obtain ⟨ad,al,ac⟩:=zr ac
  obtain ⟨ae,am,ac⟩:=zr ac
  obtain ⟨ab,an,ac⟩:=zr ac
  obtain ⟨aa,ao,ac⟩:=zq ac
  obtain ⟨t13,ah,ac⟩:=zq ac
  obtain ⟨t14,ai,ac⟩:=zq ac
  obtain ⟨g0,rfl⟩:∃g,a_=Fr 39 [(0,ad.v),(1,ae.v),(5,ab.v),(6,Value.int .u64 aa),(13,vi t13),(14,vi t14)] g:=⟨_,yp aj ak _ (zf al (zf am (zf an (zf ao (zf ah (zf ai yc))))))⟩
  clear aj ak al am an ao ah ai
  have ap:=ac
  refine ⟨(fun _=>none),kcast (h0 ad ae ab aa t13 t14 w_ ap) ?_, ?_⟩
  ·kernel_rfl
  ·exact (za rfl (ze (za rfl (zh (zi (ye (za rfl (yh rfl (za rfl (ze (za rfl (yy (by kernel_rfl) (by kernel_rfl) (by kernel_rfl) (za rfl (ze (ze (ze trivial)))))))))))))))))) (za rfl (ze (zg trivial)))))))))))))
def Yh (J0:Slc→Slc→Slc→Int→Int→World→Prop) (m0:Slc→Slc→Slc→Int→Int→World→Nat) (J2:Slc→Slc→Slc→Int→Int→World→Slc→Slc→Int→Int→Int→Slc→Int→Int→Slc→Int→Int→World→Prop) (m2:Slc→Slc→Slc→Int→Int→World→Slc→Slc→Int→Int→Int→Slc→Int→Int→Slc→Int→Int→World→Nat):Nat→Option ((Act→World→Prop)×(Act→World→Nat))
 |0=>some (fun a_ w_=>atSz a_ 65 (atS a_ 1 fun t1=>atS a_ 5 fun t5=>atS a_ 19 fun t19=>atI .i64 a_ 20 fun t20=>atI .i64 a_ 21 fun t21=>J0 t1 t5 t19 t20 t21 w_),fun a_ w_=>mS a_ 1 fun t1=>mS a_ 5 fun t5=>mS a_ 19 fun t19=>mI a_ 20 fun t20=>mI a_ 21 fun t21=>m0 t1 t5 t19 t20 t21 w_)
 |_=>none
def ca (J0:Slc→Slc→Slc→Int→Int→World→Prop) (m0:Slc→Slc→Slc→Int→Int→World→Nat) (J2:Slc→Slc→Slc→Int→Int→World→Slc→Slc→Int→Int→Int→Slc→Int→Int→Slc→Int→Int→World→Prop) (m2:Slc→Slc→Slc→Int→Int→World→Slc→Slc→Int→Int→Int→Slc→Int→Int→Slc→Int→Int→World→Nat) (o_t1:Slc) (o_t5:Slc) (o_t19:Slc) (o_t20:Int) (o_t21:Int) (o_w_:World):Nat→Option ((Act→World→Prop)×(Act→World→Nat))
 |2=>some (fun a_ w_=>atSz a_ 65 (atS a_ 1 fun t1=>atS a_ 5 fun t5=>atI .i64 a_ 6 fun t6=>atI .u64 a_ 7 fun t7=>atI .u64 a_ 8 fun t8=>atS a_ 19 fun t19=>atI .i64 a_ 20 fun t20=>atI .i64 a_ 21 fun t21=>atS a_ 26 fun t26=>atI .i64 a_ 27 fun t27=>atI .i64 a_ 28 fun t28=>J2 o_t1 o_t5 o_t19 o_t20 o_t21 o_w_ t1 t5 t6 t7 t8 t19 t20 t21 t26 t27 t28 w_),fun a_ w_=>mS a_ 1 fun t1=>mS a_ 5 fun t5=>mI a_ 6 fun t6=>mI a_ 7 fun t7=>mI a_ 8 fun t8=>mS a_ 19 fun t19=>mI a_ 20 fun t20=>mI a_ 21 fun t21=>mS a_ 26 fun t26=>mI a_ 27 fun t27=>mI a_ 28 fun t28=>m2 o_t1 o_t5 o_t19 o_t20 o_t21 o_w_ t1 t5 t6 t7 t8 t19 t20 t21 t26 t27 t28 w_)
 |_=>none
theorem Xv (a0:Slc) (a1:Slc) (w:World) (R:Ending→World→Prop) (J0:Slc→Slc→Slc→Int→Int→World→Prop) (m0:Slc→Slc→Slc→Int→Int→World→Nat) (J2:Slc→Slc→Slc→Int→Int→World→Slc→Slc→Int→Int→Int→Slc→Int→Int→Slc→Int→Int→World→Prop) (m2:Slc→Slc→Slc→Int→Int→World→Slc→Slc→Int→Int→Int→Slc→Int→Int→Slc→Int→Int→World→Nat) (h:semS pr (Instr.makeSlice 32 (vi (wrap .i64 ((wrap .i64 ((a0.n:Int)+(a1.n:Int)))+1))) (vi (wrap .i64 ((wrap .i64 ((a0.n:Int)+(a1.n:Int)))+1)))) w fun s1 w1=>J0 a1 s1 a0 (a0.n:Int) 0 w1) (h0:∀t1 t5 t19 t20 t21 w_,J0 t1 t5 t19 t20 t21 w_→br (decide (t21<t20)) (semA pr (Instr.indexAt 32 t19.v (vi t21)) w_ fun ad1 w2=>ldI .u64 ad1 w2 fun x1=>J2 t1 t5 t19 t20 t21 w_ t1 t5 t21 x1 0 t19 t20 t21 t1 (t1.n:Int) 0 w2) (kS 76 #[t5.v] w_ fun w9 s2=>(R (.returned s2.v) w9))) (h2:∀t1 t5 t19 t20 t21 w_,J0 t1 t5 t19 t20 t21 w_→∀ai af aj ak al ac ad ae ag ah ab w__,J2 t1 t5 t19 t20 t21 w_ ai af aj ak al ac ad ae ag ah ab w__→br (decide (ab<ah)) (semA pr (Instr.indexAt 32 ag.v (vi ab)) w__ fun ad2 w3=>ldI .u64 ad2 w3 fun x2=>semA pr (Instr.indexAt 32 af.v (vi (wrap .i64 (aj+ab)))) w3 fun ad3 w4=>ldI .u64 ad3 w4 fun x3=>semA pr (Instr.indexAt 32 af.v (vi (wrap .i64 (aj+ab)))) w4 fun ad4 w5=>stC ad4 (.int .u64 (Int.tmod (wrap .u64 ((wrap .u64 ((wrap .u64 (ak*x2))+x3))+al)) 4294967296)) w5 fun w6=>J2 t1 t5 t19 t20 t21 w_ ai af aj ak (wrap .u64 (Int.tdiv (wrap .u64 ((wrap .u64 ((wrap .u64 (ak*x2))+x3))+al)) 4294967296)) ac ad ae ag ah (wrap .i64 (ab+1)) w6∧m2 t1 t5 t19 t20 t21 w_ ai af aj ak (wrap .u64 (Int.tdiv (wrap .u64 ((wrap .u64 ((wrap .u64 (ak*x2))+x3))+al)) 4294967296)) ac ad ae ag ah (wrap .i64 (ab+1)) w6<m2 t1 t5 t19 t20 t21 w_ ai af aj ak al ac ad ae ag ah ab w__) (semA pr (Instr.indexAt 32 af.v (vi (wrap .i64 (aj+(ai.n:Int))))) w__ fun ad5 w7=>stC ad5 (.int .u64 al) w7 fun w8=>J0 ai af ac ad (wrap .i64 (ae+1)) w8∧m0 ai af ac ad (wrap .i64 (ae+1)) w8<m0 t1 t5 t19 t20 t21 w_)):Calls pr 45 #[a0.v,a1.v] w R:=by
 refine zk (Yh J0 m0 J2 m2) (by kernel_rfl) Tryz.func45 rfl ?_ ?_
 ·refine kcast h ?_;kernel_rfl
 ·exact (za rfl (ze (za rfl (ze (za rfl (za rfl (ze (yg _ rfl (fun a_ w_ aa=>(by
  obtain ⟨ap,aq,aa⟩:=ya aa
  obtain ⟨t1,ar,aa⟩:=zr aa
  obtain ⟨t5,au,aa⟩:=zr aa
  obtain ⟨t19,am,aa⟩:=zr aa
  obtain ⟨t20,an,aa⟩:=zq aa
  obtain ⟨t21,ao,aa⟩:=zq aa
  obtain ⟨g0,rfl⟩:∃g,a_=Fr 65 [(1,t1.v),(5,t5.v),(19,t19.v),(20,vi t20),(21,vi t21)] g:=⟨_,yp ap aq _ (zf ar (zf au (zf am (zf an (zf ao yc)))))⟩
  clear ap aq ar au am an ao
  have av:=aa
  refine ⟨(ca J0 m0 J2 m2 t1 t5 t19 t20 t21 w_),kcast (h0 t1 t5 t19 t20 t21 w_ av) ?_, ?_⟩
  ·kernel_rfl
  ·exact (za rfl (ze (za rfl (zh (zi (ye (za rfl (yh rfl (za rfl (ze (za rfl (ze (za rfl (za rfl (ze (yg _ rfl (fun a_ w__ aa=>(by
   obtain ⟨ap,aq,aa⟩:=ya aa
   obtain ⟨ai,ar,aa⟩:=zr aa
   obtain ⟨af,au,aa⟩:=zr aa
   obtain ⟨aj,az,aa⟩:=zq aa
   obtain ⟨ak,aA,aa⟩:=zq aa
   obtain ⟨al,aB,aa⟩:=zq aa
   obtain ⟨ac,am,aa⟩:=zr aa
   obtain ⟨ad,an,aa⟩:=zq aa
   obtain ⟨ae,ao,aa⟩:=zq aa
   obtain ⟨ag,aw,aa⟩:=zr aa
   obtain ⟨ah,ax,aa⟩:=zq aa
   obtain ⟨ab,ay,aa⟩:=zq aa
   obtain ⟨g2,rfl⟩:∃g,a_=Fr 65 [(1,ai.v),(5,af.v),(6,vi aj),(7,Value.int .u64 ak),(8,Value.int .u64 al),(19,ac.v),(20,vi ad),(21,vi ae),(26,ag.v),(27,vi ah),(28,vi ab)] g:=⟨_,yp ap aq _ (zf ar (zf au (zf az (zf aA (zf aB (zf am (zf an (zf ao (zf aw (zf ax (zf ay yc)))))))))))⟩
   clear ap aq ar au az aA aB am an ao aw ax ay
   have aC:=aa
   refine ⟨(fun _=>none),kcast (h2 t1 t5 t19 t20 t21 w_ av ai af aj ak al ac ad ae ag ah ab w__ aC) ?_, ?_⟩
   ·kernel_rfl
   ·exact (za rfl (ze (za rfl (zh (zi (ye (za rfl (yh rfl (za rfl (ze (za rfl (ze (za rfl (ze (ze (ze trivial)))))))))))))))))) (ze (ze trivial)))))))))))))))))))) (za rfl (ze (zg trivial)))))))))))
def Yi (J0:Int→Slc→Int→Slc→Int→Int→World→Prop) (m0:Int→Slc→Int→Slc→Int→Int→World→Nat):Nat→Option ((Act→World→Prop)×(Act→World→Nat))
 |0=>some (fun a_ w_=>atSz a_ 55 (atI .i64 a_ 1 fun t1_n=>atS a_ 5 fun t5_out=>atI .i64 a_ 6 fun t6_s=>atS a_ 21 fun t21=>atI .i64 a_ 22 fun t22=>atI .i64 a_ 23 fun t23=>J0 t1_n t5_out t6_s t21 t22 t23 w_),fun a_ w_=>mI a_ 1 fun t1_n=>mS a_ 5 fun t5_out=>mI a_ 6 fun t6_s=>mS a_ 21 fun t21=>mI a_ 22 fun t22=>mI a_ 23 fun t23=>m0 t1_n t5_out t6_s t21 t22 t23 w_)
 |_=>none
theorem Xx (ae:Slc) (af:Int) (w:World) (R:Ending→World→Prop) (J0:Int→Slc→Int→Slc→Int→Int→World→Prop) (m0:Int→Slc→Int→Slc→Int→Int→World→Nat) (h:br ((ae.n:Int)==0) (R (.returned nSl.v) w) (semS pr (Instr.makeSlice 32 (vi (wrap .i64 ((wrap .i64 ((ae.n:Int)+(wrap .i64 (Int.tdiv af 32))))+1))) (vi (wrap .i64 ((wrap .i64 ((ae.n:Int)+(wrap .i64 (Int.tdiv af 32))))+1)))) w fun s1 w1=>J0 af s1 (Int.tmod af 32) ae (ae.n:Int) 0 w1)) (h0:∀ac aa ad t21 t22 t23 w_,J0 ac aa ad t21 t22 t23 w_→br (decide (t23<t22)) (semA pr (Instr.indexAt 32 t21.v (vi t23)) w_ fun ad1 w2=>ldI .u64 ad1 w2 fun x1=>fixA pr (Instr.indexAt 32 aa.v (vi (wrap .i64 (t23+(wrap .i64 (Int.tdiv ac 32)))))) w2 fun ad2=>ldI .u64 ad2 w2 fun x2=>fixI pr .u64 (binOp .shl 65 (.int .u64 x1) (vi ad)) w2 fun x3=>fixA pr (Instr.indexAt 32 aa.v (vi (wrap .i64 (t23+(wrap .i64 (Int.tdiv ac 32)))))) w2 fun ad3=>stC ad3 (.int .u64 (wrap .u64 (x2+(Int.tmod x3 4294967296)))) w2.drew fun w3=>semI pr .u64 (binOp .shl 65 (.int .u64 x1) (vi ad)) w3 fun x4 w4=>semA pr (Instr.indexAt 32 aa.v (vi (wrap .i64 ((wrap .i64 (t23+(wrap .i64 (Int.tdiv ac 32))))+1)))) w4 fun ad4 w5=>stC ad4 (.int .u64 (wrap .u64 (Int.tdiv x4 4294967296))) w5 fun w6=>J0 ac aa ad t21 t22 (wrap .i64 (t23+1)) w6∧m0 ac aa ad t21 t22 (wrap .i64 (t23+1)) w6<m0 ac aa ad t21 t22 t23 w_) (kS 76 #[aa.v] w_ fun w7 s2=>(R (.returned s2.v) w7))):Calls pr 54 #[ae.v,vi af] w R:=by
 refine zk (Yi J0 m0) (by kernel_rfl) Tryz.func54 rfl ?_ ?_
 ·refine kcast h ?_;kernel_rfl
 ·exact (za rfl (ze (za rfl (za rfl (ze (zh (za rfl (ze (zg (zi (za rfl (ze (za rfl (ze (za rfl (za rfl (ze (yg _ rfl (fun a_ w_ ab=>(by
  obtain ⟨aj,ak,ab⟩:=ya ab
  obtain ⟨ac,al,ab⟩:=zq ab
  obtain ⟨aa,am,ab⟩:=zr ab
  obtain ⟨ad,an,ab⟩:=zq ab
  obtain ⟨t21,ag,ab⟩:=zr ab
  obtain ⟨t22,ah,ab⟩:=zq ab
  obtain ⟨t23,ai,ab⟩:=zq ab
  obtain ⟨g0,rfl⟩:∃g,a_=Fr 55 [(1,vi ac),(5,aa.v),(6,vi ad),(21,t21.v),(22,vi t22),(23,vi t23)] g:=⟨_,yp aj ak _ (zf al (zf am (zf an (zf ag (zf ah (zf ai yc))))))⟩
  clear aj ak al am an ag ah ai
  have ao:=ab
  refine ⟨(fun _=>none),kcast (h0 ac aa ad t21 t22 t23 w_ ao) ?_, ?_⟩
  ·kernel_rfl
  ·exact (za rfl (ze (za rfl (zh (zi (ye (za rfl (yh rfl (za rfl (ze (za rfl (jq 13 (by kernel_rfl) (by kernel_rfl) (by kernel_rfl) (by kernel_rfl) (by kernel_rfl) (ze (ze trivial)))))))))))))))) (za rfl (ze (zg trivial)))))))))))))))))))))
def Yj (J0:Slc→Int→Slc→Int→Int→Int→World→Prop) (m0:Slc→Int→Slc→Int→Int→Int→World→Nat):Nat→Option ((Act→World→Prop)×(Act→World→Nat))
 |0=>some (fun a_ w_=>atSz a_ 53 (atS a_ 0 fun t0_a=>atI .i64 a_ 1 fun t1_n=>atS a_ 5 fun t5_out=>atI .i64 a_ 6 fun t6_s=>atI .i64 a_ 23 fun t23=>atI .i64 a_ 24 fun t24=>J0 t0_a t1_n t5_out t6_s t23 t24 w_),fun a_ w_=>mS a_ 0 fun t0_a=>mI a_ 1 fun t1_n=>mS a_ 5 fun t5_out=>mI a_ 6 fun t6_s=>mI a_ 23 fun t23=>mI a_ 24 fun t24=>m0 t0_a t1_n t5_out t6_s t23 t24 w_)
 |_=>none
theorem Xy (ag:Slc) (af:Int) (w:World) (R:Ending→World→Prop) (J0:Slc→Int→Slc→Int→Int→Int→World→Prop) (m0:Slc→Int→Slc→Int→Int→Int→World→Nat) (h:br (decide ((wrap .i64 (Int.tdiv af 32))≥(ag.n:Int))) (R (.returned nSl.v) w) (semS pr (Instr.makeSlice 32 (vi (wrap .i64 ((ag.n:Int) -(wrap .i64 (Int.tdiv af 32))))) (vi (wrap .i64 ((ag.n:Int) -(wrap .i64 (Int.tdiv af 32)))))) w fun s1 w1=>J0 ag af s1 (Int.tmod af 32) (s1.n:Int) 0 w1)) (h0:∀ac ad aa ae t23 t24 w_,J0 ac ad aa ae t23 t24 w_→br (decide (t24<t23)) (fixA pr (Instr.indexAt 32 ac.v (vi (wrap .i64 (t24+(wrap .i64 (Int.tdiv ad 32)))))) w_.drew fun ad1=>ldI .u64 ad1 w_.drew fun x1=>Calls pr 98 #[ac.v,vi (wrap .i64 ((wrap .i64 (t24+(wrap .i64 (Int.tdiv ad 32))))+1))] w_.drew fun e1 w2=>∃x2:Int,e1= .returned (.int .u64 x2)∧(Ahead w_.drew w2∧(semI pr .u64 (binOp .shr 65 (.int .u64 (wrap .u64 (x1+(wrap .u64 (x2*4294967296))))) (vi ae)) w2 fun x3 w3=>semA pr (Instr.indexAt 32 aa.v (vi t24)) w3 fun ad2 w4=>stC ad2 (.int .u64 (Int.tmod x3 4294967296)) w4 fun w5=>J0 ac ad aa ae t23 (wrap .i64 (t24+1)) w5∧m0 ac ad aa ae t23 (wrap .i64 (t24+1)) w5<m0 ac ad aa ae t23 t24 w_))) (kS 76 #[aa.v] w_ fun w6 s2=>(R (.returned s2.v) w6))):Calls pr 55 #[ag.v,vi af] w R:=by
 refine zk (Yj J0 m0) (by kernel_rfl) Tryz.func55 rfl ?_ ?_
 ·refine kcast h ?_;kernel_rfl
 ·exact (za rfl (ze (za rfl (za rfl (ze (zh (za rfl (ze (zg (zi (za rfl (ze (za rfl (ze (za rfl (za rfl (ze (yg _ rfl (fun a_ w_ ab=>(by
  obtain ⟨aj,ak,ab⟩:=ya ab
  obtain ⟨ac,al,ab⟩:=zr ab
  obtain ⟨ad,am,ab⟩:=zq ab
  obtain ⟨aa,an,ab⟩:=zr ab
  obtain ⟨ae,ao,ab⟩:=zq ab
  obtain ⟨t23,ah,ab⟩:=zq ab
  obtain ⟨t24,ai,ab⟩:=zq ab
  obtain ⟨g0,rfl⟩:∃g,a_=Fr 53 [(0,ac.v),(1,vi ad),(5,aa.v),(6,vi ae),(23,vi t23),(24,vi t24)] g:=⟨_,yp aj ak _ (zf al (zf am (zf an (zf ao (zf ah (zf ai yc))))))⟩
  clear aj ak al am an ao ah ai
  have ap:=ab
  refine ⟨(fun _=>none),kcast (h0 ac ad aa ae t23 t24 w_ ap) ?_, ?_⟩
  ·kernel_rfl
  ·exact (za rfl (ze (za rfl (zh (zi (ye (za rfl (yh rfl (za rfl (ze (za rfl (yy (by kernel_rfl) (by kernel_rfl) (by kernel_rfl) (ze (ze trivial)))))))))))))))) (za rfl (ze (zg trivial)))))))))))))))))))))
end
section
open Go Go.RowKit Eng Sp Dg
namespace Sp
section
variable {P : Program} {t e : TypeId} {k : IntKind}
theorem appRoom (hT:isSl P t k=some e) {w:World} {s x:Slc} {l ys:List Int} {ty:TypeId} {b:Nat} (hx:Rd k w x ys) (hy:0<ys.length) (hs:Owr k e w s l b) (hroom:l.length+ys.length≤s.c) {K:Slc→World→Prop} (hk:∀s' w',s'.c=s.c→Owr k e w' s' (l++ys) b→(∀w0,Ahead w0 w→w0.heap.size≤b→Ahead w0 w')→K s' w'):semS P (Builtin.append_ #[t,t] ty #[s.v,x.v]) w fun s' w'=>K s' w':=by
 obtain ⟨hu,he,inf,hi,hs1,hb8,hz⟩:=tu hT
 obtain ⟨ad,hA,_⟩:=hx.get 0 hy
 obtain ⟨sp,hc,hh⟩:=hs.mem
 have hr:=run_append_room (P:=P) w t ty e inf hu hi b l.length s.c (ints k l++sp).toArray hh ad ys.length x.c (ints k ys) (by simp [ints,hs1])
  (fun j u hj=>by
   have hj':j<ys.length:=by
    have:=(List.getElem?_eq_some_iff.1 hj).1
    simpa [ints] using this
   obtain ⟨ad',e',hcc⟩:=hx.get j hj'
   rw [hA] at e'
   obtain rfl:=Option.some.inj e'
   rw [Y1 hj'] at hj
   obtain rfl:=Option.some.inj hj
   exact hcc) (by simp [ints,Value.oneCell']) hroom (by simp [ints,hs1];omega)
 have hxv:x.v= .slice (some ad) ys.length x.c:=by rw [Slc.v,hA,hx.n]
 have hsv:s.v= .slice (some ⟨b,0,none⟩) l.length s.c:=by rw [Slc.v,hs.A,hs.n]
 unfold semS
 rw [Sem.wp_iff_run,hxv,hsv,hr]
 refine ⟨⟨some ⟨b,0,none⟩,l.length+ys.length,s.c⟩,rfl,hk _ _ rfl ⟨by simp,sp.drop ys.length,by simp;omega, ?_⟩ fun w0 ha hb=>Below.trans ha ⟨rfl,rfl,rfl,by simp [World.setRow],fun k hk=>setRow_other w b k _ (by omega)⟩⟩
 rw [setRow_heap w b _ _ e (0,0) hh]
 simp [hs1,ints]
 rw [List.drop_append]
 simp
end
end Sp
namespace Ref
open _root_.Go.Proofs.YtbeiopoejdkheaaGreatDoor.Nat (ldN ldNf stN mkN cutHi cutCap Fill mkF stF stFf Num)
def RN (w:World) (s:Slc) (n:Nat):Prop:=Rd .u64 w s (nn (digs B32 n))
theorem RN.ahead {w w' s} {n:Nat} (h:RN w s n) (ha:Ahead w w'):RN w' s n:=Rd.ahead h ha
theorem RN.n {w s} {n:Nat} (h:RN w s n):s.n=(digs B32 n).length:=by rw [Rd.n h,nn_length]
theorem RN.nil {w:World} {A:Option Addr} {c:Nat} :RN w ⟨A,0,c⟩ 0:=by unfold RN;rw [yq];exact Rd.nil
theorem je {w s} {l:List Nat} (h:Rd .u64 w s (nn l)) (hl:l.length≤2^46) (hok:ok B32 l):Calls pr surdref01_norm_id #[s.v] w fun e w'=>w'=w∧∃s',e= .returned (Slc.v s')∧RN w s' (val B32 l)∧s'.A=s.A:=by
 have hn:s.n=l.length:=by rw [h.n,nn_length]
 have hc:=h.c
 refine Ym s w _ (fun t n w'=>w'=w∧t=s∧∃m:Nat,n=(m:Int)∧m≤l.length∧∀i,m≤i→i<l.length→l.getD i 0=0) (fun _ n _=>n.toNat)
  ⟨rfl,rfl,s.n,rfl,by omega,fun i h1 h2=>by omega⟩ ?_
 rintro t n w' ⟨rfl,rfl,m,rfl,hm,hz⟩
 have fin:(m=0∨l.getD (m -1) 0≠0)→semS pr (Instr.sliceAt 32 t.v none (some (Value.int .i64 (m:Int))) (some (Value.int .i64 (m:Int)))) w' fun s2 w3=>
   w3=w'∧∃s',Ending.returned s2.v= .returned (Slc.v s')∧RN w' s' (val B32 l)∧s'.A=t.A:=by
  intro hlast
  refine cutCap (by omega) (by omega) ?_
  refine ⟨rfl,_,rfl, ?_,rfl⟩
  unfold RN
  rw [jw two32 hok hm hz hlast,←vm]
  simp only [Int.toNat_natCast]
  exact h.take (by simpa using hm) (Nat.le_refl _)
 refine zm (fun hp=> ?_) (fun hp=> ?_)
 ·have hp':0<m:=by simp at hp;omega
  rw [zp (x:=(m:Int) -1) (by omega) (by omega)]
  refine ldN h (by omega) (by omega) ?_
  have e2:((m:Int) -1).toNat=m -1:=by omega
  rw [e2]
  refine zm (fun hx=> ?_) (fun hx=> ?_)
  ·refine ⟨⟨rfl,rfl,m -1,by omega,by omega,fun i h1 h2=> ?_⟩,by omega⟩
   by_cases hi:i=m -1
   ·subst hi;simpa using hx
   ·exact hz i (by omega) h2
  ·exact fin (.inr (by simpa using hx))
 ·exact fin (.inl (by simp at hp;omega))
theorem jz {w s} {l:List Nat} (h:Rd .u64 w s (nn l)) (hl:l.length≤2^46) (hok:ok B32 l):Calls pr surdref01_norm_id #[s.v] w fun e w'=>w'=w∧∃s',e= .returned (Slc.v s')∧RN w s' (val B32 l):=
 Calls.mono (je h hl hok) fun e w' ⟨h1,s',h2,h3,_⟩=>⟨h1,s',h2,h3⟩
theorem Zq {w s} {l:List Nat} (h:Rd .u64 w s (nn l)) {i:Int} (h0:0≤i):Calls pr surdref01_Num_at_id #[s.v, .int .i64 i] w fun e w'=>w'=w∧e= .returned (.int .u64 (l.getD i.toNat 0:Nat)):=by
 have hn:s.n=l.length:=by rw [h.n,nn_length]
 refine cb s i w _ (zm (fun hlt=> ?_) (fun hge=> ?_))
 ·have hlt':i<l.length:=by simp at hlt;omega
  exact ldN h h0 hlt' ⟨rfl,rfl⟩
 ·refine ⟨rfl, ?_⟩
  rw [ui l 0 (by simp at hge;omega)];rfl
theorem tg {w s} {n:Nat} (h:RN w s n):Calls pr surdref01_Num_Zero_id #[s.v] w fun e w'=>w'=w∧e= .returned (.bool (decide (n=0))):=by
 refine gy s w _ ⟨rfl, ?_⟩
 have:=h.n
 congr 2
 by_cases hn:n=0
 ·subst hn;rw [yq] at this;simp [this]
 ·have h2:=List.length_pos_iff.2 (xv two32 hn)
  have:s.n≠0:=by omega
  simp [hn,this]
def split32:List Nat→List Nat
 | []=> []
 |x::l=>x % B32::x/B32::split32 l
theorem Qt (l m:List Nat):split32 (l++m)=split32 l++split32 m:=by
 induction l with
 |nil=>rfl
 |cons x l ih=>simp [split32,ih]
theorem gu (l:List Nat):(split32 l).length=2*l.length:=by
 induction l with
 |nil=>rfl
 |cons x l ih=>simp [split32,ih];omega
theorem za4 {l:List Nat} (h:ok B64 l):ok B32 (split32 l):=by
 have hB:=B64v
 induction l with
 |nil=>exact Zb
 |cons x l ih=>
  obtain ⟨h1,h2⟩:=mp.1 h
  exact mp.2 ⟨by simp only [B32v];omega,mp.2 ⟨by simp only [B32v];omega,ih h2⟩⟩
theorem Ds (l:List Nat):val B32 (split32 l)=val B64 l:=by
 have h64:B64=B32*B32:=by decide
 induction l with
 |nil=>rfl
 |cons x l ih=>
  show x % B32+B32*(x/B32+B32*val B32 (split32 l))=x+B64*val B64 l
  rw [ih,Nat.mul_add,←Nat.mul_assoc,←h64,←Nat.add_assoc,Nat.mod_add_div]
theorem zc3 {w s} {l:List Nat} (h:Rd .u64 w s (nn l)) (hl:l.length*8≤140737488351232) (hok:ok B64 l):Calls pr surdref01_Of_id #[s.v] w fun e w'=>Ahead w w'∧∃s',e= .returned (Slc.v s')∧RN w' s' (val B64 l)∧∀ad,s'.A=some ad→w.heap.size≤ad.block∧∃cs m,w'.heap[ad.block]? =some (.cells cs tU64 m):=by
 have hB:=B64v
 have hB32:=B32v
 have hn:s.n=l.length:=by rw [h.n,nn_length]
 refine Ta s w _ (fun out t10 n i w'=>t10=s∧n=(l.length:Int)∧Ahead w w'∧∃(j b:Nat),i=(j:Int)∧j≤l.length∧w.heap.size≤b∧out.c=2*l.length∧
  Owr .u64 tU64 w' out (nn (split32 (l.take j))) b) (fun _ _ n i _=>(n -i).toNat) ?_ ?_
 ·rw [hn,zp (by omega) (by omega)]
  refine mk (e:=tU64) (k:= .u64) (by kernel_rfl) (Int.le_refl 0) (by omega) (by omega) ?_
  intro s' w' hc ho ha hs
  exact ⟨rfl,rfl,ha,0,w.heap.size,rfl,Nat.zero_le _,Nat.le_refl _,by rw [hc];omega,ho⟩
 ·rintro out t10 n i w1 ⟨rfl,rfl,ha,j,b,rfl,hj,hb,hoc,ho⟩
  refine zm (fun hlt=> ?_) (fun hge=> ?_)
  ·have hj':j<l.length:=by simpa using hlt
   refine ldN (h.ahead ha) (by omega) (by omega) ?_
   have hx:=yi hok (by omega:0<B64) j
   simp only [Int.toNat_natCast]
   generalize hxe:l.getD j 0=x at*
   have e1:Int.tmod (x:Int) 4294967296=((x % B32:Nat):Int):=by rw [B32v,Int.tmod_eq_emod_of_nonneg (by omega)];omega
   have e2:IntKind.u64.wrap (Int.tdiv (x:Int) 4294967296)=((x/B32:Nat):Int):=by
    have:Int.tdiv (x:Int) 4294967296=((x/4294967296:Nat):Int):=by rw [Int.tdiv_eq_ediv_of_nonneg (by omega)];omega
    rw [B32v,this,yd (by omega) (by omega)]
   rw [e1,e2]
   have hal:=Ahead.alloc w1 (.cells #[Value.int .u64 ((x % B32:Nat):Int),Value.int .u64 ((x/B32:Nat):Int)] tU64 (0,0))
   have hlit:Rd .u64 (w1.alloc (.cells #[Value.int .u64 ((x % B32:Nat):Int),Value.int .u64 ((x/B32:Nat):Int)] tU64 (0,0))) ⟨some ⟨w1.heap.size,0,none⟩,2,2⟩ (nn [x % B32,x/B32]):=
    Owr.rd (t:=tU64) (b:=w1.heap.size) ⟨rfl, [],rfl,by rw [te];rfl⟩
   refine appRoom (t:=_) (e:=tU64) (k:= .u64) (by kernel_rfl) hlit (by simp) (ho.ahead hal) (by rw [hoc,nn_length,gu,nn_length];simp;omega) ?_
   intro s' w4 hc' ho' hah
   have e8:IntKind.i64.wrap ((j:Int)+1)=((j+1:Nat):Int):=by rw [zp (by omega) (by omega)];omega
   refine ⟨⟨by trivial,by trivial,hah w (ha.trans hal) hb,j+1,b,e8,hj',hb,by rw [hc',hoc], ?_⟩,by rw [e8];omega⟩
   rw [List.take_succ_eq_append_getElem hj',Qt,zb7]
   have:l[j]=x:=by rw [←hxe];exact (xx l 0 hj').symm
   rw [this]
   exact ho'
  ·have hj':j=l.length:=by simp at hge;omega
   subst hj'
   rw [List.take_length] at ho
   refine Calls.mono (je ho.rd (by rw [gu];omega) (za4 hok)) ?_
   rintro e w5 ⟨rfl,s',rfl,hr,hA⟩
   rw [Ds] at hr
   refine ⟨_,rfl,ha,_,rfl,hr,fun ad e=> ?_⟩
   try dsimp only
   rw [hA,ho.A] at e
   have:=Option.some.inj e
   subst this
   obtain ⟨sp,_,hh⟩:=ho.mem
   exact ⟨hb,_,_,hh⟩
theorem zc2 {w s} {l:List Nat} (h:Rd .u64 w s (nn l)) (hl:l.length*8≤140737488351232) (hok:ok B64 l):Calls pr surdref01_Of_id #[s.v] w fun e w'=>Ahead w w'∧∃s',e= .returned (Slc.v s')∧RN w' s' (val B64 l)∧∀ad,s'.A=some ad→w.heap.size≤ad.block:=
 Calls.mono (zc3 h hl hok) fun e w' ⟨h1,s',h2,h3,h4⟩=>⟨h1,s',h2,h3,fun ad e=>(h4 ad e).1⟩
theorem qp {w s} {l:List Nat} (h:Rd .u64 w s (nn l)) (hl:l.length*8≤140737488351232) (hok:ok B64 l):Calls pr surdref01_Of_id #[s.v] w fun e w'=>Ahead w w'∧∃s',e= .returned (Slc.v s')∧RN w' s' (val B64 l):=
 Calls.mono (zc2 h hl hok) fun e w' ⟨h1,s',h2,h3,_⟩=>⟨h1,s',h2,h3⟩
theorem qy {l:List Nat} (h:ok B32 l):bl (val B32 l)≤32*l.length:=vw (by rw [←Zr];exact xa h)
theorem tt {w s} {n:Nat} (h:RN w s n) (hl:(digs B32 n).length≤2^46):Calls pr surdref01_Num_Len_id #[s.v] w fun e w'=>w'=w∧e= .returned (.int .i64 (bl n)):=by
 have hB32:=B32v
 have hn:=h.n
 have hok:=yb two32 n
 refine f8 s w _ (fun k v w'=>w'=w∧∃(a x:Nat),k=(a:Int)∧v=(x:Int)∧x<B32∧a≤2^55∧a+bl x=bl n) (fun _ v _=>v.toNat) ?_ ?_
 ·refine zm (fun hz=> ?_) (fun hz=> ?_)
  ·have hd:digs B32 n= []:=List.eq_nil_of_length_eq_zero (by simp at hz;omega)
   have hv:n=0:=by rw [←zu two32 n,hd];rfl
   refine ⟨rfl, ?_⟩
   rw [hv,xm];rfl
  ·have hp:0<s.n:=by simp at hz;omega
   rw [zp (x:=(s.n:Int) -1) (by omega) (by omega)]
   refine ldN h (by omega) (by omega) ?_
   have e2:((s.n:Int) -1).toNat=s.n -1:=by omega
   rw [e2,zp (by omega) (by omega)]
   have hne:n≠0:=by intro h0;subst h0;rw [yq] at hn;simp at hn;omega
   refine ⟨rfl,32*(s.n -1),_,by omega,rfl,yi hok (by omega) _,by omega, ?_⟩
   have hlen:(digs B32 n).length=(s.n -1)+1:=by omega
   have hval:n=val B32 ((digs B32 n).take (s.n -1))+2^(32*(s.n -1))*(digs B32 n).getD (s.n -1) 0:=by
    rw [←Zr,←yj,List.take_of_length_le (by omega),zu two32]
   have hlt:val B32 ((digs B32 n).take (s.n -1))<2^(32*(s.n -1)):=by
    rw [←Zr]
    have:=xa (vr hok (s.n -1))
    rw [List.length_take,Nat.min_eq_left (by omega)] at this
    exact this
   have htop:=jv two32 hne
   rw [show (digs B32 n).length -1=s.n -1 by omega] at htop
   have:=fj htop hlt
   rw [←hval] at this
   omega
 ·rintro k v w1 ⟨rfl,a,x,rfl,rfl,hx,ha,hbl⟩
  refine zm (fun hp=> ?_) (fun hp=> ?_)
  ·have hp':x≠0:=by simp at hp;omega
   have e1:IntKind.i64.wrap ((a:Int)+1)=((a+1:Nat):Int):=by rw [zp (by omega) (by omega)];omega
   have e2:IntKind.u64.wrap (Int.tdiv (x:Int) 2)=((x/2:Nat):Int):=by
    have:Int.tdiv (x:Int) 2=((x/2:Nat):Int):=by rw [Int.tdiv_eq_ediv_of_nonneg (by omega)];omega
    rw [this,yd (by omega) (by omega)]
   have e3:bl x=bl (x/2)+1:=by
    unfold bl;rw [tm (by omega) hp'];simp
   have hbn:bl n≤32*(digs B32 n).length:=by
    have:=qy hok
    rw [zu two32] at this
    exact this
   have:=vf hp'
   rw [e1,e2]
   exact ⟨⟨rfl,a+1,x/2,rfl,rfl,by omega,by omega,by omega⟩,by omega⟩
  ·have hp':x=0:=by simp at hp;omega
   subst hp'
   rw [xm] at hbl
   exact ⟨rfl,by rw [←hbl];rfl⟩
end Ref
end
section
open Go Go.RowKit Eng Sp Dg
namespace Ref
open _root_.Go.Proofs.YtbeiopoejdkheaaGreatDoor.Nat (ldN ldNf stN mkN cutHi cutCap Fill mkF stF stFf Num OwnNil)
theorem qh {w p q} {x y:Nat} (hp:RN w p x) (hq:RN w q y) (la:(digs B32 x).length≤2^46) (lb:(digs B32 y).length≤2^46):Calls pr surdref01_Cmp_id #[p.v,q.v] w fun e w'=>Ahead w w'∧e= .returned (.int .i64 (cmpI x y)):=by
 have hna:=hp.n
 have hnb:=hq.n
 refine Xq p q w _ (fun s t i w'=>Ahead w w'∧s=p∧t=q∧(digs B32 x).length=(digs B32 y).length∧∃m:Nat,i=(m:Int) -1∧m≤(digs B32 x).length∧(digs B32 x).drop m=(digs B32 y).drop m) (fun _ _ i _=>(i+1).toNat) ?_ ?_
 ·refine zm (fun hne=> ?_) (fun heq=> ?_)
  ·refine zm (fun hlt=> ?_) (fun hlt=> ?_)
   ·refine ⟨Ahead.refl _, ?_⟩
    have:=td two32 (m:=x) (n:=y) (by simp at hlt;omega)
    rw [cmpI,if_pos this]
   ·refine ⟨Ahead.refl _, ?_⟩
    have:=td two32 (m:=y) (n:=x) (by simp at hlt hne;omega)
    rw [cmpI,if_neg (by omega),if_pos this]
  ·have heq':p.n=q.n:=by simp at heq;omega
   refine ⟨Ahead.refl _,rfl,rfl,by omega,p.n,zp (by omega) (by omega),by omega, ?_⟩
   rw [List.drop_eq_nil_of_le (by omega),List.drop_eq_nil_of_le (by omega)]
 ·rintro s t i w' ⟨ha,rfl,rfl,hl,m,rfl,hm,hdr⟩
  have hs:=hp.ahead ha
  have ht:=hq.ahead ha
  refine zm (fun h0=> ?_) (fun h0=> ?_)
  ·have hm1:1≤m:=by simp at h0;omega
   have e2:((m:Int) -1).toNat=m -1:=by omega
   refine ldNf hs (by omega) (by omega) ?_
   refine ldNf ht (by omega) (by omega) ?_
   intro w3 ha3
   rw [e2]
   have hdr':(digs B32 x).drop (m -1+1)=(digs B32 y).drop (m -1+1):=by rw [Nat.sub_add_cancel hm1];exact hdr
   refine zm (fun hlt=> ?_) (fun hlt=> ?_)
   ·refine ⟨ha.trans ha3, ?_⟩
    have:=jh (yb two32 x) (by omega) (by omega) hdr' (by simpa using hlt)
    rw [zu two32,zu two32] at this
    rw [cmpI,if_pos this]
   ·refine ldNf (hs.ahead ha3) (by omega) (by omega) ?_
    refine ldNf (ht.ahead ha3) (by omega) (by omega) ?_
    intro w4 ha4
    rw [e2]
    refine zm (fun hgt=> ?_) (fun hgt=> ?_)
    ·refine ⟨(ha.trans ha3).trans ha4, ?_⟩
     have:=jh (yb two32 y) (by omega) (by omega) hdr'.symm (by simpa using hgt)
     rw [zu two32,zu two32] at this
     rw [cmpI,if_neg (by omega),if_pos this]
    ·have e3:IntKind.i64.wrap ((m:Int) -1 -1)=((m -1:Nat):Int) -1:=by rw [zp (by omega) (by omega)];omega
     refine ⟨⟨(ha.trans ha3).trans ha4,rfl,rfl,hl,m -1,e3,by omega, ?_⟩,by rw [e3];omega⟩
     have heq:(digs B32 x).getD (m -1) 0=(digs B32 y).getD (m -1) 0:=by
      simp only [decide_eq_false_iff_not] at hlt hgt;omega
     have l1:m -1<(digs B32 x).length:=by omega
     have l2:m -1<(digs B32 y).length:=by omega
     rw [List.drop_eq_getElem_cons l1,List.drop_eq_getElem_cons l2,hdr',←xx _ 0 l1,←xx _ 0 l2,heq]
  ·have hm0:m=0:=by simp at h0;omega
   subst hm0
   refine ⟨ha, ?_⟩
   have:=Yy two32 (m:=x) (n:=y) (by simpa using hdr)
   rw [this,cmpI,if_neg (by omega),if_neg (by omega)]
theorem uz {w:World} {v:Nat} (hv:v<9223372036854775808):Calls pr surdref01_Int_id #[.int .i64 (v:Int)] w fun e w'=>Ahead w w'∧∃s',e= .returned (Slc.v s')∧RN w' s' v:=by
 have hB:=B64v
 refine Xu _ w _ ?_
 rw [yd (by omega) (by omega)]
 have hal:=Ahead.alloc w (.cells #[Value.int .u64 (v:Int)] tU64 (0,0))
 have hlit:Rd .u64 (w.alloc (.cells #[Value.int .u64 (v:Int)] tU64 (0,0))) ⟨some ⟨w.heap.size,0,none⟩,1,1⟩ (nn [v]):=Owr.rd (t:=tU64) (b:=w.heap.size) ⟨rfl, [],rfl,by rw [te];rfl⟩
 refine Calls.mono (qp hlit (by simp) (by intro y hy;simp at hy;omega)) ?_
 rintro e w2 ⟨ha,s',rfl,hr⟩
 exact ⟨_,rfl,hal.trans ha,_,rfl,by simpa [val] using hr⟩
theorem Fill.norm {w0 w c} {l:List Nat} {S:World→Prop} (h:Fill w0 w c l S) (hl:l.length≤2^46) (hok:ok B32 l):Calls pr surdref01_norm_id #[c.v] w fun e w'=>w'=w∧∃s',e= .returned (Slc.v s')∧RN w s' (val B32 l):=jz h.rd hl hok
theorem Fill.normN {w0 w c} {l:List Nat} {S:World→Prop} (h:Fill w0 w c l S) (hl:l.length≤2^46) (hok:ok B32 l):Calls pr surdref01_norm_id #[c.v] w fun e w'=>w'=w∧∃s',e= .returned (Slc.v s')∧RN w s' (val B32 l)∧∀ad,s'.A=some ad→w0.heap.size≤ad.block:=
 Calls.mono (je h.rd hl hok) fun e w' ⟨h1,s',h2,h3,hA⟩=>⟨h1,s',h2,h3,fun ad had=>by
  rw [hA] at had
  obtain ⟨b,_,ho,_,hb,_⟩:=h
  rw [ho.A] at had
  obtain rfl:=Option.some.inj had
  exact hb⟩
theorem cm {w p q} {x y:Nat} (hp:RN w p x) (hq:RN w q y) (la:(digs B32 x).length+1≤2^45) (lb:(digs B32 y).length+1≤2^45):Calls pr surdref01_Add_id #[p.v,q.v] w fun e w'=>Ahead w w'∧∃s',e= .returned (Slc.v s')∧RN w' s' (x+y)∧∀ad,s'.A=some ad→w.heap.size≤ad.block:=by
 have hB32:=B32v
 have hna:=hp.n
 have hnb:=hq.n
 have oa:=yb two32 x
 have ob:=yb two32 y
 have vx:=zu two32 x
 have vy:=zu two32 y
 unfold RN at hp hq
 generalize digs B32 x=A at*
 generalize digs B32 y=C at*
 refine Xp p q w _ (fun s t n out k i w'=>s=p∧t=q∧∃(m:Nat) (l:List Nat) (j cr:Nat),n=(m:Int)∧A.length≤m∧C.length≤m∧m+1≤2^45∧k=(cr:Int)∧cr≤1∧i=(j:Int)∧j≤m+1∧
  Fill w w' out l (fun _=>True)∧l.length=m+1∧ok B32 l∧val B32 (l.take j)+cr*B32^j=val B32 (A.take j)+val B32 (C.take j)) (fun _ _ n _ _ i _=>(n+1 -i).toNat) ?_ ?_
 ·refine zm (fun hlt=> ?_) (fun hlt=> ?_)
  ·rw [zp (x:=(q.n:Int)+1) (by omega) (by omega)]
   refine mkF (S:=fun _=>True) (w0:=w) (by omega) (by omega) (Ahead.refl _) trivial ?_
   intro s w1 hsn hf ha
   refine ⟨rfl,rfl,q.n,_,0,0,rfl,by simp at hlt;omega,by omega,by omega,rfl,by omega,rfl,Nat.zero_le _,hf,by rw [List.length_replicate];omega,yr (by omega) _,by simp [val]⟩
  ·rw [zp (x:=(p.n:Int)+1) (by omega) (by omega)]
   refine mkF (S:=fun _=>True) (w0:=w) (by omega) (by omega) (Ahead.refl _) trivial ?_
   intro s w1 hsn hf ha
   refine ⟨rfl,rfl,p.n,_,0,0,rfl,by omega,by simp at hlt;omega,by omega,rfl,by omega,rfl,Nat.zero_le _,hf,by rw [List.length_replicate];omega,yr (by omega) _,by simp [val]⟩
 ·rintro s t n out k i w1 ⟨rfl,rfl,m,l,j,cr,rfl,hA,hC,hm,rfl,hcr,rfl,hj,hf,hl,ol,hv⟩
  refine zm (fun hlt=> ?_) (fun hge=> ?_)
  ·have hj':j<m+1:=by simp at hlt;omega
   refine Calls.mono (Zq (hp.ahead hf.base) (by omega)) ?_
   rintro e w2 ⟨rfl,rfl⟩
   refine ⟨_,rfl,Calls.mono (Zq (hq.ahead hf.base) (by omega)) ?_⟩
   rintro e w3 ⟨rfl,rfl⟩
   refine ⟨_,rfl, ?_⟩
   simp only [Int.toNat_natCast]
   have hx:=yi oa (by omega:0<B32) j
   have hy:=yi ob (by omega:0<B32) j
   have e8:IntKind.i64.wrap ((j:Int)+1)=((j+1:Nat):Int):=by rw [zp (by omega) (by omega)];omega
   have t1:=yj A j (B:=B32)
   have t2:=yj C j (B:=B32)
   generalize A.getD j 0=a at*
   generalize C.getD j 0=c at*
   have e1:IntKind.u64.wrap (IntKind.u64.wrap ((a:Int)+(c:Int))+(cr:Int))=((a+c+cr:Nat):Int):=by
    rw [yd (x:=(a:Int)+c) (by omega) (by omega),yd (by omega) (by omega)];omega
   have e2:Int.tmod ((a+c+cr:Nat):Int) 4294967296=(((a+c+cr) % B32:Nat):Int):=by rw [Int.tmod_eq_emod_of_nonneg (by omega),hB32];omega
   have e3:IntKind.u64.wrap (Int.tdiv ((a+c+cr:Nat):Int) 4294967296)=(((a+c+cr)/B32:Nat):Int):=by
    have:Int.tdiv ((a+c+cr:Nat):Int) 4294967296=(((a+c+cr)/4294967296:Nat):Int):=by rw [Int.tdiv_eq_ediv_of_nonneg (by omega)];omega
    rw [this,yd (by omega) (by omega),hB32]
   rw [e1,e2,e3]
   refine stF hf (by omega) (by omega) ?_
   intro w5 hf5
   simp only [Int.toNat_natCast] at hf5
   refine ⟨⟨by trivial,by trivial,m,_,j+1,(a+c+cr)/B32,rfl,hA,hC,hm,rfl, ?_,e8,hj',hf5,by simpa using hl,xb ol (Nat.mod_lt _ (by omega)), ?_⟩,by rw [e8];omega⟩
   ·rw [hB32];omega
   ·rw [xu _ _ _ (by omega),t1,t2,Nat.pow_succ]
    exact fh (by have:=Nat.mod_add_div (a+c+cr) B32;omega) hv
  ·have hj':j=m+1:=by simp at hge;omega
   subst hj'
   rw [yx l (by omega),yx A (by omega),yx C (by omega),vx,vy] at hv
   have h1:x<B32^m:=by rw [←vx];exact Nat.lt_of_lt_of_le (xa oa) (Nat.pow_le_pow_right (by omega) hA)
   have h2:y<B32^m:=by rw [←vy];exact Nat.lt_of_lt_of_le (xa ob) (Nat.pow_le_pow_right (by omega) hC)
   have h3:cr=0:=by
    rcases Nat.lt_or_ge cr 1 with h|h
    ·omega
    ·have hc1:cr=1:=by omega
     subst hc1
     have:2*B32^m≤B32^(m+1):=by rw [Nat.pow_succ,Nat.mul_comm];exact Nat.mul_le_mul_left _ (by omega)
     omega
   subst h3
   have hv':val B32 l=x+y:=by omega
   refine Calls.mono (Fill.normN hf (by omega) ol) ?_
   rintro e w6 ⟨rfl,s',rfl,hr,hA⟩
   rw [hv'] at hr
   exact ⟨_,rfl,hf.base,_,rfl,hr,hA⟩
theorem n9 {w p q} {x y:Nat} (hp:RN w p x) (hq:RN w q y) (la:(digs B32 x).length+1≤2^45) (lb:(digs B32 y).length+1≤2^45):Calls pr surdref01_Add_id #[p.v,q.v] w fun e w'=>Ahead w w'∧∃s',e= .returned (Slc.v s')∧RN w' s' (x+y):=
 Calls.mono (cm hp hq la lb) fun e w' ⟨h1,s',h2,h3,_⟩=>⟨h1,s',h2,h3⟩
theorem Q2 {w p q} {x y:Nat} (hp:RN w p x) (hq:RN w q y) (hle:y≤x) (la:(digs B32 x).length≤2^45):Calls pr surdref01_Sub_id #[p.v,q.v] w fun e w'=>Ahead w w'∧∃s',e= .returned (Slc.v s')∧RN w' s' (x -y)∧∀ad,s'.A=some ad→w.heap.size≤ad.block:=by
 have hB32:=B32v
 have hna:=hp.n
 have hnb:=hq.n
 have oa:=yb two32 x
 have ob:=yb two32 y
 have vx:=zu two32 x
 have vy:=zu two32 y
 have hlen:(digs B32 y).length≤(digs B32 x).length:=by
  rcases Nat.lt_or_ge (digs B32 x).length (digs B32 y).length with h|h
  ·have:=td two32 h;omega
  ·exact h
 unfold RN at hp hq
 generalize digs B32 x=A at*
 generalize digs B32 y=C at*
 refine Xz p q w _ (fun s t out k n i w'=>s=p∧t=q∧n=(A.length:Int)∧∃(l:List Nat) (j cr:Nat),k=(cr:Int)∧cr≤1∧i=(j:Int)∧j≤A.length∧
  Fill w w' out l (fun _=>True)∧l.length=A.length∧ok B32 l∧val B32 (l.take j)+val B32 (C.take j)=val B32 (A.take j)+cr*B32^j) (fun _ _ _ _ n i _=>(n -i).toNat) ?_ ?_
 ·refine mkF (S:=fun _=>True) (w0:=w) (by omega) (by omega) (Ahead.refl _) trivial ?_
  intro s w1 hsn hf ha
  refine ⟨rfl,rfl,by rw [hna],_,0,0,rfl,by omega,rfl,Nat.zero_le _,hf,by rw [List.length_replicate];omega,yr (by omega) _,by simp [val]⟩
 ·rintro s t out k n i w1 ⟨rfl,rfl,rfl,l,j,cr,rfl,hcr,rfl,hj,hf,hl,ol,hv⟩
  refine zm (fun hlt=> ?_) (fun hge=> ?_)
  ·have hj':j<A.length:=by simp at hlt;omega
   refine ldNf ((hp.ahead hf.base).ahead (Ahead.drew _)) (by omega) (by omega) ?_
   refine Calls.mono (Zq ((hq.ahead hf.base).ahead (Ahead.drew _)) (by omega)) ?_
   rintro e w4 ⟨rfl,rfl⟩
   have ha4:Ahead w1 w1.drew:=Ahead.drew _
   refine ⟨_,rfl,Ahead.refl _, ?_⟩
   simp only [Int.toNat_natCast]
   have hx:=yi oa (by omega:0<B32) j
   have hy:=yi ob (by omega:0<B32) j
   have e8:IntKind.i64.wrap ((j:Int)+1)=((j+1:Nat):Int):=by rw [zp (by omega) (by omega)];omega
   have t1:=yj A j (B:=B32)
   have t2:=yj C j (B:=B32)
   generalize A.getD j 0=a at*
   generalize C.getD j 0=c at*
   have e1:IntKind.u64.wrap (IntKind.u64.wrap (IntKind.u64.wrap ((a:Int)+4294967296) -(c:Int)) -(cr:Int))=((a+4294967296 -c -cr:Nat):Int):=by
    rw [yd (x:=(a:Int)+4294967296) (by omega) (by omega),yd (x:=(a:Int)+4294967296 -c) (by omega) (by omega),yd (by omega) (by omega)];omega
   have e2:Int.tmod ((a+4294967296 -c -cr:Nat):Int) 4294967296=(((a+4294967296 -c -cr) % B32:Nat):Int):=by rw [Int.tmod_eq_emod_of_nonneg (by omega),hB32];omega
   have e3:IntKind.u64.wrap (1 -IntKind.u64.wrap (Int.tdiv ((a+4294967296 -c -cr:Nat):Int) 4294967296))=((if a<c+cr then 1 else 0:Nat):Int):=by
    have:Int.tdiv ((a+4294967296 -c -cr:Nat):Int) 4294967296=(((a+4294967296 -c -cr)/4294967296:Nat):Int):=by rw [Int.tdiv_eq_ediv_of_nonneg (by omega)];omega
    rw [this,yd (x:=(((a+4294967296 -c -cr)/4294967296:Nat):Int)) (by omega) (by omega),yd (by omega) (by omega)]
    split<;>omega
   rw [e1,e2,e3]
   refine stF (hf.ahead ha4) (by omega) (by omega) ?_
   intro w5 hf5
   simp only [Int.toNat_natCast] at hf5
   refine ⟨⟨by trivial,by trivial,by trivial,_,j+1,if a<c+cr then 1 else 0,rfl,by split<;>omega,e8,hj',hf5,by simpa using hl,xb ol (Nat.mod_lt _ (by omega)), ?_⟩,by rw [e8];omega⟩
   rw [xu _ _ _ (by omega),t1,t2,Nat.pow_succ]
   refine Xn ?_ hv
   rw [hB32]
   rw [hB32] at hx hy
   split<;>omega
  ·have hj':j=A.length:=by simp at hge;omega
   subst hj'
   rw [yx l (by omega),yx A (by omega),yx C (by omega),vx,vy] at hv
   have hlt:=xa ol
   rw [hl] at hlt
   have h3:cr=0:=by
    rcases Nat.lt_or_ge cr 1 with h|h
    ·omega
    ·have hc1:cr=1:=by omega
     subst hc1
     omega
   subst h3
   have hv':val B32 l=x -y:=by omega
   refine Calls.mono (Fill.normN hf (by omega) ol) ?_
   rintro e w6 ⟨rfl,s',rfl,hr,hA⟩
   rw [hv'] at hr
   exact ⟨_,rfl,hf.base,_,rfl,hr,hA⟩
theorem me {w p q} {x y:Nat} (hp:RN w p x) (hq:RN w q y) (hle:y≤x) (la:(digs B32 x).length≤2^45):Calls pr surdref01_Sub_id #[p.v,q.v] w fun e w'=>Ahead w w'∧∃s',e= .returned (Slc.v s')∧RN w' s' (x -y):=
 Calls.mono (Q2 hp hq hle la) fun e w' ⟨h1,s',h2,h3,_⟩=>⟨h1,s',h2,h3⟩
end Ref
end
section
open Go Go.RowKit Eng Sp Dg
namespace Ref
open _root_.Go.Proofs.YtbeiopoejdkheaaGreatDoor.Nat (ldN ldNf stN mkN cutHi cutCap Fill mkF stF stFf Num OwnNil semShl semShr fixShl)
theorem tdiv32 {n:Int} (h0:0≤n) (h1:n≤9223372036854775807):IntKind.i64.wrap (Int.tdiv n 32)=((n.toNat/32:Nat):Int):=by
 have:Int.tdiv n 32=((n.toNat/32:Nat):Int):=by rw [Int.tdiv_eq_ediv_of_nonneg h0];omega
 rw [this,zp (by omega) (by omega)]
theorem tmod32 {n:Int} (h0:0≤n):Int.tmod n 32=((n.toNat % 32:Nat):Int):=by rw [Int.tmod_eq_emod_of_nonneg h0];omega
theorem v7 {w p} {x:Nat} {n:Int} (hp:RN w p x) (h0:0≤n) (h1:n≤9223372036854775807) (la:(digs B32 x).length+n.toNat/32+1≤2^45):Calls pr surdref01_Shl_id #[p.v, .int .i64 n] w fun e w'=>Ahead w w'∧∃s',e= .returned (Slc.v s')∧RN w' s' (x*2^n.toNat):=by
 have hB32:=B32v
 have hB:=B64v
 have hna:=hp.n
 have oa:=yb two32 x
 have vx:=zu two32 x
 have hp2:(2^32)^(n.toNat/32)*2^(n.toNat % 32)=2^n.toNat:=(tf n.toNat 32).symm
 have hw:n.toNat % 32<32:=Nat.mod_lt _ (by omega)
 have h32:B32=2^32:=rfl
 unfold RN at hp
 have hz0:digs B32 x= []→x=0:=fun h=>by rw [h] at vx;exact vx.symm
 generalize digs B32 x=A at*
 refine Xx p n w _ (fun t1 out t6 t21 t22 t23 w'=>t1=n∧t6=((n.toNat % 32:Nat):Int)∧t21=p∧t22=(A.length:Int)∧∃(l:List Nat) (j:Nat),t23=(j:Int)∧j≤A.length∧
  Fill w w' out l (fun _=>True)∧l.length=A.length+n.toNat/32+1∧ok B32 l∧val B32 l=val B32 (A.take j)*(B32^(n.toNat/32)*2^(n.toNat % 32))) (fun _ _ _ _ n i _=>(n -i).toNat) ?_ ?_
 ·refine zm (fun hz=> ?_) (fun hz=> ?_)
  ·have hx:=hz0 (List.eq_nil_of_length_eq_zero (by simp at hz;omega))
   subst hx
   exact ⟨Ahead.refl _,_,rfl,by rw [Nat.zero_mul];exact RN.nil⟩
  ·rw [tdiv32 h0 h1,tmod32 h0,zp (x:=(p.n:Int)+_) (by omega) (by omega),zp (x:=(p.n:Int)+_+1) (by omega) (by omega)]
   refine mkF (S:=fun _=>True) (w0:=w) (by omega) (by omega) (Ahead.refl _) trivial ?_
   intro s w1 hsn hf ha
   refine ⟨rfl,rfl,rfl,by rw [hna],_,0,rfl,Nat.zero_le _,hf,by rw [List.length_replicate];omega,yr (by omega) _, ?_⟩
   rw [xn];simp [val]
 ·rintro t1 out t6 t21 t22 t23 w1 ⟨rfl,rfl,rfl,rfl,l,j,rfl,hj,hf,hl,ol,hv⟩
  refine zm (fun hlt=> ?_) (fun hge=> ?_)
  ·have hj':j<A.length:=by simp at hlt;omega
   have hfacts:=pv (w:=32) (l:=l) (A:=A) (j:=j) (wd:=t1.toNat/32) (s:=t1.toNat % 32) hw (by omega) oa hj' hv
   have hx:=yi oa (by omega:0<B32) j
   rw [tdiv32 h0 h1,zp (x:=(j:Int)+_) (by omega) (by omega),show (j:Int)+((t1.toNat/32:Nat):Int)=((t1.toNat/32+j:Nat):Int) by omega,
    zp (x:=((t1.toNat/32+j:Nat):Int)+1) (by omega) (by omega),show ((t1.toNat/32+j:Nat):Int)+1=((t1.toNat/32+j+1:Nat):Int) by omega]
   refine ldN (hp.ahead hf.base) (by omega) (by omega) ?_
   refine ldNf hf.rd (by omega) (by omega) ?_
   rw [Int.toNat_natCast,Int.toNat_natCast]
   refine fixShl (by omega) ?_
   have hp4:2^(t1.toNat % 32)≤2^31:=Nat.pow_le_pow_right (by omega) (by omega)
   have hprod:A.getD j 0*2^(t1.toNat % 32)<B64:=by
    have:A.getD j 0*2^(t1.toNat % 32)≤4294967296*2^31:=Nat.mul_le_mul (by omega) hp4
    omega
   rw [Nat.mod_eq_of_lt hprod]
   have hlo:=kv (A.getD j 0) (t1.toNat % 32) 32 (by omega)
   have hmul:l.getD (t1.toNat/32+j) 0+A.getD j 0*2^(t1.toNat % 32) % 2^32<2^32:=by
    rw [hlo]
    have e:2^(t1.toNat % 32)*2^(32 -t1.toNat % 32)=2^32:=by rw [←Nat.pow_add];congr 1;omega
    have hm:A.getD j 0 % 2^(32 -t1.toNat % 32)+1≤2^(32 -t1.toNat % 32):=Nat.mod_lt _ (Nat.pow_pos (by omega))
    have:=Nat.mul_le_mul_left (2^(t1.toNat % 32)) hm
    rw [Nat.mul_add,e] at this
    have:=hfacts.1
    omega
   have e1:IntKind.u64.wrap (((l.getD (t1.toNat/32+j) 0:Nat):Int)+Int.tmod ((A.getD j 0*2^(t1.toNat % 32):Nat):Int) 4294967296)=((l.getD (t1.toNat/32+j) 0+A.getD j 0*2^(t1.toNat % 32) % 2^32:Nat):Int):=by
    generalize A.getD j 0*2^(t1.toNat % 32)=v at*
    rw [Int.tmod_eq_emod_of_nonneg (by omega)]
    rw [yd (by omega) (by omega)];omega
   rw [e1]
   refine stFf hf (Ahead.drew _) (by omega) (by omega) ?_
   intro w3 hf3
   rw [Int.toNat_natCast] at hf3
   refine semShl (by omega) ?_
   rw [Nat.mod_eq_of_lt hprod]
   have e3:IntKind.u64.wrap (Int.tdiv ((A.getD j 0*2^(t1.toNat % 32):Nat):Int) 4294967296)=((A.getD j 0*2^(t1.toNat % 32)/2^32:Nat):Int):=by
    generalize A.getD j 0*2^(t1.toNat % 32)=v at*
    have:Int.tdiv (v:Int) 4294967296=((v/2^32:Nat):Int):=by rw [Int.tdiv_eq_ediv_of_nonneg (by omega)];omega
    rw [this,yd (by omega) (by omega)]
   rw [e3]
   have hhi:A.getD j 0*2^(t1.toNat % 32)/2^32<B32:=by
    rw [my _ _ _ (by omega)]
    exact Nat.lt_of_le_of_lt (Nat.div_le_self _ _) hx
   refine stF hf3 (by omega) (by simp;omega) ?_
   intro w6 hf6
   rw [Int.toNat_natCast] at hf6
   have e8:IntKind.i64.wrap ((j:Int)+1)=((j+1:Nat):Int):=by rw [zp (by omega) (by omega)];omega
   exact ⟨⟨rfl,rfl,rfl,rfl,_,j+1,e8,hj',hf6,by simpa using hl,xb (xb ol hmul) hhi,kp (w:=32) hw (by omega) oa hj' hv rfl rfl⟩,by rw [e8];omega⟩
  ·have hj':j=A.length:=by simp at hge;omega
   subst hj'
   rw [List.take_length,vx] at hv
   have hv':val B32 l=x*2^t1.toNat:=by rw [hv,←hp2,h32]
   refine Calls.mono (Fill.norm hf (by omega) ol) ?_
   rintro e w6 ⟨rfl,s',rfl,hr⟩
   rw [hv'] at hr
   exact ⟨_,rfl,hf.base,_,rfl,hr⟩
theorem zcm (U s:Nat) (hs:s<32):(U % 2^32+2^32*(U/2^32 % 2^32))/2^s % 2^32=U/2^s % 2^32:=by
 have e1:2^32*2^32=2^s*2^(64 -s):=by rw [←Nat.pow_add,←Nat.pow_add];congr 1;omega
 have e2:2^(64 -s)=2^32*2^(32 -s):=by rw [←Nat.pow_add];congr 1;omega
 have e3:U % 2^32+2^32*(U/2^32 % 2^32)=U % (2^s*2^(64 -s)):=by rw [←e1];exact (Nat.mod_mul).symm
 rw [e3,Nat.mod_mul_right_div_self,e2,Nat.mod_mul_right_mod]
theorem zbj {w p} {x:Nat} {n:Int} (hp:RN w p x) (h0:0≤n) (h1:n≤9223372036854775807) (la:(digs B32 x).length≤2^45):Calls pr surdref01_Shr_id #[p.v, .int .i64 n] w fun e w'=>Ahead w w'∧∃s',e= .returned (Slc.v s')∧RN w' s' (x/2^n.toNat)∧∀ad,s'.A=some ad→w.heap.size≤ad.block:=by
 have hB32:=B32v
 have hB:=B64v
 have hna:=hp.n
 have oa:=yb two32 x
 have vx:=zu two32 x
 have h32:B32=2^32:=rfl
 have hp2:B32^(n.toNat/32)*2^(n.toNat % 32)=2^n.toNat:=(tf n.toNat 32).symm
 have hw:n.toNat % 32<32:=Nat.mod_lt _ (by omega)
 unfold RN at hp
 generalize digs B32 x=A at*
 refine Xy p n w _ (fun t0 t1 out t6 t23 t24 w'=>t0=p∧t1=n∧t6=((n.toNat % 32:Nat):Int)∧t23=((A.length -n.toNat/32:Nat):Int)∧n.toNat/32<A.length∧∃(l:List Nat) (j:Nat),t24=(j:Int)∧j≤A.length -n.toNat/32∧
  Fill w w' out l (fun _=>True)∧l.length=A.length -n.toNat/32∧ok B32 l∧∀i,i<j→l.getD i 0=x/2^n.toNat/B32^i % B32) (fun _ _ _ _ n i _=>(n -i).toNat) ?_ ?_
 ·rw [tdiv32 h0 h1,tmod32 h0]
  refine zm (fun hz=> ?_) (fun hz=> ?_)
  ·have hz':A.length≤n.toNat/32:=by simp at hz;omega
   have hv:x/2^n.toNat=0:=by
    apply Nat.div_eq_of_lt
    rw [←vx,←hp2]
    refine Nat.lt_of_lt_of_le (xa oa) (Nat.le_trans (Nat.pow_le_pow_right (by omega) hz') ?_)
    exact Nat.le_mul_of_pos_right _ (Nat.pow_pos (by omega))
   exact ⟨Ahead.refl _,_,rfl,by rw [hv];exact RN.nil,fun ad h=>by cases h⟩
  ·have hz':n.toNat/32<A.length:=by simp at hz;omega
   rw [zp (x:=(p.n:Int) -_) (by omega) (by omega),show (p.n:Int) -((n.toNat/32:Nat):Int)=((A.length -n.toNat/32:Nat):Int) by omega]
   refine mkF (S:=fun _=>True) (w0:=w) (by omega) (by omega) (Ahead.refl _) trivial ?_
   intro s w1 hsn hf ha
   exact ⟨rfl,rfl,rfl,by rw [hsn];simp,hz',_,0,rfl,Nat.zero_le _,hf,by simp,yr (by omega) _,fun i hi=>by omega⟩
 ·rintro t0 t1 out t6 t23 t24 w1 ⟨rfl,rfl,rfl,rfl,hz,l,j,rfl,hj,hf,hl,ol,hd⟩
  refine zm (fun hlt=> ?_) (fun hge=> ?_)
  ·have hj':j<A.length -t1.toNat/32:=by simp at hlt;omega
   have hx:=yi oa (by omega:0<B32) (t1.toNat/32+j)
   have hy:=yi oa (by omega:0<B32) (t1.toNat/32+j+1)
   rw [tdiv32 h0 h1,zp (x:=(j:Int)+_) (by omega) (by omega),show (j:Int)+((t1.toNat/32:Nat):Int)=((t1.toNat/32+j:Nat):Int) by omega,
    zp (x:=((t1.toNat/32+j:Nat):Int)+1) (by omega) (by omega),show ((t1.toNat/32+j:Nat):Int)+1=((t1.toNat/32+j+1:Nat):Int) by omega]
   refine ldNf ((hp.ahead hf.base).ahead (Ahead.drew _)) (by omega) (by omega) ?_
   refine Calls.mono (Zq ((hp.ahead hf.base).ahead (Ahead.drew _)) (by omega)) ?_
   rintro e w4 ⟨rfl,rfl⟩
   have ha4:Ahead w1 w1.drew:=Ahead.drew _
   refine ⟨_,rfl,Ahead.refl _, ?_⟩
   simp only [Int.toNat_natCast]
   have e1:IntKind.u64.wrap (((A.getD (t1.toNat/32+j) 0:Nat):Int)+IntKind.u64.wrap (((A.getD (t1.toNat/32+j+1) 0:Nat):Int)*4294967296))=((A.getD (t1.toNat/32+j) 0+B32*A.getD (t1.toNat/32+j+1) 0:Nat):Int):=by
    generalize A.getD (t1.toNat/32+j) 0=a at*
    generalize A.getD (t1.toNat/32+j+1) 0=b at*
    rw [hB32] at*
    rw [yd (x:=(b:Int)*4294967296) (by omega) (by omega),yd (by omega) (by omega)];omega
   rw [e1]
   refine semShr (by omega) ?_
   have e2:∀v:Nat,Int.tmod (v:Int) 4294967296=((v % B32:Nat):Int):=fun v=>by rw [Int.tmod_eq_emod_of_nonneg (by omega),hB32];omega
   rw [e2]
   refine stF (hf.ahead ha4) (by omega) (by omega) ?_
   intro w7 hf7
   rw [Int.toNat_natCast] at hf7
   have e8:IntKind.i64.wrap ((j:Int)+1)=((j+1:Nat):Int):=by rw [zp (by omega) (by omega)];omega
   refine ⟨⟨by trivial,by trivial,by trivial,by trivial,hz,_,j+1,e8,hj',hf7,by simpa using hl,xb ol (Nat.mod_lt _ (by omega)),fun i hi=> ?_⟩,by rw [e8];omega⟩
   rw [xd _ _ _ _ (by omega)]
   split
   ·rename_i hij
    subst hij
    rw [digit (by omega:0<B32) A oa (t1.toNat/32+j),digit (by omega:0<B32) A oa (t1.toNat/32+j+1),vx,←hp2,Nat.pow_succ,h32,kf,←Nat.div_div_eq_div_mul,←Nat.div_div_eq_div_mul]
    exact zcm _ _ hw
   ·exact hd i (by omega)
  ·have hj':j=A.length -t1.toNat/32:=by simp at hge;omega
   subst hj'
   have hv:val B32 l=x/2^t1.toNat:=by
    refine tq (by omega) l _ ?_ (fun i hi=>hd i (by omega))
    rw [Nat.div_lt_iff_lt_mul (Nat.pow_pos (by omega)),←hp2,←Nat.mul_assoc,hl,←Nat.pow_add,show A.length -t1.toNat/32+t1.toNat/32=A.length by omega,←vx]
    exact Nat.lt_of_lt_of_le (xa oa) (Nat.le_mul_of_pos_right _ (Nat.pow_pos (by omega)))
   refine Calls.mono (je hf.rd (by omega) ol) ?_
   rintro e w6 ⟨rfl,s',rfl,hr,hA⟩
   rw [hv] at hr
   refine ⟨_,rfl,hf.base,_,rfl,hr,fun ad had=> ?_⟩
   try dsimp only
   rw [hA] at had
   obtain ⟨b,_,ho,_,hb,_⟩:=hf
   rw [ho.A] at had
   obtain rfl:=Option.some.inj had
   exact hb
theorem qw {w p} {x:Nat} {n:Int} (hp:RN w p x) (h0:0≤n) (h1:n≤9223372036854775807) (la:(digs B32 x).length≤2^45):Calls pr surdref01_Shr_id #[p.v, .int .i64 n] w fun e w'=>Ahead w w'∧∃s',e= .returned (Slc.v s')∧RN w' s' (x/2^n.toNat):=
 Calls.mono (zbj hp h0 h1 la) fun e w' ⟨h1,s',h2,h3,_⟩=>⟨h1,s',h2,h3⟩
theorem xh {B x y:Nat} (hB:2≤B) (h:x≤y):(digs B x).length≤(digs B y).length:=by
 rcases Nat.lt_or_ge (digs B y).length (digs B x).length with h1|h1
 ·have:=td hB h1;omega
 ·exact h1
def A5:Nat:=10855845
def lent (l:List Nat):List Nat:=A5::A5::(l++ [A5,A5])
def Lent (base:Nat) (w:World) (s t:Slc) (l:List Nat):Prop:=
 ∃b,base≤b∧s.c=l.length+4∧Owr .u64 tU64 w s (nn (lent l)) b∧t=⟨some ⟨b,2,none⟩,l.length,l.length+2⟩
theorem Lent.whole {base:Nat} {w s t} {l:List Nat} (h:Lent base w s t l):Rd .u64 w s (nn (lent l)):=by
 obtain ⟨b,_,_,ho,_⟩:=h;exact ho.rd
end Ref
end
section
open Go Go.RowKit Eng Sp Dg
namespace Dy
open _root_.Go.Proofs.YtbeiopoejdkheaaGreatDoor.Nat (ldN ldNf stF stFf mkF Fill OwnNil Num Num.bl OwnNil.mono bigC xc rightC Ph yn us xe semShr fixShl uj zw)
open Sb
theorem tdivN {n:Nat} (h:n≤9223372036854775807):IntKind.i64.wrap (Int.tdiv (n:Int) 64)=((n/64:Nat):Int):=by
 have:Int.tdiv (n:Int) 64=((n/64:Nat):Int):=by rw [Int.tdiv_eq_ediv_of_nonneg (by omega)];omega
 rw [this,zp (by omega) (by omega)]
theorem tmodN (n:Nat):IntKind.u64.wrap (Int.tmod (n:Int) 64)=((n % 64:Nat):Int):=by
 rw [Int.tmod_eq_emod_of_nonneg (by omega),xt];omega
theorem Zg {w a} {x k:Nat} (ra:Rd .u64 w a (nn (digs B64 x))) (na:(digs B64 x).length≤2^44) (hk:k<bl x):Calls pr dyadic_shifted_id #[a.v, .int .i64 (k:Int)] w fun e w'=>Ahead w w'∧∃s,e= .returned (Slc.v s)∧OwnNil w.heap.size w' s (digs B64 (x/2^k)):=by
 have hB:=B64v
 have h64:B64=2^64:=rfl
 have hA0:=zu two64 x
 have hoA:=yb two64 x
 have hbl:=kj hoA
 rw [hA0] at hbl
 have hw:k % 64<64:=Nat.mod_lt _ (by omega)
 have hp2:B64^(k/64)*2^(k % 64)=2^k:=(tf k 64).symm
 have hnum:Num w a x:=⟨_,ra,na,hoA,hA0⟩
 have hna:a.n=(digs B64 x).length:=by rw [ra.n,nn_length]
 generalize digs B64 x=A at*
 have hk64:k/64<A.length:=by omega
 refine Z5 a k w _ (fun t0 t7 t8 t9 t31 t32 w'=>t0=a∧t7=((k/64:Nat):Int)∧t8=((k % 64:Nat):Int)∧t31=((A.length -k/64:Nat):Int)∧∃(l:List Nat) (j:Nat),t32=(j:Int)∧j≤A.length -k/64∧
  Fill w w' t9 l (fun w'=>Rd .u64 w' a (nn A))∧l.length=A.length -k/64∧ok B64 l∧∀i,i<j→l.getD i 0=x/2^k/B64^i % B64) (fun _ _ _ _ n i _=>(n -i).toNat) ?_ ?_
 ·refine Calls.mono (Ph hnum (n:=(k:Int))) ?_
  rintro e w1 ⟨h1,s,rfl,os⟩
  have ek:((k:Int)).toNat=k:=by omega
  rw [ek] at os
  refine ⟨_,_,rfl,zm (fun hc=> ?_) (fun hc=> ?_)⟩
  ·have hc0:rightC x (k:Int)=0:=by simpa using hc
   rw [if_pos hc0] at os
   exact ⟨h1,s,rfl,os⟩
  ·rw [tdivN (by omega),tmodN,hna,zp (by omega) (by omega),show (A.length:Int) -((k/64:Nat):Int)=((A.length -k/64:Nat):Int) by omega]
   refine mkF (w0:=w) (S:=fun w'=>Rd .u64 w' a (nn A)) (by omega) (by omega) h1 (ra.ahead h1) ?_
   intro c w3 hcn hf ha
   exact ⟨rfl,rfl,rfl,by rw [hcn];simp,_,0,rfl,Nat.zero_le _,hf,by simp,yr (by omega) _,fun i hi=>by omega⟩
 ·rintro t0 t7 t8 t9 t31 t32 w' ⟨rfl,rfl,rfl,rfl,l,j,rfl,hj,hf,hl,ol,hd⟩
  have hS:=hf.src (fun _ h hs=>Rd.ahead hs h)
  have hN:∀i,x/2^k/B64^i % B64=A.getD (k/64+i) 0/2^(k % 64)+2^(64 -k % 64)*(A.getD (k/64+i+1) 0 % 2^(k % 64)):=by
   intro i
   rw [digit (by omega:0<B64) A hoA (k/64+i),digit (by omega:0<B64) A hoA (k/64+i+1),hA0,←hp2]
   rw [h64,kf,j8 _ _ _ _ hw]
   congr 2
   generalize x/(2^64)^(k/64+i+1)=U
   rw [show 2^64=2^(k % 64)*2^(64 -k % 64) by rw [←Nat.pow_add];congr 1;omega,Nat.mod_mul_right_mod]
  refine zm (fun hlt=> ?_) (fun hge=> ?_)
  ·have hj':j<A.length -k/64:=by simp at hlt;omega
   have hx:=yi hoA (by omega:0<B64) (k/64+j)
   have hN':=hN j
   have e8:IntKind.i64.wrap ((j:Int)+1)=((j+1:Nat):Int):=by rw [zp (by omega) (by omega)];omega
   rw [zp (x:=(j:Int)+((k/64:Nat):Int)) (by omega) (by omega),show (j:Int)+((k/64:Nat):Int)=((k/64+j:Nat):Int) by omega,
    zp (x:=((k/64+j:Nat):Int)+1) (by omega) (by omega),show ((k/64+j:Nat):Int)+1=((k/64+j+1:Nat):Int) by omega]
   refine ldN hS (by omega) (by omega) ?_
   refine semShr (by omega) ?_
   simp only [Int.toNat_natCast]
   have hq:A.getD (k/64+j) 0/2^(k % 64)<B64:=Nat.lt_of_le_of_lt (Nat.div_le_self _ _) hx
   have hvlt:x/2^k/B64^j % B64<B64:=Nat.mod_lt _ (by omega)
   refine stF hf (by omega) (by omega) ?_
   intro w6 hf6
   simp only [Int.toNat_natCast] at hf6
   have fin:∀{w7:World},Fill w w7 t9 (l.set j (x/2^k/B64^j % B64)) (fun w'=>Rd .u64 w' t0 (nn A))→
     (True∧True∧True∧True∧∃(l:List Nat) (j':Nat),IntKind.i64.wrap ((j:Int)+1)=(j':Int)∧j'≤A.length -k/64∧
      Fill w w7 t9 l (fun w'=>Rd .u64 w' t0 (nn A))∧l.length=A.length -k/64∧ok B64 l∧∀i,i<j'→l.getD i 0=x/2^k/B64^i % B64)∧
     (((A.length -k/64:Nat):Int) -IntKind.i64.wrap ((j:Int)+1)).toNat<(((A.length -k/64:Nat):Int) -(j:Int)).toNat:=by
    intro w7 hf7
    refine ⟨⟨trivial,trivial,trivial,trivial,_,j+1,e8,by omega,hf7,by simpa using hl,xb ol hvlt,fun i hi=> ?_⟩,by rw [e8];omega⟩
    rw [xd _ _ _ _ (by omega)]
    split
    ·rename_i h;subst h;rfl
    ·exact hd i (by omega)
   refine zm (fun hs=>zm (fun hin=> ?_) (fun hin=> ?_)) (fun hs=> ?_)
   ·have hs1:0<k % 64:=by simp at hs;omega
    have hin':k/64+j+1<A.length:=by simp at hin;omega
    have hS6:=hf6.src (fun _ h hs=>Rd.ahead hs h)
    refine ldNf hf6.rd (by omega) (by simp;omega) ?_
    refine ldNf hS6 (by omega) (by omega) ?_
    simp only [Int.toNat_natCast]
    rw [show IntKind.u64.wrap (64 -((k % 64:Nat):Int))=((64 -k % 64:Nat):Int) by rw [yd (by omega) (by omega)];omega]
    refine fixShl (by omega) ?_
    rw [xd _ _ _ _ (by omega),if_pos rfl,uj hq (Nat.mod_lt _ (by omega))]
    have e5:A.getD (k/64+j+1) 0*2^(64 -k % 64) % B64=2^(64 -k % 64)*(A.getD (k/64+j+1) 0 % 2^(k % 64)):=by
     rw [h64,kv _ _ _ (by omega)]
     congr 3;omega
    have hql:A.getD (k/64+j) 0/2^(k % 64)<2^(64 -k % 64):=by
     rw [Nat.div_lt_iff_lt_mul (Nat.pow_pos (by omega)),←Nat.pow_add,show 64 -k % 64+k % 64=64 by omega]
     exact hx
    rw [e5,kr hql,←hN']
    refine stFf hf6 (Ahead.drew _) (by omega) (by simp;omega) ?_
    intro w7 hf7
    simp only [Int.toNat_natCast,List.set_set] at hf7
    exact fin hf7
   ·have hin':A.length≤k/64+j+1:=by simp at hin;omega
    rw [ui A 0 hin',Nat.zero_mod,Nat.mul_zero,Nat.add_zero] at hN'
    rw [←hN'] at hf6
    exact fin hf6
   ·have hs0:k % 64=0:=by simp at hs;omega
    have:x/2^k/B64^j % B64=A.getD (k/64+j) 0/2^(k % 64):=by rw [hN',hs0];simp [Nat.mod_one]
    rw [←this] at hf6
    exact fin hf6
  ·have hj':j=A.length -k/64:=by simp at hge;omega
   subst hj'
   have hv:val B64 l=x/2^k:=by
    refine tq (by omega) l _ ?_ (fun i hi=>hd i (by omega))
    rw [Nat.div_lt_iff_lt_mul (Nat.pow_pos (by omega)),←hp2,←Nat.mul_assoc,hl,←Nat.pow_add,show A.length -k/64+k/64=A.length by omega,←hA0]
    exact Nat.lt_of_lt_of_le (xa hoA) (Nat.le_mul_of_pos_right _ (Nat.pow_pos (by omega)))
   refine Calls.mono (yn hf.rd (by omega) ol) ?_
   rw [hv]
   rintro e w3 ⟨h3,s,rfl,os⟩
   exact ⟨_,rfl,hf.base.trans h3,_,rfl,os.mono hf.base.size⟩
def nD (neg:Bool) (x:Nat):Bool:=neg&&decide (x≠0)
def eD (x:Nat) (e:Int):Int:=if x=0 then 0 else e+tz x
def wi (e:Int):Prop:= -1099511627776≤e∧e≤1099511627776
instance (e:Int):Decidable (wi e):=inferInstanceAs (Decidable (_∧_))
def tC (x:Nat) (e:Int):Int:=if 67108864<bl (od x) then 3 else if wi (eD x e) then 0 else 80
def DOut (w:World) (code:Int) (neg:Bool) (x:Nat) (e:Int) (en:Ending) (w':World):Prop:=Ahead w w'∧∃s,en= .returned (.tuple #[.agg (c3 (if code=0 then nD neg x else false) s (if code=0 then eD x e else 0)), .int .i64 code])∧
 OwnNil w.heap.size w' s (if code=0 then digs B64 (od x) else [])
theorem DOut.refused {w w'} {code c:Int} {neg:Bool} {x:Nat} {e:Int} (h:Ahead w w') (hc:code=c) (h0:c≠0):DOut w code neg x e (.returned (.tuple #[.agg (c3 false ⟨none,0,0⟩ 0), .int .i64 c])) w':=by
 subst hc
 exact ⟨h,_,by rw [if_neg h0,if_neg h0],Or.inl ⟨rfl,if_neg h0⟩⟩
theorem DOut.told {w w'} {code:Int} {neg:Bool} {x:Nat} {e:Int} {s} (h:Ahead w w') (hc:code=0) (ho:OwnNil w.heap.size w' s (digs B64 (od x))):DOut w code neg x e (.returned (.tuple #[.agg (c3 (nD neg x) s (eD x e)), .int .i64 0])) w':=by
 subst hc
 exact ⟨h,s,rfl,ho⟩
theorem gj (neg:Bool):nD neg 0=false:=by simp [nD]
theorem pw {neg:Bool} {x:Nat} (h:x≠0):nD neg x=neg:=by simp [nD,h]
theorem zf4 (neg:Bool) (x:Nat):nD (nD neg x) (od x)=nD neg x:=by
 by_cases h:x=0
 ·subst h;simp [nD,vq]
 ·rw [pw h,pw (M9 h)]
theorem pu (e:Int):eD 0 e=0:=if_pos rfl
theorem kh {w:World} {e:Int} :Calls pr dyadic_within_id #[.int .i64 e] w fun en w'=>w'=w∧en= .returned (.bool (decide (wi e))):=by
 refine Yz e w _ (zm (fun h=>⟨rfl, ?_⟩) (fun h=>⟨rfl, ?_⟩))
 ·have h1: -1099511627776≤e:=by simpa using h
  congr 2
  simp [wi,h1]
 ·have h1:¬-1099511627776≤e:=by simpa using h
  congr 2
  simp [wi,h1]
theorem Ff {x:Nat} :bl x=0↔x=0:=⟨fun h=>by rcases Nat.eq_zero_or_pos x with h1|h1;exact h1;have:=vf (n:=x) (by omega);omega,fun h=>by rw [h,xm]⟩
def sgn (neg:Bool) (x:Nat):Int:=if x=0 then 0 else if neg then -1 else 1
theorem ug {w} {neg:Bool} {s} {x:Nat} (h:Num w s x):Calls pr whole_Sign_id #[.agg (c2 neg s)] w fun e w'=>Ahead w w'∧e= .returned (.int .i64 (sgn neg x)):=by
 refine M0 neg s w _ (yv fun b w1 hb h1 hs1 B1=> ?_)
 refine vj 1 B1 rfl (Calls.mono (xe (h.ahead h1)) ?_)
 rintro e w2 ⟨rfl,rfl⟩
 refine ⟨_,rfl,zm (fun hz=> ?_) (fun hz=> ?_)⟩
 ·have hx:x=0:=Ff.1 (by simpa using hz)
  exact ⟨h1,by rw [sgn,if_pos hx]⟩
 ·have hx:x≠0:=fun e=>by rw [e,xm] at hz;simp at hz
  refine uu 0 B1 rfl ?_
  cases neg
  ·exact zt rfl ⟨h1,by rw [sgn,if_neg hx];rfl⟩
  ·exact yz rfl ⟨h1,by rw [sgn,if_neg hx];rfl⟩
theorem tp {neg:Bool} {x:Nat} :sgn neg x=0↔x=0:=by
 unfold sgn
 by_cases h:x=0
 ·simp [h]
 ·rw [if_neg h]
  cases neg<;>simp [h]
theorem uk {w} {neg:Bool} {s} {x:Nat} (h:Num w s x):Calls pr dyadic_part_sign_id #[.agg (c2 neg s)] w fun e w'=>Ahead w w'∧e= .returned (.int .i64 (sgn neg x)):=by
 refine dr neg s w _ (yv fun b w1 hb h1 hs1 B1=> ?_)
 refine get2 B1 rfl rfl (Calls.mono (ug (h.ahead h1)) ?_)
 rintro e w2 ⟨h2,rfl⟩
 exact ⟨_,rfl,h1.trans h2,rfl⟩
theorem mg {w} {neg:Bool} {s} {x:Nat} (h:Num w s x):Calls pr dyadic_part_length_id #[.agg (c2 neg s)] w fun e w'=>Ahead w w'∧e= .returned (.int .i64 (bl x)):=by
 refine gi neg s w _ (yv fun b w1 hb h1 hs1 B1=> ?_)
 refine vj 1 B1 rfl (Calls.mono (xe (h.ahead h1)) ?_)
 rintro e w2 ⟨rfl,rfl⟩
 exact ⟨_,rfl,h1,rfl⟩
theorem H8 {w} {neg:Bool} {s} {x:Nat} {e:Int} (hT:Tab w) (h:Num w s x) (he: -4611686018427387904≤e∧e≤4611686018427387904):Calls pr dyadic_odd_id #[.agg (c2 neg s), .int .i64 e] w fun en w'=>Ahead w w'∧∃s',en= .returned (.agg (c3 (nD neg x) s' (eD x e)))∧OwnNil w.heap.size w' s' (digs B64 (od x)):=by
 refine P4 neg s e w _ (yv fun b1 w1 hb1 h1 hs1 B1=>yv fun b2 w2 hb2 h2 hs2 B2=> ?_)
 have B1':=B1.ahead h2
 have h12:=h1.trans h2
 have hne:b2≠b1:=by omega
 have n2:=h.ahead h12
 refine get2 B1' rfl rfl (Calls.mono (ug n2) ?_)
 rintro en w3 ⟨h3,rfl⟩
 have h13:=h12.trans h3
 have B13:=B1'.ahead h3
 have B23:=B2.ahead h3
 refine ⟨_,rfl,zm (fun hz=> ?_) (fun hz=> ?_)⟩
 ·have hx:x=0:=tp.1 (by simpa using hz)
  subst hx
  refine ret3 B23 fun w' u _=>⟨u.ahead h13 (by omega),_,by rw [gj,pu],Or.inl ⟨rfl,by rw [vq,yq]⟩⟩
 ·have hx:x≠0:=fun e0=>by rw [e0] at hz;simp [sgn] at hz
  obtain ⟨l,ra,na,oa,hv⟩:=h.ahead h13
  refine vj 1 B13 rfl (Calls.mono (yn ra na oa) ?_)
  rw [hv]
  rintro en w7 ⟨h7,s4,rfl,o4⟩
  have hdl:=Nat.tr oa
  rw [hv] at hdl
  have hbl:=Num.bl h
  have htz:=za9 hx
  refine ⟨_,rfl,p5 1 (B13.ahead h7) (by simp) rfl fun w8 u8 C1=> ?_⟩
  have o8:=u8.own o4 (by have:=h13.size;have:=h3.size;omega)
  have h18:Ahead w w8:=u8.ahead (h13.trans h7) (by omega)
  have B28:Blk w8 b2 _:=u8.blk (B23.ahead h7) hne
  refine vj (x:=s4) 1 C1 rfl (Calls.mono (mj (hT.ahead h18) o8.rd (by omega) (yb two64 _)) ?_)
  rw [zu two64]
  rintro en w9 ⟨rfl,rfl⟩
  refine ⟨_,rfl,zm (fun hk=> ?_) (fun hk=> ?_)⟩
  ·refine vj (x:=s4) 1 C1 rfl (Calls.mono (Zg o8.rd (by omega) htz) ?_)
   rintro en w10 ⟨h10,s7,rfl,o7⟩
   have C10:=C1.ahead h10
   refine ⟨_,rfl,p5 1 C10 (by simp) rfl fun w11 u11 C11=> ?_⟩
   have hsz:=h18.size
   have o11:=u11.own o7 (by have:=u8.size;have:=h7.size;have:=h3.size;omega)
   refine get2 (x:=neg) (s:=s7) C11 rfl rfl ?_
   have B211:Blk w11 b2 _:=u11.blk (B28.ahead h10) hne
   refine ret3 B211 fun w' u _=> ?_
   have h11:Ahead w w11:=u11.ahead (h18.trans h10) (by omega)
   refine ⟨u.ahead h11 (by omega),s7, ?_,(u.own o11 (by have:=u8.size;have:=h7.size;have:=h3.size;omega)).mono hsz⟩
   rw [pw hx,eD,if_neg hx,zp (by omega) (by omega)]
  ·have hk0:tz x=0:=by simp at hk;omega
   refine get2 (x:=neg) (s:=s4) C1 rfl rfl ?_
   refine ret3 B28 fun w' u _=> ?_
   refine ⟨u.ahead h18 (by omega),s4, ?_, ?_⟩
   ·rw [pw hx,eD,if_neg hx,zp (by omega) (by omega)]
   ·rw [od,hk0,Nat.pow_zero,Nat.div_one]
    exact (u.own o8 (by have:=h13.size;have:=h3.size;omega)).mono (by have:=h13.size;omega)
theorem zca {w s} {x b:Nat} (h:OwnNil b w s (digs B64 (od x))) (hl:(digs B64 x).length≤2^44):Num w s (od x):=
 ⟨_,h.rd,Nat.le_trans (Ref.xh two64 (ms x)) hl,yb two64 _,zu two64 _⟩
theorem Zv {w s} {x:Nat} (h:Num w s x):(digs B64 x).length≤2^44:=by
 obtain ⟨l,_,hl,ol,rfl⟩:=h
 exact Nat.le_trans (Nat.tr ol) hl
theorem pj {w} {neg:Bool} {s} {x:Nat} {e:Int} (hT:Tab w) (h:Num w s x) (he: -4611686018427387904≤e∧e≤4611686018427387904):Calls pr dyadic_told_id #[.agg (c2 neg s), .int .i64 e] w (DOut w (tC x e) neg x e):=by
 refine T1 neg s e w _ (yv fun b1 w1 hb1 h1 hs1 B1=>yv fun b2 w2 hb2 h2 hs2 B2=> ?_)
 have h12:=h1.trans h2
 refine get2 (B1.ahead h2) rfl rfl (Calls.mono (H8 (hT.ahead h12) (h.ahead h12) he) ?_)
 rintro en w3 ⟨h3,s2,rfl,o2⟩
 have h13:=h12.trans h3
 have B23:=B2.ahead h3
 refine ⟨_,_,_,rfl,yv fun b3 w4 hb3 h4 hs4 B3=> ?_⟩
 have B24:=B23.ahead h4
 refine set3 B3 fun w7 u7 C3=> ?_
 have hle:=B23.lt
 have B27:Blk w7 b2 _:=u7.blk B24 (by omega)
 have h17:Ahead w w7:=u7.ahead (h13.trans h4) (by have:=h13.size;omega)
 have hl:=Zv h
 have n7:Num w7 s2 (od x):=by
  have n4:Num w4 s2 (od x):=(zca o2 hl).ahead h4
  obtain ⟨l,r,q⟩:=n4
  exact ⟨l,u7.rd _ _ r,q⟩
 have o7:=u7.own2 o2 h4 (by omega)
 refine get2 (x:=nD neg x) (s:=s2) C3 rfl rfl (Calls.mono (uk n7) ?_)
 rintro en w8 ⟨h8,rfl⟩
 have h18:=h17.trans h8
 have B28:=B27.ahead h8
 have C38:=C3.ahead h8
 have o8:=o7.ahead h8
 have hsz:=h12.size
 have hb2:w.heap.size≤b2:=by have:=h1.size;omega
 have hbase:w.heap.size≤w2.heap.size:=h12.size
 refine ⟨_,rfl,zm (fun hz=> ?_) (fun hz=> ?_)⟩
 ·have hx:x=0:=Yv.1 (tp.1 (by simpa using hz))
  subst hx
  refine ret3 B28 fun w' u _=> ?_
  have hc:tC 0 e=0:=by
   rw [tC,vq,xm,if_neg (by omega),pu,if_pos (by unfold wi;omega)]
  have:=DOut.told (w:=w) (w':=w') (neg:=neg) (x:=0) (e:=e) (s:=⟨none,0,0⟩) (u.ahead h18 hb2) hc (Or.inl ⟨rfl,by rw [vq,yq]⟩)
  rwa [gj,pu] at this
 ·have hx:x≠0:=fun e0=>by rw [e0,vq] at hz;simp [sgn] at hz
  refine get2 (x:=nD neg x) (s:=s2) C38 rfl rfl (Calls.mono (mg (n7.ahead h8)) ?_)
  rintro en w12 ⟨h12',rfl⟩
  have h112:=h18.trans h12'
  have B212:=B28.ahead h12'
  have C312:=C38.ahead h12'
  refine ⟨_,rfl,zm (fun hg=> ?_) (fun hg=> ?_)⟩
  ·refine ret3 B212 fun w' u _=>DOut.refused (u.ahead h112 hb2) ?_ (by omega)
   rw [tC,if_pos (by simp at hg;omega)]
  ·refine xz (x:=eD x e) 2 C312 rfl (Calls.mono kh ?_)
   rintro en w16 ⟨rfl,rfl⟩
   refine ⟨_,rfl,zm (fun hw=> ?_) (fun hw=> ?_)⟩
   ·refine ret3 B212 fun w' u _=>DOut.refused (u.ahead h112 hb2) ?_ (by omega)
    rw [tC,if_neg (by simp at hg;omega),if_neg (by simpa using hw)]
   ·refine get3 C312 (ret3 B212 fun w' u _=>DOut.told (u.ahead h112 hb2) ?_ ?_)
    ·rw [tC,if_neg (by simp at hg;omega),if_pos (by simpa using hw)]
    ·refine OwnNil.mono (u.own (o8.ahead h12') ?_) hbase
     omega
theorem qe {w} {neg:Bool} {s} {x:Nat} {e:Int} (hT:Tab w) (h:Num w s x):Calls pr dyadic_read_id #[.agg (c3 neg s e)] w (fun en w'=>Ahead w w'∧∃s',en= .returned (.tuple #[.agg (c3 (if wi e then nD neg x else false) s' (if wi e then eD x e else 0)), .int .i64 (if wi e then 0 else 80)])∧OwnNil w.heap.size w' s' (if wi e then digs B64 (od x) else [])):=by
 refine T0 neg s e w _ (yv fun b1 w1 hb1 h1 hs1 B1=>yv fun b2 w2 hb2 h2 hs2 B2=> ?_)
 have h12:=h1.trans h2
 have B12:=B1.ahead h2
 have hb:w.heap.size≤b2:=by have:=h1.size;omega
 refine xz (x:=e) 2 B12 rfl (Calls.mono kh ?_)
 rintro en w3 ⟨rfl,rfl⟩
 refine ⟨_,rfl,zm (fun hw=> ?_) (fun hw=> ?_)⟩
 ·have hw':¬wi e:=by simpa using hw
  refine ret3 B2 fun w' u _=>⟨u.ahead h12 hb,_, ?_,Or.inl ⟨rfl,if_neg hw'⟩⟩
  rw [if_neg hw',if_neg hw',if_neg hw']
 ·have hw':wi e:=by simpa using hw
  refine get3 B12 (Calls.mono (H8 (hT.ahead h12) (h.ahead h12) (by unfold wi at hw';omega)) ?_)
  rintro en w7 ⟨h7,s3,rfl,o3⟩
  refine ⟨_,_,_,rfl,ret3 (B2.ahead h7) fun w' u _=>⟨u.ahead (h12.trans h7) hb,s3, ?_, ?_⟩⟩
  ·rw [if_pos hw',if_pos hw',if_pos hw']
  ·rw [if_pos hw']
   exact (u.own o3 (by omega)).mono h12.size
def scC (x:Nat) (e k:Int):Int:=if wi e then if wi k then tC (od x) (eD x e+k) else 1 else 80
theorem zae {w} {neg:Bool} {s} {x:Nat} {e k:Int} (hT:Tab w) (h:Num w s x):Calls pr dyadic_Scale_id #[.agg (c3 neg s e), .int .i64 k] w (DOut w (scC x e k) (nD neg x) (od x) (eD x e+k)):=by
 refine Ub neg s e k w _ (yv fun b1 w1 hb1 h1 hs1 B1=>yv fun b2 w2 hb2 h2 hs2 B2=> ?_)
 have h12:=h1.trans h2
 have hb:w.heap.size≤b2:=by have:=h1.size;omega
 have hl:=Zv h
 have hbl:=Num.bl h
 refine get3 (B1.ahead h2) (Calls.mono (qe (hT.ahead h12) (h.ahead h12)) ?_)
 rintro en w3 ⟨h3,s3,rfl,o3⟩
 have h13:=h12.trans h3
 refine ⟨_,_,_,_,rfl,yv fun b3 w4 hb3 h4 hs4 B3=> ?_⟩
 refine set3 B3 fun w7 u7 C3=> ?_
 have hlt:=(B2.ahead h3).lt
 have B27:Blk w7 b2 _:=u7.blk ((B2.ahead h3).ahead h4) (by omega)
 have h17:Ahead w w7:=u7.ahead (h13.trans h4) (by have:=h13.size;omega)
 refine zm (fun hw=> ?_) (fun hw=> ?_)
 ·have hw':¬wi e:=fun h=>by rw [if_pos h] at hw;simp at hw
  rw [if_neg hw']
  exact ret3 B27 fun w' u _=>DOut.refused (u.ahead h17 hb) (by rw [scC,if_neg hw']) (by omega)
 ·have hw':wi e:=by
   by_cases h:wi e
   ·exact h
   ·rw [if_neg h] at hw;simp at hw
  simp only [if_pos hw'] at o3 C3
  refine Calls.mono kh ?_
  rintro en w11 ⟨rfl,rfl⟩
  refine ⟨_,rfl,zm (fun hk=> ?_) (fun hk=> ?_)⟩
  ·have hk':¬wi k:=by simpa using hk
   exact ret3 B27 fun w' u _=>DOut.refused (u.ahead h17 hb) (by rw [scC,if_pos hw',if_neg hk']) (by omega)
  ·have hk':wi k:=by simpa using hk
   have n7:Num w11 s3 (od x):=zca (u7.own2 o3 h4 (by omega)) hl
   have htz:=qv x
   have heD: -4611686018427387904≤eD x e+k∧eD x e+k≤4611686018427387904:=by
    unfold wi at hw' hk'
    unfold eD
    split<;>omega
   refine get3 C3 ?_
   rw [zp (by omega) (by omega)]
   refine Calls.mono (pj (hT.ahead h17) n7 heD) ?_
   rintro en w15 ⟨h15,s6,rfl,o6⟩
   have hc:scC x e k=tC (od x) (eD x e+k):=by rw [scC,if_pos hw',if_pos hk']
   rw [hc]
   exact ⟨_,_,_,_,rfl,ret3 (B27.ahead h15) fun w' u _=>⟨u.ahead (h17.trans h15) hb,s6,rfl,(u.own o6 (by have:=B27.lt;omega)).mono h17.size⟩⟩
end Dy
end
section
open Go Go.RowKit Eng Sp Dg
open Go.ChangeShapes Go.WideShapes
theorem tab_of {W:World} {rest:List (String×DataW Unit)} (hg:pr.globalNamed "math/bits.deBruijn64tab" =some 0) {t e:TypeId} (hty:(pr.globals[0]?).map (·.type)=some t) (ht:pr.underlying t=some (.array 64 e)) (he:pr.underlying e=some (.int .u8)) (hce:pr.cellsOf e=1) (hct:pr.cellsOf t=64) (h:laidMet pr (("math/bits.deBruijn64tab",Lib.tabData .u8 (Lib.deBruijn64tab.map fun n:Nat=>(n:Int)))::rest) W):Dy.Tab W:=by
 have h1:=Lib.tabIs_of_head hg hty ht he hce hct h
 intro j hj
 have:=h1.cell hg j (by simpa [Lib.deBruijn64tab] using hj)
 rw [this]
 simp [List.getD_eq_getElem?_getD,List.getElem?_map]
 have hj':j<Lib.deBruijn64tab.length:=by simpa [Lib.deBruijn64tab] using hj
 simp [hj']
end
section
open Go Go.RowKit Eng Sp Dg
open Go.ChangeShapes Go.WideShapes
namespace RS
def isB (P:Program) (t:TypeId):Bool:=match P.underlying t with
 |some .bool=>true
 |_=>false
def isI (P:Program) (t:TypeId):Bool:=match P.underlying t with
 |some (.int .i64)=>true
 |_=>false
def isU (P:Program) (t:TypeId):Bool:=match P.underlying t with
 |some (.slice e)=>(match P.underlying e with
  |some (.int .u64)=>Nat.beq (P.cellsOf e) 1&&Nat.beq (P.bytesOf e) 8
  |_=>false)
 |_=>false
theorem zes {P:Program} {t:TypeId} (h:isB P t=true):P.underlying t=some .bool:=by
 unfold isB at h;split at h
 ·assumption
 ·cases h
theorem T4 {P:Program} {t:TypeId} (h:isI P t=true):P.underlying t=some (.int .i64):=by
 unfold isI at h;split at h
 ·assumption
 ·cases h
theorem zet {P:Program} {t:TypeId} (h:isU P t=true):∃e,P.underlying t=some (.slice e)∧P.underlying e=some (.int .u64)∧P.cellsOf e=1∧P.bytesOf e=8:=by
 unfold isU at h;split at h
 ·rename_i e hu
  split at h
  ·rename_i he
   simp only [Bool.and_eq_true] at h
   exact ⟨e,hu,he,Nat.eq_of_beq_eq_true h.1,Nat.eq_of_beq_eq_true h.2⟩
  ·cases h
 ·cases h
def parts (P:Program) (t:TypeId):List Field:=match P.underlying t with
 |some (.struct fs)=>fs.toList
 |_=> []
theorem j2 {P:Program} {t:TypeId} {l:List Field} (h:parts P t=l) (hl:l≠ []):P.underlying t=some (.struct l.toArray):=by
 unfold parts at h;split at h
 ·rename_i fs hu
  rw [hu,←h]
 ·exact absurd h.symm hl
def at_ (P:Program) (f:Field) (o c:Nat):Bool:=Nat.beq f.offset o&&Nat.beq (P.cellsOf f.type) c
theorem nf {P:Program} {f:Field} {o c:Nat} (h:at_ P f o c=true):f.offset=o∧P.cellsOf f.type=c:=by
 unfold at_ at h
 simp only [Bool.and_eq_true] at h
 exact ⟨Nat.eq_of_beq_eq_true h.1,Nat.eq_of_beq_eq_true h.2⟩
def isD (P:Program) (t:TypeId):Bool:=match parts P t with
 | [f0,f1]=>(match parts P f0.type with
  | [g0,g1]=>isB P g0.type&&isU P g1.type&&isI P f1.type&&at_ P f0 0 2&&at_ P f1 2 1&&at_ P g0 0 1&&at_ P g1 1 1&&Nat.beq (P.cellsOf t) 3
  |_=>false)
 |_=>false
def isS (P:Program) (t:TypeId):Bool:=match parts P t with
 | [f0,f1]=>isD P f0.type&&isD P f1.type&&at_ P f0 0 3&&at_ P f1 3 3&&Nat.beq (P.cellsOf t) 6
 |_=>false
def isN (P:Program) (t:TypeId):Bool:=match parts P t with
 | [f0,f1,f2,f3]=>isS P f0.type&&isS P f1.type&&isI P f2.type&&isI P f3.type&&at_ P f0 0 6&&at_ P f1 6 6&&at_ P f2 12 1&&at_ P f3 13 1&&Nat.beq (P.cellsOf t) 14
 |_=>false
def Dya (W:World) (b:Bool) (s:Slc) (x:Int) (l:List Nat):Prop:=Rd .u64 W s (nn l)∧ok B64 l∧l.length*8≤140737488351232∧-9223372036854775808≤x∧x≤9223372036854775807
variable {H : Type} {enc : TypeId × Value → H} {P : Program} {W : World}
theorem zcp {t:TypeId} {fuel:Nat} {cs:List Value} {x:DataW H×List MemPlace} (ht:isD P t=true) (h:DataW.trod enc P W 0 (fun _=>true) true fuel t cs=some x) (hw:∀m∈x.1.weights P t,m≤reachBytes):∃b s e l,cs=(Sb.c3 b s e).toList∧Dya W b s e l:=by
 unfold isD at ht
 split at ht
 ·rename_i f0 f1 hp
  split at ht
  ·rename_i g0 g1 hq
   simp only [Bool.and_eq_true] at ht
   obtain ⟨⟨⟨⟨⟨⟨⟨t1,t2⟩,t3⟩,t4⟩,t5⟩,t6⟩,t7⟩,t8⟩:=ht
   have u0:=j2 hp (by simp)
   have u1:=j2 hq (by simp)
   have hb:=zes t1
   obtain ⟨e,he1,he2,he3,he4⟩:=zet t2
   have hi:=T4 t3
   obtain ⟨o0,c0⟩:=nf t4
   obtain ⟨o1,c1⟩:=nf t5
   obtain ⟨o2,c2⟩:=nf t6
   obtain ⟨o3,c3⟩:=nf t7
   have ct:=Nat.eq_of_beq_eq_true t8
   obtain ⟨y0,y1,n,hx,hl,q0,q1⟩:=trod_struct2 u0 h
   rw [c0,o0] at q0
   rw [c1,o1] at q1
   rw [ct] at hl
   obtain ⟨z0,z1,n',hx',hl',g0',g1'⟩:=trod_struct2 u1 q0
   rw [c2,o2] at g0'
   rw [c3,o3] at g1'
   obtain ⟨b,hb0,_⟩:=DataW.trod_bool hb g0'
   obtain ⟨v,hx2,_,hwf⟩:=DataW.trod_int hi q1
   have hxr:=wf_i64 hwf
   obtain ⟨A,m,c,zs,hs1,hrow,hlen⟩:∃A m c zs,(((cs.drop 0).take 2).drop 1).take 1= [Value.slice A m c]∧IsRow .u64 W A m c zs∧m*8≤140737488351232:=by
    rcases open_ints he1 he2 he3 g1' with ⟨hs,_⟩|⟨a,m,c,zs,hs,_,hl1,hm,hz,hy1,hcell,hwz⟩
    ·exact ⟨none,0,0, [],hs, .inl ⟨rfl,rfl,rfl,rfl⟩,by omega⟩
    ·refine ⟨some a,m,c,zs,hs, .inr ⟨a,rfl,hl1,hm,by simpa using hz,hcell,hwz⟩, ?_⟩
     have hmem:((zs.take m).length+(zs.drop m).length)*8∈x.1.weights P t:=by
      rw [hx,hx',hy1]
      simp [DataW.weights,u0,u1,DataW.weightsEach,he1,he4,lits]
     have:=hw _ hmem
     have h1:(zs.take m).length+(zs.drop m).length=zs.length:=by simp;omega
     have hz':zs.length=c:=by simpa using hz
     rw [h1,hz'] at this
     have h3:reachBytes=140737488351232:=by decide
     omega
   obtain ⟨l,hll,hr,ho'⟩:=hrow.rd
   refine ⟨b,⟨A,m,c⟩,v,l, ?_,hr,ho',by omega,hxr.1,hxr.2⟩
   match cs,hl with
   | [a0,a1,a2],_=>
    simp at hb0 hs1 hx2
    rw [hb0,hs1,hx2];rfl
  ·cases ht
 ·cases ht
theorem zcq {t:TypeId} {fuel:Nat} {cs:List Value} {x:DataW H×List MemPlace} (ht:isS P t=true) (h:DataW.trod enc P W 0 (fun _=>true) true fuel t cs=some x) (hw:∀m∈x.1.weights P t,m≤reachBytes):∃b s e l b' s' e' l',cs=(Sb.c3 b s e).toList++(Sb.c3 b' s' e').toList∧Dya W b s e l∧Dya W b' s' e' l':=by
 unfold isS at ht
 split at ht
 ·rename_i f0 f1 hp
  simp only [Bool.and_eq_true] at ht
  obtain ⟨⟨⟨⟨t1,t2⟩,t3⟩,t4⟩,t5⟩:=ht
  have u0:=j2 hp (by simp)
  obtain ⟨o0,c0⟩:=nf t3
  obtain ⟨o1,c1⟩:=nf t4
  have ct:=Nat.eq_of_beq_eq_true t5
  obtain ⟨y0,y1,n,hx,hl,q0,q1⟩:=trod_struct2 u0 h
  rw [c0,o0] at q0
  rw [c1,o1] at q1
  rw [ct] at hl
  have hw0:x.1.weights P t=y0.1.weights P f0.type++y1.1.weights P f1.type:=by
   rw [hx];simp [DataW.weights,u0,DataW.weightsEach]
  obtain ⟨b,s,e,l,g1,d1⟩:=zcp t1 q0 (fun m hm=>hw m (by rw [hw0];exact List.mem_append_left _ hm))
  obtain ⟨b',s',e',l',g2,d2⟩:=zcp t2 q1 (fun m hm=>hw m (by rw [hw0];exact List.mem_append_right _ hm))
  refine ⟨b,s,e,l,b',s',e',l', ?_,d1,d2⟩
  rw [←g1,←g2]
  match cs,hl with
  | [a0,a1,a2,a3,a4,a5],_=>rfl
 ·cases ht
theorem open_M {t:TypeId} {cs:Array Value} {d:DataW H} {ps:List MemPlace} {ts:List TypeId} {ds:List (DataW H)} {j:Nat} (ht:isN P t=true) (hsz:(DataW.weightsEach P ts ds).all (· ≤reachBytes)=true) (htj:ts[j]? =some t) (hdj:ds[j]? =some d) (h:DataW.Trod enc P W 0 (fun _=>true) true t (.agg cs) d ps):∃b1 s1 e1 l1 b2 s2 e2 l2 b3 s3 e3 l3 b4 s4 e4 l4 i k,cs= #[.bool b1,s1.v, .int .i64 e1, .bool b2,s2.v, .int .i64 e2, .bool b3,s3.v, .int .i64 e3, .bool b4,s4.v, .int .i64 e4, .int .i64 i, .int .i64 k]∧Dya W b1 s1 e1 l1∧Dya W b2 s2 e2 l2∧Dya W b3 s3 e3 l3∧Dya W b4 s4 e4 l4∧(-9223372036854775808≤i∧i≤9223372036854775807)∧(-9223372036854775808≤k∧k≤9223372036854775807):=by
 obtain ⟨fuel,hf⟩:=h
 unfold isN at ht
 split at ht
 ·rename_i f0 f1 f2 f3 hp
  simp only [Bool.and_eq_true] at ht
  obtain ⟨⟨⟨⟨⟨⟨⟨⟨t1,t2⟩,t3⟩,t4⟩,t5⟩,t6⟩,t7⟩,t8⟩,t9⟩:=ht
  have u0:=j2 hp (by simp)
  obtain ⟨o0,c0⟩:=nf t5
  obtain ⟨o1,c1⟩:=nf t6
  obtain ⟨o2,c2⟩:=nf t7
  obtain ⟨o3,c3⟩:=nf t8
  have ct:=Nat.eq_of_beq_eq_true t9
  obtain ⟨y0,y1,y2,y3,n,hx,hl,q0,q1,q2,q3⟩:=Go.Joins.trod_struct4 u0 hf
  rw [c0,o0] at q0
  rw [c1,o1] at q1
  rw [c2,o2] at q2
  rw [c3,o3] at q3
  rw [ct] at hl
  have hcs:(Value.agg cs).cells=cs:=rfl
  rw [hcs] at hl q0 q1 q2 q3
  have hd:=(Prod.mk.inj hx).1
  have hw:∀m∈d.weights P t,m≤reachBytes:=fun m hm=>by
   have:=List.all_eq_true.1 hsz _ (DataW.weights_mem_each htj hdj _ hm)
   simpa using this
  have hw0:d.weights P t=y0.1.weights P f0.type++(y1.1.weights P f1.type++(y2.1.weights P f2.type++y3.1.weights P f3.type)):=by
   rw [hd];simp [DataW.weights,u0,DataW.weightsEach]
  obtain ⟨b1,s1,e1,l1,b2,s2,e2,l2,g1,d1,d2⟩:=zcq t1 q0 (fun m hm=>hw m (by rw [hw0];exact List.mem_append_left _ hm))
  obtain ⟨b3,s3,e3,l3,b4,s4,e4,l4,g2,d3,d4⟩:=zcq t2 q1 (fun m hm=>hw m (by rw [hw0];exact List.mem_append_right _ (List.mem_append_left _ hm)))
  obtain ⟨i,h2,_,w2⟩:=DataW.trod_int (T4 t3) q2
  obtain ⟨k,h3,_,w3⟩:=DataW.trod_int (T4 t4) q3
  refine ⟨b1,s1,e1,l1,b2,s2,e2,l2,b3,s3,e3,l3,b4,s4,e4,l4,i,k, ?_,d1,d2,d3,d4,wf_i64 w2,wf_i64 w3⟩
  obtain ⟨cl⟩:=cs
  match cl,hl with
  | [a0,a1,a2,a3,a4,a5,a6,a7,a8,a9,aa,ab,ac,ad],_=>
   simp at g1 g2 h2 h3
   obtain ⟨rfl,rfl,rfl,rfl,rfl,rfl⟩:=g1
   obtain ⟨rfl,rfl,rfl,rfl,rfl,rfl⟩:=g2
   rw [h2,h3]
 ·cases ht
end RS
end
section
open Go Go.RowKit Eng Sp Dg
namespace Dg
theorem Fe (U s:Nat) (hs:s<64):U % 2^64/2^s % 2=U/2^s % 2:=by
 have h:(2:Nat)^64=2^s*(2*2^(63 -s)):=by rw [←Nat.pow_succ',←Nat.pow_add];congr 1;omega
 rw [h,Nat.mod_mul_right_div_self,Nat.mod_mul_right_mod]
end Dg
namespace Nat
open _root_.Go.Proofs.YtbeiopoejdkheaaGreatDoor.Dy (tdivN tmodN)
theorem kq {w s} {l:List Nat} {i:Nat} (h:Rd .u64 w s (nn l)) (hl:l.length≤2^46) (ol:ok B64 l) (hi:i≤9223372036854775807):Calls pr nat_Bit_id #[s.v, .int .i64 (i:Int)] w fun e w'=>w'=w∧e= .returned (.int .i64 ((val B64 l/2^i % 2:Nat):Int)):=by
 have hn:s.n=l.length:=by rw [h.n,nn_length]
 have hB:=B64v
 have hp2:B64^(i/64)*2^(i % 64)=2^i:=(tf i 64).symm
 have hx:val B64 l/2^i % 2=l.getD (i/64) 0/2^(i % 64) % 2:=by
  rw [digit (by omega:0<B64) _ ol (i/64),←hp2,←Nat.div_div_eq_div_mul,show B64=2^64 from rfl,Fe _ _ (Nat.mod_lt _ (by omega))]
 refine zat s i w _ (zt (by simp) ?_)
 rw [tdivN (by omega),tmodN]
 refine zm (fun hb=> ?_) (fun hb=> ?_)
 ·refine ⟨rfl, ?_⟩
  have hb':l.length≤i/64:=by simp at hb;omega
  rw [hx,ui _ 0 hb']
  simp
 ·have hb':i/64<l.length:=by simp at hb;omega
  refine ldN h (by omega) (by omega) ?_
  refine semShr (by omega) ?_
  rw [Int.toNat_natCast]
  have hlt:=yi ol (by omega:0<B64) (i/64)
  generalize l.getD (i/64) 0=d at*
  have hd:d/2^(i % 64)<B64:=Nat.lt_of_le_of_lt (Nat.div_le_self _ _) hlt
  rw [show (1:Int)=((1:Nat):Int) from rfl,m9 hd (by omega),Nat.and_one_is_mod,hx,zp (by omega) (by omega)]
  exact ⟨rfl,rfl⟩
end Nat
end
section
open Go Go.RowKit Eng
open _root_.Go.IntKind (wrap)
def j9 (J0:Slc→Int→World→Prop) (m0:Slc→Int→World→Nat):Nat→Option ((Act→World→Prop)×(Act→World→Nat))
 |0=>some (fun a_ w_=>atSz a_ 14 (atS a_ 0 fun t0_a=>atI .i64 a_ 3 fun t3_n=>J0 t0_a t3_n w_),fun a_ w_=>mS a_ 0 fun t0_a=>mI a_ 3 fun t3_n=>m0 t0_a t3_n w_)
 |_=>none
theorem gx (ad:Slc) (w:World) (R:Ending→World→Prop) (J0:Slc→Int→World→Prop) (m0:Slc→Int→World→Nat) (h:br ((ad.n:Int)==0) (R (.returned (vi 0)) w) (J0 ad 0 w)) (h0:∀ab aa w_,J0 ab aa w_→kI 97 #[ab.v,vi aa] w_ fun w1 x1=>(br (x1==0) (J0 ab (wrap .i64 (aa+1)) w1∧m0 ab (wrap .i64 (aa+1)) w1<m0 ab aa w_) (R (.returned (vi aa)) w1))):Calls pr 53 #[ad.v] w R:=by
 refine zk (j9 J0 m0) (by kernel_rfl) Tryz.func53 rfl ?_ ?_
 ·refine kcast h ?_;kernel_rfl
 ·exact (za rfl (ze (za rfl (za rfl (ze (zh (za rfl (ze (zg (zi (za rfl (ze (za rfl (yg _ rfl (fun a_ w_ ac=>(by
  obtain ⟨ae,af,ac⟩:=ya ac
  obtain ⟨ab,ag,ac⟩:=zr ac
  obtain ⟨aa,ah,ac⟩:=zq ac
  obtain ⟨g0,rfl⟩:∃g,a_=Fr 14 [(0,ab.v),(3,vi aa)] g:=⟨_,yp ae af _ (zf ag (zf ah yc))⟩
  clear ae af ag ah
  have ai:=ac
  refine ⟨(fun _=>none),kcast (h0 ab aa w_ ai) ?_, ?_⟩
  ·kernel_rfl
  ·exact (za rfl (za rfl (ze (zh (zi (ye (yh rfl (ze trivial)))))))))) (za rfl (ze (zg trivial)))))))))))))))))
end
section
open Go Go.RowKit Eng Sp Dg
namespace Nat
def Yes (w:World) (e:Ending) (w':World):Prop:=e= .returned (.bool true)∧Ahead w w'
theorem gn (w:World) (x:Nat):Rd .u64 (w.alloc (.cells #[.int .u64 (x:Int)] tU64 (0,0))) ⟨some ⟨w.heap.size,0,none⟩,1,1⟩ (nn [x]):=
 Owr.rd (t:=tU64) (b:=w.heap.size) ⟨rfl, [],rfl,by rw [te];rfl⟩
theorem zcb {x:Nat} (h:x<B64):ok B64 [x]:=by intro y hy;simp at hy;omega
end Nat
end
section
open Go Go.RowKit Eng Sp Dg
namespace Dy
open _root_.Go.Proofs.YtbeiopoejdkheaaGreatDoor.Nat (ldN OwnNil Num Num.bl OwnNil.mono bigC xc semShr zw Yes m9 xj)
open _root_.Go.Proofs.YtbeiopoejdkheaaGreatDoor.Ref (RN RN.nil qp tt tg qw uz tdiv32 tmod32)
open Sb
theorem zbm (U s:Nat) (hs:s<32):U % 2^32/2^s % 2=U/2^s % 2:=by
 have h:(2:Nat)^32=2^s*(2*2^(31 -s)):=by rw [←Nat.pow_succ',←Nat.pow_add];congr 1;omega
 rw [h,Nat.mod_mul_right_div_self,Nat.mod_mul_right_mod]
theorem zcy {w s} {x i:Nat} (h:RN w s x) (hl:(digs B32 x).length≤2^46) (hi:i≤9223372036854775807):Calls pr surdref01_Num_Bit_id #[s.v, .int .i64 (i:Int)] w fun e w'=>w'=w∧e= .returned (.int .i64 ((x/2^i % 2:Nat):Int)):=by
 have hn:=h.n
 have ox:=yb two32 x
 have vx:=zu two32 x
 have hB:=B32v
 have hp2:B32^(i/32)*2^(i % 32)=2^i:=(tf i 32).symm
 have hx:x/2^i % 2=(digs B32 x).getD (i/32) 0/2^(i % 32) % 2:=by
  rw [digit (by omega:0<B32) _ ox (i/32),vx,←hp2,←Nat.div_div_eq_div_mul,show B32=2^32 from rfl,zbm _ _ (Nat.mod_lt _ (by omega))]
 have e0:((i:Int)).toNat=i:=by omega
 unfold RN at h
 refine f7 s i w _ (zt (by simp) ?_)
 rw [tdiv32 (by omega) (by omega),tmod32 (by omega),e0]
 refine zm (fun hb=> ?_) (fun hb=> ?_)
 ·refine ⟨rfl, ?_⟩
  have hb':(digs B32 x).length≤i/32:=by simp at hb;omega
  rw [hx,ui _ 0 hb']
  simp
 ·have hb':i/32<(digs B32 x).length:=by simp at hb;omega
  refine ldN h (by omega) (by omega) ?_
  refine semShr (by omega) ?_
  rw [Int.toNat_natCast]
  have hlt:=yi ox (by omega:0<B32) (i/32)
  generalize (digs B32 x).getD (i/32) 0=d at*
  have hd:d/2^(i % 32)<B64:=Nat.lt_of_le_of_lt (Nat.div_le_self _ _) (by rw [B64v];omega)
  rw [show (1:Int)=((1:Nat):Int) from rfl,m9 hd (by rw [B64v];omega),Nat.and_one_is_mod,hx,zp (by omega) (by omega)]
  exact ⟨rfl,rfl⟩
theorem Uu {w s} {x:Nat} (h:RN w s x) (hl:(digs B32 x).length≤2^46):Calls pr surdref01_Num_Tail_id #[s.v] w fun e w'=>w'=w∧e= .returned (.int .i64 (tz x)):=by
 have hn:=h.n
 have hbl:bl x≤2^51:=by
  have:=Ref.qy (yb two32 x)
  rw [zu two32] at this
  omega
 refine gx s w _ (fun t n w'=>t=s∧w'=w∧x≠0∧∃j:Nat,n=(j:Int)∧j≤tz x) (fun _ n _=>(tz x -n).toNat) ?_ ?_
 ·refine zm (fun hz=> ?_) (fun hz=> ?_)
  ·have hx:x=0:=by
    have:(digs B32 x).length=0:=by simp at hz;omega
    rw [←zu two32 x,List.length_eq_zero_iff.1 this];rfl
   subst hx
   exact ⟨rfl,by rw [Qy];rfl⟩
  ·refine ⟨rfl,rfl,fun e=> ?_,0,rfl,Nat.zero_le _⟩
   rw [e,yq] at hn
   rw [hn] at hz
   simp at hz
 ·rintro t n w1 ⟨rfl,rfl,hx,j,rfl,hj⟩
  have htz:=za9 hx
  refine Calls.mono (zcy h hl (by omega)) ?_
  rintro e w2 ⟨rfl,rfl⟩
  have e8:IntKind.i64.wrap ((j:Int)+1)=((j+1:Nat):Int):=by rw [zp (by omega) (by omega)];omega
  have hxj:x/2^j=2^(tz x -j)*od x:=by
   have h1:=gm x
   have hp:0<2^j:=Nat.pow_pos (by omega)
   conv=>lhs;rw [←h1,show tz x=j+(tz x -j) by omega,Nat.pow_add,Nat.mul_assoc]
   rw [Nat.mul_div_cancel_left _ hp]
  refine ⟨_,rfl,zm (fun hb=> ?_) (fun hb=> ?_)⟩
  ·have hne:j≠tz x:=by
    intro he
    rw [hxj,he,Nat.sub_self,Nat.pow_zero,Nat.one_mul,Us hx] at hb
    simp at hb
   exact ⟨⟨rfl,rfl,hx,j+1,e8,by omega⟩,by rw [e8];omega⟩
  ·have he:j=tz x:=by
    rcases Nat.lt_or_ge j (tz x) with hlt|hge
    ·exfalso
     rw [hxj,show tz x -j=(tz x -j -1)+1 by omega,Nat.pow_succ,Nat.mul_comm (2^_),Nat.mul_assoc,Nat.mul_mod_right] at hb
     simp at hb
    ·omega
   subst he
   exact ⟨rfl,rfl⟩
end Dy
end
section
open Go Go.RowKit Eng Sp Dg
namespace L2
def rowTy (t:TypeId):Bool:=t==tU64||t==tInt||t==tU64s||t==tInts||t==40||t==37
def noU (cs:Array Value):Bool:=cs.toList.all fun v=>match v with
 | .int .u64 _=>false
 |_=>true
def Blt (w:World) (b:Nat) (t:TypeId) (cs:Array Value):Prop:=w.heap[b]? =some (Obj.cells cs t (0,0))
structure Ext (w w':World):Prop where
  size:w.heap.size≤w'.heap.size
  row:∀(k:Nat) (cs:Array Value) (t:TypeId) (m:Nat×Nat),w.heap[k]? =some (Obj.cells cs t m)→rowTy t=true→w'.heap[k]? =some (Obj.cells cs t m)
  cell:∀(ad:Addr) (x:Int),w.cell? ad=some (.int .u64 x)→w'.cell? ad=some (.int .u64 x)
theorem Ext.refl (w:World):Ext w w:=⟨Nat.le_refl _,fun _ _ _ _ h _=>h,fun _ _ h=>h⟩
theorem Ext.trans {a b c} (h:Ext a b) (k:Ext b c):Ext a c:=
 ⟨Nat.le_trans h.size k.size,fun i cs t m hi ht=>k.row i cs t m (h.row i cs t m hi ht) ht,fun ad x hx=>k.cell ad x (h.cell ad x hx)⟩
theorem Ext.of_ahead {a b} (h:Ahead a b):Ext a b:=
 ⟨h.size,fun k cs t m hk _=>by rw [Below.block h k (Array.getElem?_eq_some_iff.1 hk).1];exact hk,fun ad x hx=>h.cell hx⟩
theorem _root_.Go.Proofs.YtbeiopoejdkheaaGreatDoor.Eng.Ahead.ext {a b} (h:Ahead a b):Ext a b:=Ext.of_ahead h
theorem Blt.lt {w} {b:Nat} {t:TypeId} {cs:Array Value} (h:Blt w b t cs):b<w.heap.size:=(Array.getElem?_eq_some_iff.1 h).1
theorem Blt.ahead {w w'} {b:Nat} {t:TypeId} {cs:Array Value} (h:Blt w b t cs) (ha:Ahead w w'):Blt w' b t cs:=by
 unfold Blt;rw [Below.block ha b h.lt];exact h
theorem Blt.cell {w} {b i:Nat} {t:TypeId} {cs:Array Value} {v:Value} (h:Blt w b t cs) (hc:cs[i]? =some v):w.cell? ⟨b,i,none⟩=some v:=by
 unfold Blt at h
 simp [World.cell?,h,hc]
theorem zn {w:World} {cs:Array Value} {t:TypeId} {K:Addr→World→Prop} (h:∀b w',b=w.heap.size→Ahead w w'→w'.heap.size=b+1→Blt w' b t cs→K ⟨b,0,none⟩ w'):newC w cs t K:=
 h _ _ rfl (Ahead.alloc _ _) (pz _ _) (te _ _)
theorem tb {w:World} {cs:Array Value} {t:TypeId} {K K':Addr→World→Prop} (h:newC w cs t K) (hk:∀ad w',Ahead w w'→K ad w'→K' ad w'):newC w cs t K':=
 hk _ _ (Ahead.alloc _ _) h
structure Upt (b:Nat) (w w':World):Prop where
  os:w'.os=w.os
  tape:w'.tape=w.tape
  output:w'.output=w.output
  size:w'.heap.size=w.heap.size
  block:∀k,k≠b→w'.heap[k]? =w.heap[k]?
  ext:Ext w w'
theorem Upt.trans {b:Nat} {x y z} (h:Upt b x y) (k:Upt b y z):Upt b x z:=
 ⟨k.os.trans h.os,k.tape.trans h.tape,k.output.trans h.output,k.size.trans h.size,fun i hi=>(k.block i hi).trans (h.block i hi),h.ext.trans k.ext⟩
theorem Upt.ahead {b:Nat} {w0 w w'} (h:Upt b w w') (ha:Ahead w0 w) (hb:w0.heap.size≤b):Ahead w0 w':=
 Below.trans ha ⟨h.os,h.tape,h.output,Nat.le_of_eq h.size.symm,fun k hk=>h.block k (by omega)⟩
theorem Upt.blt {b k:Nat} {w w'} {t:TypeId} {cs:Array Value} (h:Upt k w w') (hr:Blt w b t cs) (hne:b≠k):Blt w' b t cs:=by
 unfold Blt;rw [h.block b hne];exact hr
theorem Upt.bar {b:Nat} {V:Nat→Prop} {w w'} (h:Upt b w w') (hv:V b):Bar V w w':=
 ⟨h.os,h.tape,h.output,Nat.le_of_eq h.size.symm,fun k _ hk=>h.block k fun e=>hk (e▸hv)⟩
theorem zex {w} {b:Nat} {t:TypeId} {cs:Array Value} (h:Blt w b t cs) (hn:noU cs=true) (ad:Addr) (x:Int) (hc:w.cell? ad=some (.int .u64 x)):ad.block≠b:=by
 intro hb
 unfold Blt at h
 rw [World.cell?,hb,h] at hc
 simp only at hc
 split at hc
 ·cases hc
 ·have hm:=Array.mem_of_getElem? hc
  unfold noU at hn
  have:=List.all_eq_true.1 hn _ (Array.mem_toList_iff.2 hm)
  simp at this
theorem uh (i:Nat) {w:World} {b:Nat} {t:TypeId} {cs:Array Value} {ad:Addr} {v:Value} {K:World→Prop} (h:Blt w b t cs) (hi:Nat.blt i cs.size=true) (hn:noU cs=true) (ht:rowTy t=false) (hk:∀w',Upt b w w'→Blt w' b t (cs.setIfInBounds i v)→K w') (hA:ad=⟨b,i,none⟩:=by first|rfl|exact zz):stC ad v w K:=by
 subst hA
 have hi':i<cs.size:=by simpa [Nat.blt_eq] using hi
 have hh:w.heap[b]? =some (Obj.cells cs t (0,0)):=h
 have hlt:=(Array.getElem?_eq_some_iff.1 hh).1
 have hget:=(Array.getElem?_eq_some_iff.1 hh).2
 have hblk:∀k,k≠b→(w.setCell ⟨b,i,none⟩ v).heap[k]? =w.heap[k]? :=fun k hk=>Below.heap_setCell _ _ _ _ hk
 refine ⟨⟨cs[i],by simp [World.cell?,hh,hi']⟩,by simp [World.frozen?,hh],hk _ ⟨rfl,rfl,rfl,by simp [World.setCell],hblk,⟨by simp [World.setCell],fun k cs' t' m hk' ht'=> ?_,fun ad x hx=> ?_⟩⟩ ?_⟩
 ·by_cases e:k=b
  ·subst e
   rw [hh] at hk'
   have:=Option.some.inj hk'
   injection this with h1 h2 h3
   subst h2
   rw [ht] at ht'
   cases ht'
  ·rw [hblk k e];exact hk'
 ·have hne:=zex h hn ad x hx
  rw [World.cell?_of_block (hblk _ hne)];exact hx
 ·unfold Blt
  simp [World.setCell,Array.getElem?_modify,hh]
theorem nl {a b:Nat} (h:a<b):a≠b:=Nat.ne_of_lt h
theorem ng {a b:Nat} (h:b<a):a≠b:=Nat.ne_of_gt h
theorem exE {α:Sort _} {p:α→Prop} {G:Prop} (f:∀x,p x→G):(∃x,p x)→G:=fun ⟨x,h⟩=>f x h
theorem anE {a b G:Prop} (f:a→b→G):a∧b→G:=fun ⟨x,h⟩=>f x h
theorem nd {a b:Nat} {P:Prop} (h:P) (d:a≠b:=by first|exact nl (by assumption)|exact ng (by assumption)|assumption|exact Ne.symm (by assumption)|omega):a≠b∧P:=⟨d,h⟩
theorem up1 {k:Nat} {w w'} (u:Upt k w w') {b1:Nat} {t1:TypeId} {c1:Array Value} (h1:Blt w b1 t1 c1) (d:b1≠k:=by first|exact nl (by assumption)|exact ng (by assumption)|assumption|exact Ne.symm (by assumption)|omega):Blt w' b1 t1 c1:=u.blt h1 d
theorem lt1 {b:Nat} {w:World} (e:b=w.heap.size) {b1:Nat} {t1:TypeId} {c1:Array Value} (h1:Blt w b1 t1 c1):b1<b:=by
 subst e
 exact h1.lt
theorem ah2 {w w'} (a:Ahead w w') {b1 b2:Nat} {t1 t2:TypeId} {c1 c2:Array Value} (h1:Blt w b1 t1 c1) (h2:Blt w b2 t2 c2):Blt w' b1 t1 c1∧Blt w' b2 t2 c2:=⟨h1.ahead a,h2.ahead a⟩
theorem up2 {k:Nat} {w w'} (u:Upt k w w') {b1 b2:Nat} {t1 t2:TypeId} {c1 c2:Array Value} (h1:Blt w b1 t1 c1) (h2:Blt w b2 t2 c2) (d:b1≠k∧b2≠k:=by refine ⟨?_, ?_⟩<;>first|exact nl (by assumption)|exact ng (by assumption)|assumption|exact Ne.symm (by assumption)|omega):Blt w' b1 t1 c1∧Blt w' b2 t2 c2:=by
 obtain ⟨d1,d2⟩:=d
 exact ⟨u.blt h1 d1,u.blt h2 d2⟩
theorem lt2 {b:Nat} {w:World} (e:b=w.heap.size) {b1 b2:Nat} {t1 t2:TypeId} {c1 c2:Array Value} (h1:Blt w b1 t1 c1) (h2:Blt w b2 t2 c2):b1<b∧b2<b:=by
 subst e
 exact ⟨h1.lt,h2.lt⟩
theorem ah3 {w w'} (a:Ahead w w') {b1 b2 b3:Nat} {t1 t2 t3:TypeId} {c1 c2 c3:Array Value} (h1:Blt w b1 t1 c1) (h2:Blt w b2 t2 c2) (h3:Blt w b3 t3 c3):Blt w' b1 t1 c1∧Blt w' b2 t2 c2∧Blt w' b3 t3 c3:=⟨h1.ahead a,h2.ahead a,h3.ahead a⟩
theorem up3 {k:Nat} {w w'} (u:Upt k w w') {b1 b2 b3:Nat} {t1 t2 t3:TypeId} {c1 c2 c3:Array Value} (h1:Blt w b1 t1 c1) (h2:Blt w b2 t2 c2) (h3:Blt w b3 t3 c3) (d:b1≠k∧b2≠k∧b3≠k:=by refine ⟨?_, ?_, ?_⟩<;>first|exact nl (by assumption)|exact ng (by assumption)|assumption|exact Ne.symm (by assumption)|omega):Blt w' b1 t1 c1∧Blt w' b2 t2 c2∧Blt w' b3 t3 c3:=by
 obtain ⟨d1,d2,d3⟩:=d
 exact ⟨u.blt h1 d1,u.blt h2 d2,u.blt h3 d3⟩
theorem lt3 {b:Nat} {w:World} (e:b=w.heap.size) {b1 b2 b3:Nat} {t1 t2 t3:TypeId} {c1 c2 c3:Array Value} (h1:Blt w b1 t1 c1) (h2:Blt w b2 t2 c2) (h3:Blt w b3 t3 c3):b1<b∧b2<b∧b3<b:=by
 subst e
 exact ⟨h1.lt,h2.lt,h3.lt⟩
theorem ah4 {w w'} (a:Ahead w w') {b1 b2 b3 b4:Nat} {t1 t2 t3 t4:TypeId} {c1 c2 c3 c4:Array Value} (h1:Blt w b1 t1 c1) (h2:Blt w b2 t2 c2) (h3:Blt w b3 t3 c3) (h4:Blt w b4 t4 c4):Blt w' b1 t1 c1∧Blt w' b2 t2 c2∧Blt w' b3 t3 c3∧Blt w' b4 t4 c4:=⟨h1.ahead a,h2.ahead a,h3.ahead a,h4.ahead a⟩
theorem up4 {k:Nat} {w w'} (u:Upt k w w') {b1 b2 b3 b4:Nat} {t1 t2 t3 t4:TypeId} {c1 c2 c3 c4:Array Value} (h1:Blt w b1 t1 c1) (h2:Blt w b2 t2 c2) (h3:Blt w b3 t3 c3) (h4:Blt w b4 t4 c4) (d:b1≠k∧b2≠k∧b3≠k∧b4≠k:=by refine ⟨?_, ?_, ?_, ?_⟩<;>first|exact nl (by assumption)|exact ng (by assumption)|assumption|exact Ne.symm (by assumption)|omega):Blt w' b1 t1 c1∧Blt w' b2 t2 c2∧Blt w' b3 t3 c3∧Blt w' b4 t4 c4:=by
 obtain ⟨d1,d2,d3,d4⟩:=d
 exact ⟨u.blt h1 d1,u.blt h2 d2,u.blt h3 d3,u.blt h4 d4⟩
theorem lt4 {b:Nat} {w:World} (e:b=w.heap.size) {b1 b2 b3 b4:Nat} {t1 t2 t3 t4:TypeId} {c1 c2 c3 c4:Array Value} (h1:Blt w b1 t1 c1) (h2:Blt w b2 t2 c2) (h3:Blt w b3 t3 c3) (h4:Blt w b4 t4 c4):b1<b∧b2<b∧b3<b∧b4<b:=by
 subst e
 exact ⟨h1.lt,h2.lt,h3.lt,h4.lt⟩
theorem ah5 {w w'} (a:Ahead w w') {b1 b2 b3 b4 b5:Nat} {t1 t2 t3 t4 t5:TypeId} {c1 c2 c3 c4 c5:Array Value} (h1:Blt w b1 t1 c1) (h2:Blt w b2 t2 c2) (h3:Blt w b3 t3 c3) (h4:Blt w b4 t4 c4) (h5:Blt w b5 t5 c5):Blt w' b1 t1 c1∧Blt w' b2 t2 c2∧Blt w' b3 t3 c3∧Blt w' b4 t4 c4∧Blt w' b5 t5 c5:=⟨h1.ahead a,h2.ahead a,h3.ahead a,h4.ahead a,h5.ahead a⟩
theorem up5 {k:Nat} {w w'} (u:Upt k w w') {b1 b2 b3 b4 b5:Nat} {t1 t2 t3 t4 t5:TypeId} {c1 c2 c3 c4 c5:Array Value} (h1:Blt w b1 t1 c1) (h2:Blt w b2 t2 c2) (h3:Blt w b3 t3 c3) (h4:Blt w b4 t4 c4) (h5:Blt w b5 t5 c5) (d:b1≠k∧b2≠k∧b3≠k∧b4≠k∧b5≠k:=by refine ⟨?_, ?_, ?_, ?_, ?_⟩<;>first|exact nl (by assumption)|exact ng (by assumption)|assumption|exact Ne.symm (by assumption)|omega):Blt w' b1 t1 c1∧Blt w' b2 t2 c2∧Blt w' b3 t3 c3∧Blt w' b4 t4 c4∧Blt w' b5 t5 c5:=by
 obtain ⟨d1,d2,d3,d4,d5⟩:=d
 exact ⟨u.blt h1 d1,u.blt h2 d2,u.blt h3 d3,u.blt h4 d4,u.blt h5 d5⟩
theorem lt5 {b:Nat} {w:World} (e:b=w.heap.size) {b1 b2 b3 b4 b5:Nat} {t1 t2 t3 t4 t5:TypeId} {c1 c2 c3 c4 c5:Array Value} (h1:Blt w b1 t1 c1) (h2:Blt w b2 t2 c2) (h3:Blt w b3 t3 c3) (h4:Blt w b4 t4 c4) (h5:Blt w b5 t5 c5):b1<b∧b2<b∧b3<b∧b4<b∧b5<b:=by
 subst e
 exact ⟨h1.lt,h2.lt,h3.lt,h4.lt,h5.lt⟩
theorem ah6 {w w'} (a:Ahead w w') {b1 b2 b3 b4 b5 b6:Nat} {t1 t2 t3 t4 t5 t6:TypeId} {c1 c2 c3 c4 c5 c6:Array Value} (h1:Blt w b1 t1 c1) (h2:Blt w b2 t2 c2) (h3:Blt w b3 t3 c3) (h4:Blt w b4 t4 c4) (h5:Blt w b5 t5 c5) (h6:Blt w b6 t6 c6):Blt w' b1 t1 c1∧Blt w' b2 t2 c2∧Blt w' b3 t3 c3∧Blt w' b4 t4 c4∧Blt w' b5 t5 c5∧Blt w' b6 t6 c6:=⟨h1.ahead a,h2.ahead a,h3.ahead a,h4.ahead a,h5.ahead a,h6.ahead a⟩
theorem up6 {k:Nat} {w w'} (u:Upt k w w') {b1 b2 b3 b4 b5 b6:Nat} {t1 t2 t3 t4 t5 t6:TypeId} {c1 c2 c3 c4 c5 c6:Array Value} (h1:Blt w b1 t1 c1) (h2:Blt w b2 t2 c2) (h3:Blt w b3 t3 c3) (h4:Blt w b4 t4 c4) (h5:Blt w b5 t5 c5) (h6:Blt w b6 t6 c6) (d:b1≠k∧b2≠k∧b3≠k∧b4≠k∧b5≠k∧b6≠k:=by refine ⟨?_, ?_, ?_, ?_, ?_, ?_⟩<;>first|exact nl (by assumption)|exact ng (by assumption)|assumption|exact Ne.symm (by assumption)|omega):Blt w' b1 t1 c1∧Blt w' b2 t2 c2∧Blt w' b3 t3 c3∧Blt w' b4 t4 c4∧Blt w' b5 t5 c5∧Blt w' b6 t6 c6:=by
 obtain ⟨d1,d2,d3,d4,d5,d6⟩:=d
 exact ⟨u.blt h1 d1,u.blt h2 d2,u.blt h3 d3,u.blt h4 d4,u.blt h5 d5,u.blt h6 d6⟩
theorem lt6 {b:Nat} {w:World} (e:b=w.heap.size) {b1 b2 b3 b4 b5 b6:Nat} {t1 t2 t3 t4 t5 t6:TypeId} {c1 c2 c3 c4 c5 c6:Array Value} (h1:Blt w b1 t1 c1) (h2:Blt w b2 t2 c2) (h3:Blt w b3 t3 c3) (h4:Blt w b4 t4 c4) (h5:Blt w b5 t5 c5) (h6:Blt w b6 t6 c6):b1<b∧b2<b∧b3<b∧b4<b∧b5<b∧b6<b:=by
 subst e
 exact ⟨h1.lt,h2.lt,h3.lt,h4.lt,h5.lt,h6.lt⟩
theorem ah7 {w w'} (a:Ahead w w') {b1 b2 b3 b4 b5 b6 b7:Nat} {t1 t2 t3 t4 t5 t6 t7:TypeId} {c1 c2 c3 c4 c5 c6 c7:Array Value} (h1:Blt w b1 t1 c1) (h2:Blt w b2 t2 c2) (h3:Blt w b3 t3 c3) (h4:Blt w b4 t4 c4) (h5:Blt w b5 t5 c5) (h6:Blt w b6 t6 c6) (h7:Blt w b7 t7 c7):Blt w' b1 t1 c1∧Blt w' b2 t2 c2∧Blt w' b3 t3 c3∧Blt w' b4 t4 c4∧Blt w' b5 t5 c5∧Blt w' b6 t6 c6∧Blt w' b7 t7 c7:=⟨h1.ahead a,h2.ahead a,h3.ahead a,h4.ahead a,h5.ahead a,h6.ahead a,h7.ahead a⟩
theorem up7 {k:Nat} {w w'} (u:Upt k w w') {b1 b2 b3 b4 b5 b6 b7:Nat} {t1 t2 t3 t4 t5 t6 t7:TypeId} {c1 c2 c3 c4 c5 c6 c7:Array Value} (h1:Blt w b1 t1 c1) (h2:Blt w b2 t2 c2) (h3:Blt w b3 t3 c3) (h4:Blt w b4 t4 c4) (h5:Blt w b5 t5 c5) (h6:Blt w b6 t6 c6) (h7:Blt w b7 t7 c7) (d:b1≠k∧b2≠k∧b3≠k∧b4≠k∧b5≠k∧b6≠k∧b7≠k:=by refine ⟨?_, ?_, ?_, ?_, ?_, ?_, ?_⟩<;>first|exact nl (by assumption)|exact ng (by assumption)|assumption|exact Ne.symm (by assumption)|omega):Blt w' b1 t1 c1∧Blt w' b2 t2 c2∧Blt w' b3 t3 c3∧Blt w' b4 t4 c4∧Blt w' b5 t5 c5∧Blt w' b6 t6 c6∧Blt w' b7 t7 c7:=by
 obtain ⟨d1,d2,d3,d4,d5,d6,d7⟩:=d
 exact ⟨u.blt h1 d1,u.blt h2 d2,u.blt h3 d3,u.blt h4 d4,u.blt h5 d5,u.blt h6 d6,u.blt h7 d7⟩
theorem lt7 {b:Nat} {w:World} (e:b=w.heap.size) {b1 b2 b3 b4 b5 b6 b7:Nat} {t1 t2 t3 t4 t5 t6 t7:TypeId} {c1 c2 c3 c4 c5 c6 c7:Array Value} (h1:Blt w b1 t1 c1) (h2:Blt w b2 t2 c2) (h3:Blt w b3 t3 c3) (h4:Blt w b4 t4 c4) (h5:Blt w b5 t5 c5) (h6:Blt w b6 t6 c6) (h7:Blt w b7 t7 c7):b1<b∧b2<b∧b3<b∧b4<b∧b5<b∧b6<b∧b7<b:=by
 subst e
 exact ⟨h1.lt,h2.lt,h3.lt,h4.lt,h5.lt,h6.lt,h7.lt⟩
theorem ah8 {w w'} (a:Ahead w w') {b1 b2 b3 b4 b5 b6 b7 b8:Nat} {t1 t2 t3 t4 t5 t6 t7 t8:TypeId} {c1 c2 c3 c4 c5 c6 c7 c8:Array Value} (h1:Blt w b1 t1 c1) (h2:Blt w b2 t2 c2) (h3:Blt w b3 t3 c3) (h4:Blt w b4 t4 c4) (h5:Blt w b5 t5 c5) (h6:Blt w b6 t6 c6) (h7:Blt w b7 t7 c7) (h8:Blt w b8 t8 c8):Blt w' b1 t1 c1∧Blt w' b2 t2 c2∧Blt w' b3 t3 c3∧Blt w' b4 t4 c4∧Blt w' b5 t5 c5∧Blt w' b6 t6 c6∧Blt w' b7 t7 c7∧Blt w' b8 t8 c8:=⟨h1.ahead a,h2.ahead a,h3.ahead a,h4.ahead a,h5.ahead a,h6.ahead a,h7.ahead a,h8.ahead a⟩
theorem up8 {k:Nat} {w w'} (u:Upt k w w') {b1 b2 b3 b4 b5 b6 b7 b8:Nat} {t1 t2 t3 t4 t5 t6 t7 t8:TypeId} {c1 c2 c3 c4 c5 c6 c7 c8:Array Value} (h1:Blt w b1 t1 c1) (h2:Blt w b2 t2 c2) (h3:Blt w b3 t3 c3) (h4:Blt w b4 t4 c4) (h5:Blt w b5 t5 c5) (h6:Blt w b6 t6 c6) (h7:Blt w b7 t7 c7) (h8:Blt w b8 t8 c8) (d:b1≠k∧b2≠k∧b3≠k∧b4≠k∧b5≠k∧b6≠k∧b7≠k∧b8≠k:=by refine ⟨?_, ?_, ?_, ?_, ?_, ?_, ?_, ?_⟩<;>first|exact nl (by assumption)|exact ng (by assumption)|assumption|exact Ne.symm (by assumption)|omega):Blt w' b1 t1 c1∧Blt w' b2 t2 c2∧Blt w' b3 t3 c3∧Blt w' b4 t4 c4∧Blt w' b5 t5 c5∧Blt w' b6 t6 c6∧Blt w' b7 t7 c7∧Blt w' b8 t8 c8:=by
 obtain ⟨d1,d2,d3,d4,d5,d6,d7,d8⟩:=d
 exact ⟨u.blt h1 d1,u.blt h2 d2,u.blt h3 d3,u.blt h4 d4,u.blt h5 d5,u.blt h6 d6,u.blt h7 d7,u.blt h8 d8⟩
theorem lt8 {b:Nat} {w:World} (e:b=w.heap.size) {b1 b2 b3 b4 b5 b6 b7 b8:Nat} {t1 t2 t3 t4 t5 t6 t7 t8:TypeId} {c1 c2 c3 c4 c5 c6 c7 c8:Array Value} (h1:Blt w b1 t1 c1) (h2:Blt w b2 t2 c2) (h3:Blt w b3 t3 c3) (h4:Blt w b4 t4 c4) (h5:Blt w b5 t5 c5) (h6:Blt w b6 t6 c6) (h7:Blt w b7 t7 c7) (h8:Blt w b8 t8 c8):b1<b∧b2<b∧b3<b∧b4<b∧b5<b∧b6<b∧b7<b∧b8<b:=by
 subst e
 exact ⟨h1.lt,h2.lt,h3.lt,h4.lt,h5.lt,h6.lt,h7.lt,h8.lt⟩
def nuV (v:Value):Bool:=match v with
 | .int .u64 _=>false
 |_=>true
theorem tn {v:Value} {l:List Value} (h:nuV v=true) (k:noU l.toArray=true):noU (v::l).toArray=true:=by
 unfold noU at*
 show (v::l).all _=true
 rw [List.all_cons,Bool.and_eq_true]
 exact ⟨h,k⟩
theorem nw {a b c d e f:Value} (h:(nuV a&&nuV b&&nuV c&&nuV d&&nuV e&&nuV f)=true):noU #[a,b,c,d,e,f]=true:=by
 simp only [Bool.and_eq_true] at h
 obtain ⟨⟨⟨⟨⟨h1,h2⟩,h3⟩,h4⟩,h5⟩,h6⟩:=h
 exact tn h1 (tn h2 (tn h3 (tn h4 (tn h5 (tn h6 rfl)))))
theorem zaw {a b c:Value} (h:(nuV a&&nuV b&&nuV c)=true):noU #[a,b,c]=true:=by
 simp only [Bool.and_eq_true] at h
 exact tn h.1.1 (tn h.1.2 (tn h.2 rfl))
theorem zdy {a b:Value} (h:(nuV a&&nuV b)=true):noU #[a,b]=true:=by
 simp only [Bool.and_eq_true] at h
 exact tn h.1 (tn h.2 rfl)
theorem s2_t {w} {b:Nat} {t:TypeId} {c0 c1 v0 v1:Value} {ad0 ad1:Addr} {K:World→Prop} (h:Blt w b t #[c0,c1]) (hk:∀w',Upt b w w'→Blt w' b t #[v0,v1]→K w') (ht:rowTy t=false:=by rfl) (m0:nuV c0=true:=by rfl) (m1:nuV c1=true:=by rfl) (r0:nuV v0=true:=by rfl) (r1:nuV v1=true:=by rfl) (hA0:ad0=⟨b,0,none⟩:=by first|rfl|exact zz) (hA1:ad1=⟨b,1,none⟩:=by first|rfl|exact zz):stC ad0 v0 w fun w1=>stC ad1 v1 w1 K:=
 uh 0 h rfl (zdy (by simp [m0,m1])) ht (fun w1 u1 h1=>uh 1 (show Blt w1 b t #[v0,c1] from h1) rfl (zdy (by simp [m1,r0])) ht (fun w2 u2 h2=>hk w2 (u1.trans u2) h2) hA1) hA0
theorem s3_t {w} {b:Nat} {t:TypeId} {c0 c1 c2 v0 v1 v2:Value} {ad0 ad1 ad2:Addr} {K:World→Prop} (h:Blt w b t #[c0,c1,c2]) (hk:∀w',Upt b w w'→Blt w' b t #[v0,v1,v2]→K w') (ht:rowTy t=false:=by rfl) (m0:nuV c0=true:=by rfl) (m1:nuV c1=true:=by rfl) (m2:nuV c2=true:=by rfl) (r0:nuV v0=true:=by rfl) (r1:nuV v1=true:=by rfl) (r2:nuV v2=true:=by rfl) (hA0:ad0=⟨b,0,none⟩:=by first|rfl|exact zz) (hA1:ad1=⟨b,1,none⟩:=by first|rfl|exact zz) (hA2:ad2=⟨b,2,none⟩:=by first|rfl|exact zz):stC ad0 v0 w fun w1=>stC ad1 v1 w1 fun w2=>stC ad2 v2 w2 K:=
 uh 0 h rfl (zaw (by simp [m0,m1,m2])) ht (fun w1 u1 h1=>uh 1 (show Blt w1 b t #[v0,c1,c2] from h1) rfl (zaw (by simp [m1,m2,r0])) ht (fun w2 u2 h2=>uh 2 (show Blt w2 b t #[v0,v1,c2] from h2) rfl (zaw (by simp [m2,r0,r1])) ht (fun w3 u3 h3=>hk w3 ((u1.trans u2).trans u3) h3) hA2) hA1) hA0
theorem s6_t {w} {b:Nat} {t:TypeId} {c0 c1 c2 c3 c4 c5 v0 v1 v2 v3 v4 v5:Value} {ad0 ad1 ad2 ad3 ad4 ad5:Addr} {K:World→Prop} (h:Blt w b t #[c0,c1,c2,c3,c4,c5]) (hk:∀w',Upt b w w'→Blt w' b t #[v0,v1,v2,v3,v4,v5]→K w') (ht:rowTy t=false:=by rfl) (m0:nuV c0=true:=by rfl) (m1:nuV c1=true:=by rfl) (m2:nuV c2=true:=by rfl) (m3:nuV c3=true:=by rfl) (m4:nuV c4=true:=by rfl) (m5:nuV c5=true:=by rfl) (r0:nuV v0=true:=by rfl) (r1:nuV v1=true:=by rfl) (r2:nuV v2=true:=by rfl) (r3:nuV v3=true:=by rfl) (r4:nuV v4=true:=by rfl) (r5:nuV v5=true:=by rfl) (hA0:ad0=⟨b,0,none⟩:=by first|rfl|exact zz) (hA1:ad1=⟨b,1,none⟩:=by first|rfl|exact zz) (hA2:ad2=⟨b,2,none⟩:=by first|rfl|exact zz) (hA3:ad3=⟨b,3,none⟩:=by first|rfl|exact zz) (hA4:ad4=⟨b,4,none⟩:=by first|rfl|exact zz) (hA5:ad5=⟨b,5,none⟩:=by first|rfl|exact zz):stC ad0 v0 w fun w1=>stC ad1 v1 w1 fun w2=>stC ad2 v2 w2 fun w3=>stC ad3 v3 w3 fun w4=>stC ad4 v4 w4 fun w5=>stC ad5 v5 w5 K:=
 uh 0 h rfl (nw (by simp [m0,m1,m2,m3,m4,m5])) ht (fun w1 u1 h1=>uh 1 (show Blt w1 b t #[v0,c1,c2,c3,c4,c5] from h1) rfl (nw (by simp [m1,m2,m3,m4,m5,r0])) ht (fun w2 u2 h2=>uh 2 (show Blt w2 b t #[v0,v1,c2,c3,c4,c5] from h2) rfl (nw (by simp [m2,m3,m4,m5,r0,r1])) ht (fun w3 u3 h3=>uh 3 (show Blt w3 b t #[v0,v1,v2,c3,c4,c5] from h3) rfl (nw (by simp [m3,m4,m5,r0,r1,r2])) ht (fun w4 u4 h4=>uh 4 (show Blt w4 b t #[v0,v1,v2,v3,c4,c5] from h4) rfl (nw (by simp [m4,m5,r0,r1,r2,r3])) ht (fun w5 u5 h5=>uh 5 (show Blt w5 b t #[v0,v1,v2,v3,v4,c5] from h5) rfl (nw (by simp [m5,r0,r1,r2,r3,r4])) ht (fun w6 u6 h6=>hk w6 (((((u1.trans u2).trans u3).trans u4).trans u5).trans u6) h6) hA5) hA4) hA3) hA2) hA1) hA0
theorem Uz {w} {b:Nat} {t:TypeId} {c0 c1 c2 c3 c4 c5 v0 v1 v2:Value} {ad0 ad1 ad2:Addr} {K:World→Prop} (h:Blt w b t #[c0,c1,c2,c3,c4,c5]) (hk:∀w',Upt b w w'→Blt w' b t #[v0,v1,v2,c3,c4,c5]→K w') (ht:rowTy t=false:=by rfl) (m0:nuV c0=true:=by rfl) (m1:nuV c1=true:=by rfl) (m2:nuV c2=true:=by rfl) (m3:nuV c3=true:=by rfl) (m4:nuV c4=true:=by rfl) (m5:nuV c5=true:=by rfl) (r0:nuV v0=true:=by rfl) (r1:nuV v1=true:=by rfl) (r2:nuV v2=true:=by rfl) (hA0:ad0=⟨b,0,none⟩:=by first|rfl|exact zz) (hA1:ad1=⟨b,1,none⟩:=by first|rfl|exact zz) (hA2:ad2=⟨b,2,none⟩:=by first|rfl|exact zz):stC ad0 v0 w fun w1=>stC ad1 v1 w1 fun w2=>stC ad2 v2 w2 K:=
 uh 0 h rfl (nw (by simp [m0,m1,m2,m3,m4,m5])) ht (fun w1 u1 h1=>uh 1 (show Blt w1 b t #[v0,c1,c2,c3,c4,c5] from h1) rfl (nw (by simp [m1,m2,m3,m4,m5,r0])) ht (fun w2 u2 h2=>uh 2 (show Blt w2 b t #[v0,v1,c2,c3,c4,c5] from h2) rfl (nw (by simp [m2,m3,m4,m5,r0,r1])) ht (fun w3 u3 h3=>hk w3 ((u1.trans u2).trans u3) h3) hA2) hA1) hA0
theorem U0 {w} {b:Nat} {t:TypeId} {c0 c1 c2 c3 c4 c5 v0 v1 v2:Value} {ad0 ad1 ad2:Addr} {K:World→Prop} (h:Blt w b t #[c0,c1,c2,c3,c4,c5]) (hk:∀w',Upt b w w'→Blt w' b t #[c0,c1,c2,v0,v1,v2]→K w') (ht:rowTy t=false:=by rfl) (m0:nuV c0=true:=by rfl) (m1:nuV c1=true:=by rfl) (m2:nuV c2=true:=by rfl) (m3:nuV c3=true:=by rfl) (m4:nuV c4=true:=by rfl) (m5:nuV c5=true:=by rfl) (r0:nuV v0=true:=by rfl) (r1:nuV v1=true:=by rfl) (r2:nuV v2=true:=by rfl) (hA0:ad0=⟨b,3,none⟩:=by first|rfl|exact zz) (hA1:ad1=⟨b,4,none⟩:=by first|rfl|exact zz) (hA2:ad2=⟨b,5,none⟩:=by first|rfl|exact zz):stC ad0 v0 w fun w1=>stC ad1 v1 w1 fun w2=>stC ad2 v2 w2 K:=
 uh 3 h rfl (nw (by simp [m0,m1,m2,m3,m4,m5])) ht (fun w1 u1 h1=>uh 4 (show Blt w1 b t #[c0,c1,c2,v0,c4,c5] from h1) rfl (nw (by simp [m0,m1,m2,m4,m5,r0])) ht (fun w2 u2 h2=>uh 5 (show Blt w2 b t #[c0,c1,c2,v0,v1,c5] from h2) rfl (nw (by simp [m0,m1,m2,m5,r0,r1])) ht (fun w3 u3 h3=>hk w3 ((u1.trans u2).trans u3) h3) hA2) hA1) hA0
theorem zj {a b c:Nat} (h:a≤b) (e:c=b):a≤c:=by omega
theorem bb2 {w w'} {V0 V1:Nat→Prop} {P:Prop} (a:Ahead w w') (h:P):Bar V0 w w'∧Bar V1 w w'∧P:=⟨Bar.of_ahead a,Bar.of_ahead a,h⟩
theorem bb4 {w w'} {V0 V1 V2 V3:Nat→Prop} {P:Prop} (a:Ahead w w') (h:P):Bar V0 w w'∧Bar V1 w w'∧Bar V2 w w'∧Bar V3 w w'∧P:=⟨Bar.of_ahead a,Bar.of_ahead a,Bar.of_ahead a,Bar.of_ahead a,h⟩
theorem axa2 {w0 t w w'} (a:Ahead w w') (A:Ahead w0 w) (X:Ext t w):Ahead w0 w'∧Ext t w':=⟨A.trans a,X.trans (Ext.of_ahead a)⟩
theorem axa3 {w0 t w w'} {n:Nat} (a:Ahead w w') (A:Ahead w0 w) (X:Ext t w) (Y:n≤w.heap.size):Ahead w0 w'∧Ext t w'∧n≤w'.heap.size:=⟨A.trans a,X.trans (Ext.of_ahead a),Nat.le_trans Y a.size⟩
theorem axr2 {w0 w w'} (a:Ahead w w') (A:Ahead w0 w):Ahead w0 w'∧Ext w' w':=⟨A.trans a,Ext.refl _⟩
theorem axr3 {w0 w w'} {n:Nat} (a:Ahead w w') (A:Ahead w0 w) (Y:n≤w.heap.size):Ahead w0 w'∧Ext w' w'∧n≤w'.heap.size:=⟨A.trans a,Ext.refl _,Nat.le_trans Y a.size⟩
theorem axu2 {w0:World} {t w w'} {k:Nat} (u:Upt k w w') (g:w0.heap.size≤k) (A:Ahead w0 w) (X:Ext t w):Ahead w0 w'∧Ext t w':=⟨u.ahead A g,X.trans u.ext⟩
theorem axu3 {w0:World} {t w w'} {k n:Nat} (u:Upt k w w') (g:w0.heap.size≤k) (A:Ahead w0 w) (X:Ext t w) (Y:n≤w.heap.size):Ahead w0 w'∧Ext t w'∧n≤w'.heap.size:=⟨u.ahead A g,X.trans u.ext,Nat.le_trans Y (Nat.le_of_eq u.size.symm)⟩
theorem yt (i:Nat) {w:World} {b:Nat} {t:TypeId} {cs:Array Value} {ad:Addr} {x:Bool} {K:Bool→Prop} (h:Blt w b t cs) (hc:cs[i]? =some (.bool x)) (hk:K x) (hA:ad=⟨b,i,none⟩:=by first|rfl|exact zz):ldB ad w K:=by
 subst hA;exact ⟨x,h.cell hc,hk⟩
theorem ym (i:Nat) {w:World} {b:Nat} {t:TypeId} {cs:Array Value} {ad:Addr} {x:Slc} {K:Slc→Prop} (h:Blt w b t cs) (hc:cs[i]? =some x.v) (hk:K x) (hA:ad=⟨b,i,none⟩:=by first|rfl|exact zz):ldS ad w K:=by
 subst hA;exact ⟨x,h.cell hc,hk⟩
theorem xg (i:Nat) {w:World} {b:Nat} {t:TypeId} {cs:Array Value} {ad:Addr} {k:IntKind} {x:Int} {K:Int→Prop} (h:Blt w b t cs) (hc:cs[i]? =some (.int k x)) (hk:K x) (hA:ad=⟨b,i,none⟩:=by first|rfl|exact zz):ldI k ad w K:=by
 subst hA;exact ⟨x,h.cell hc,hk⟩
theorem l2_t {w} {b:Nat} {t:TypeId} {x0:Bool} {x1:Slc} {ad0 ad1:Addr} {K:Bool→Slc→Prop} (h:Blt w b t #[.bool x0,x1.v]) (hk:K x0 x1) (hA0:ad0=⟨b,0,none⟩:=by first|rfl|exact zz) (hA1:ad1=⟨b,1,none⟩:=by first|rfl|exact zz):ldB ad0 w fun y0=>ldS ad1 w fun y1=>K y0 y1:=
 yt (x:=x0) 0 h rfl (ym (x:=x1) 1 h rfl hk hA1) hA0
theorem l3_t {w} {b:Nat} {t:TypeId} {x0:Bool} {x1:Slc} {x2:Int} {ad0 ad1 ad2:Addr} {K:Bool→Slc→Int→Prop} (h:Blt w b t #[.bool x0,x1.v, .int .i64 x2]) (hk:K x0 x1 x2) (hA0:ad0=⟨b,0,none⟩:=by first|rfl|exact zz) (hA1:ad1=⟨b,1,none⟩:=by first|rfl|exact zz) (hA2:ad2=⟨b,2,none⟩:=by first|rfl|exact zz):ldB ad0 w fun y0=>ldS ad1 w fun y1=>ldI .i64 ad2 w fun y2=>K y0 y1 y2:=
 yt (x:=x0) 0 h rfl (ym (x:=x1) 1 h rfl (xg (x:=x2) 2 h rfl hk hA2) hA1) hA0
theorem yu {w} {b:Nat} {t:TypeId} {x0:Bool} {x1 x2:Slc} {ad0 ad1 ad2:Addr} {K:Bool→Slc→Slc→Prop} (h:Blt w b t #[.bool x0,x1.v,x2.v]) (hk:K x0 x1 x2) (hA0:ad0=⟨b,0,none⟩:=by first|rfl|exact zz) (hA1:ad1=⟨b,1,none⟩:=by first|rfl|exact zz) (hA2:ad2=⟨b,2,none⟩:=by first|rfl|exact zz):ldB ad0 w fun y0=>ldS ad1 w fun y1=>ldS ad2 w fun y2=>K y0 y1 y2:=
 yt (x:=x0) 0 h rfl (ym (x:=x1) 1 h rfl (ym (x:=x2) 2 h rfl hk hA2) hA1) hA0
theorem l6_t {w} {b:Nat} {t:TypeId} {x0:Bool} {x1:Slc} {x2:Int} {x3:Bool} {x4:Slc} {x5:Int} {ad0 ad1 ad2 ad3 ad4 ad5:Addr} {K:Bool→Slc→Int→Bool→Slc→Int→Prop} (h:Blt w b t #[.bool x0,x1.v, .int .i64 x2, .bool x3,x4.v, .int .i64 x5]) (hk:K x0 x1 x2 x3 x4 x5) (hA0:ad0=⟨b,0,none⟩:=by first|rfl|exact zz) (hA1:ad1=⟨b,1,none⟩:=by first|rfl|exact zz) (hA2:ad2=⟨b,2,none⟩:=by first|rfl|exact zz) (hA3:ad3=⟨b,3,none⟩:=by first|rfl|exact zz) (hA4:ad4=⟨b,4,none⟩:=by first|rfl|exact zz) (hA5:ad5=⟨b,5,none⟩:=by first|rfl|exact zz):ldB ad0 w fun y0=>ldS ad1 w fun y1=>ldI .i64 ad2 w fun y2=>ldB ad3 w fun y3=>ldS ad4 w fun y4=>ldI .i64 ad5 w fun y5=>K y0 y1 y2 y3 y4 y5:=
 yt (x:=x0) 0 h rfl (ym (x:=x1) 1 h rfl (xg (x:=x2) 2 h rfl (yt (x:=x3) 3 h rfl (ym (x:=x4) 4 h rfl (xg (x:=x5) 5 h rfl hk hA5) hA4) hA3) hA2) hA1) hA0
theorem v9 {w} {b:Nat} {t:TypeId} {x0:Bool} {x1:Slc} {x2:Int} {x3:Bool} {x4:Slc} {x5:Int} {ad0 ad1 ad2:Addr} {K:Bool→Slc→Int→Prop} (h:Blt w b t #[.bool x0,x1.v, .int .i64 x2, .bool x3,x4.v, .int .i64 x5]) (hk:K x0 x1 x2) (hA0:ad0=⟨b,0,none⟩:=by first|rfl|exact zz) (hA1:ad1=⟨b,1,none⟩:=by first|rfl|exact zz) (hA2:ad2=⟨b,2,none⟩:=by first|rfl|exact zz):ldB ad0 w fun y0=>ldS ad1 w fun y1=>ldI .i64 ad2 w fun y2=>K y0 y1 y2:=
 yt (x:=x0) 0 h rfl (ym (x:=x1) 1 h rfl (xg (x:=x2) 2 h rfl hk hA2) hA1) hA0
theorem ut {w} {b:Nat} {t:TypeId} {x0:Bool} {x1:Slc} {x2:Int} {x3:Bool} {x4:Slc} {x5:Int} {ad0 ad1 ad2:Addr} {K:Bool→Slc→Int→Prop} (h:Blt w b t #[.bool x0,x1.v, .int .i64 x2, .bool x3,x4.v, .int .i64 x5]) (hk:K x3 x4 x5) (hA0:ad0=⟨b,3,none⟩:=by first|rfl|exact zz) (hA1:ad1=⟨b,4,none⟩:=by first|rfl|exact zz) (hA2:ad2=⟨b,5,none⟩:=by first|rfl|exact zz):ldB ad0 w fun y0=>ldS ad1 w fun y1=>ldI .i64 ad2 w fun y2=>K y0 y1 y2:=
 yt (x:=x3) 3 h rfl (ym (x:=x4) 4 h rfl (xg (x:=x5) 5 h rfl hk hA2) hA1) hA0
theorem xp {V:Nat→Prop} {ad:Addr} {b i:Nat} {p:Prop} (hA:ad=⟨b,i,none⟩) (hv:¬V b) (h:p):Out V ad p:=by subst hA;exact ⟨hv,h⟩
theorem zv {b:Bool} {X Y X' Y':Prop} (h:br b X Y) (hx:X→X') (hy:Y→Y'):br b X' Y':=by cases b;exact hy h;exact hx h
theorem zch {P:Program} {α:Type} {e:Sem α} {w:World} {Q Q':α→World→Prop} {E:Halt→World→Prop} (h:Sem.wp P e Q E w) (hq:∀a w',Q a w'→Q' a w'):Sem.wp P e Q' E w:=by
 rw [Sem.wp_iff_run] at h⊢
 generalize e.run P w=r at h
 cases r with
 |halt x w'=>exact h
 |ok n w'=>exact hq _ _ h
section
variable {P : Program} {e : Sem Value} {w : World}
theorem Gn {K K':Addr→World→Prop} (h:semA P e w K) (hk:∀x w',K x w'→K' x w'):semA P e w K':=zch h fun _ _ ⟨x,h1,h2⟩=>⟨x,h1,hk _ _ h2⟩
end
theorem _root_.Go.Proofs.YtbeiopoejdkheaaGreatDoor.Sp.Rd.ext {w w' s} {l:List Int} (h:Rd .u64 w s l) (x:Ext w w'):Rd .u64 w' s l:=
 ⟨h.n,h.c,fun i hi=>by obtain ⟨ad,e,hc⟩:=h.get i hi;exact ⟨ad,e,x.cell _ _ hc⟩⟩
theorem _root_.Go.Proofs.YtbeiopoejdkheaaGreatDoor.Sp.Owr.ext {k:IntKind} {t:TypeId} {w w' s} {l:List Int} {b:Nat} (h:Owr k t w s l b) (x:Ext w w') (ht:rowTy t=true:=by rfl):Owr k t w' s l b:=by
 obtain ⟨sp,h1,h2⟩:=h.mem
 exact ⟨h.hd,sp,h1,x.row _ _ _ _ h2 ht⟩
abbrev xw (w v : World) (K : World → Prop) : Prop := ∀ u, Ext v u → Ahead w u → K u
end L2
end
section
open Go Go.RowKit Eng Sp Dg
namespace Ref
open _root_.Go.Proofs.YtbeiopoejdkheaaGreatDoor.Nat (ldN OwnNil)
def Bk (s:Slc) (k:Nat):Prop:=s.A=some ⟨k,0,none⟩
theorem OwnNil.block {base:Nat} {w} {w':World} {s} {l:List Nat} (h:OwnNil base w s l) (hb:∀k,k<w.heap.size→Bk s k→w'.heap[k]? =w.heap[k]?):OwnNil base w' s l:=by
 rcases h with h|⟨b,h1,h2,h3⟩
 ·exact .inl h
 ·refine .inr ⟨b,h1,h2,h3.hd, ?_⟩
  obtain ⟨sp,hc,hm⟩:=h3.mem
  exact ⟨sp,hc,by rw [hb b h3.lt h3.A];exact hm⟩
end Ref
end
section
open Go Go.RowKit Eng Sp Dg L2
namespace Nat
theorem OwnNil.ext {base:Nat} {w w' s} {l:List Nat} (h:OwnNil base w s l) (x:Ext w w'):OwnNil base w' s l:=by
 rcases h with h|⟨b,h1,h2,h3⟩
 ·exact .inl h
 ·exact .inr ⟨b,h1,h2,h3.ext x⟩
theorem Num.ext {w w' s} {n:Nat} (h:Num w s n) (x:Ext w w'):Num w' s n:=by
 obtain ⟨l,h1,h2⟩:=h
 exact ⟨l,h1.ext x,h2⟩
end Nat
namespace Ref
theorem RN.ext {w w' s} {n:Nat} (h:RN w s n) (x:Ext w w'):RN w' s n:=Sp.Rd.ext h x
end Ref
end
section
open Go Go.RowKit Eng
open _root_.Go.IntKind (wrap)
theorem P8 (aa:Bool) (ab:Slc) (ac:Int) (ad:Bool) (ae:Slc) (af:Int) (w:World) (R:Ending→World→Prop) (h:newC w (zD aa ab ac) 27 fun ad1 w1=>newC w1 (zD ad ae af) 27 fun ad2 w2=>newC w2 (zD false nSl 0) 127 fun ad3 w3=>newC w3 (zD false nSl 0) 127 fun ad4 w4=>ld3 ad1 w4 fun b1 s1 x1=>kU 127 #[uD b1 s1 x1] w4 fun w5 b2 s2 x2 x3=>(newC w5 (zD false nSl 0) 127 fun ad5 w6=>xD ad5 b2 s2 x2 w6 fun w9=>br (x3 !=0) (∃V1:Nat→Nat→Prop,Out (V1 0) ad5 (ld3 ad5 w9.drew fun b3 s3 x4=>Out (V1 1) ad5 (ld3 ad5 w9.drew fun b4 s4 x5=>xD ad3 b3 s3 x4 w9.drew fun w12=>Bar (V1 1) w9.drew w12∧(xD ad4 b4 s4 x5 w12 fun w15=>ld3 ad3 w15 fun b5 s5 x6=>ld3 ad4 w15 fun b6 s6 x7=>R (.returned (.tuple #[uD b5 s5 x6,uD b6 s6 x7,vi x3])) w15)))) (ld3 ad2 w9 fun b7 s7 x8=>kU 127 #[uD b7 s7 x8] w9 fun w16 b8 s8 x9 x10=>(newC w16 (zD false nSl 0) 127 fun ad6 w17=>xD ad6 b8 s8 x9 w17 fun w20=>∃V2:Nat→Nat→Prop,Out (V2 0) ad5 (ld3 ad5 w20.drew fun b9 s9 x11=>Out (V2 1) ad6 (ld3 ad6 w20.drew fun b10 s10 x12=>xD ad3 b9 s9 x11 w20.drew fun w23=>Bar (V2 1) w20.drew w23∧(xD ad4 b10 s10 x12 w23 fun w26=>ld3 ad3 w26 fun b11 s11 x13=>ld3 ad4 w26 fun b12 s12 x14=>R (.returned (.tuple #[uD b11 s11 x13,uD b12 s12 x14,vi x10])) w26))))))):Calls pr 99 #[uD aa ab ac,uD ad ae af] w R:=by
 refine zk (marks [2000003,2000005] (fun _=>none)) (by kernel_rfl) Tryz.func99 rfl ?_ ?_
 ·refine kcast h ?_;kernel_rfl
 ·exact (za rfl (ze (za rfl (ze (za rfl (za rfl (ze (zh (za rfl (xq _ rfl (by kernel_rfl) (zg (zi (za rfl (ze (za rfl (xq _ rfl (by kernel_rfl) (zg trivial)))))))))))))))))
theorem Tx (ab:Bool) (ac:Slc) (ad:Int) (ae:Bool) (af:Slc) (ag:Int) (aa:Int) (w:World) (R:Ending→World→Prop) (h:newC w (zD ab ac ad) 27 fun ad1 w1=>newC w1 (zD ae af ag) 27 fun ad2 w2=>newC w2 (zD false nSl 0) 27 fun ad3 w3=>ld3 ad1 w3 fun b1 s1 x1=>ld3 ad2 w3 fun b2 s2 x2=>Calls pr 99 #[uD b1 s1 x1,uD b2 s2 x2] w3 fun e1 w4=>∃b3:Bool,∃s3:Slc,∃x3:Int,∃b4:Bool,∃s4:Slc,∃x4:Int,∃x5:Int,e1= .returned (.tuple #[uD b3 s3 x3,uD b4 s4 x4,vi x5])∧(newC w4 (zD false nSl 0) 127 fun ad4 w5=>newC w5 (zD false nSl 0) 127 fun ad5 w6=>xD ad4 b3 s3 x3 w6 fun w9=>xD ad5 b4 s4 x4 w9 fun w12=>br (x5 !=0) (xt3 ad3 (.bool false) nSl.v (vi 0) w12 fun w15=>ld3 ad3 w15 fun b5 s5 x6=>R (.returned (.tuple #[uD b5 s5 x6,vi x5])) w15) (ld3 ad4 w12 fun b6 s6 x7=>ld3 ad5 w12 fun b7 s7 x8=>kI 100 #[uD b6 s6 x7,uD b7 s7 x8] w12 fun w16 x9=>(br (decide ((wrap .i64 (x9*aa))<0)) (ld3 ad5 w16 fun b8 s8 x10=>xD ad4 b8 s8 x10 w16 fun w19=>ld3 ad4 w19 fun b9 s9 x11=>kU 104 #[uP b9 s9,vi x11] w19 fun w20 b10 s10 x12 x13=>(xD ad3 b10 s10 x12 w20 fun w23=>ld3 ad3 w23 fun b11 s11 x14=>R (.returned (.tuple #[uD b11 s11 x14,vi x13])) w23)) (ld3 ad4 w16 fun b12 s12 x15=>kU 104 #[uP b12 s12,vi x15] w16 fun w24 b13 s13 x16 x17=>(xD ad3 b13 s13 x16 w24 fun w27=>ld3 ad3 w27 fun b14 s14 x18=>R (.returned (.tuple #[uD b14 s14 x18,vi x17])) w27)))))):Calls pr 106 #[uD ab ac ad,uD ae af ag,vi aa] w R:=by
 refine zk (fun _=>none) (by kernel_rfl) Tryz.func106 rfl ?_ ?_
 ·refine kcast h ?_;kernel_rfl
 ·exact (za rfl (ze (za rfl (ze (za rfl (za rfl (ze (zh (za rfl (ze (zg (zi (za rfl (za rfl (ze (zh (ze (zi (za rfl (ze (zg trivial)))))))))))))))))))))
def tx (K4:Addr→Addr→Addr→World→Prop) (K8:Addr→Addr→Addr→World→Prop) (K11:Addr→Addr→Addr→Int→World→Prop) (K12:Addr→Addr→Addr→Addr→Int→World→Prop):Nat→Option ((Act→World→Prop)×(Act→World→Nat))
 |3000004=>some (fun a_ w_=>atSz a_ 97 (atA a_ 2 fun t2=>atA a_ 3 fun t3=>atA a_ 4 fun t4=>K4 t2 t3 t4 w_),fun _ _=>0)
 |3000008=>some (fun a_ w_=>atSz a_ 97 (atA a_ 2 fun t2=>atA a_ 3 fun t3=>atA a_ 4 fun t4=>K8 t2 t3 t4 w_),fun _ _=>0)
 |3000011=>some (fun a_ w_=>atSz a_ 97 (atA a_ 2 fun t2=>atA a_ 3 fun t3=>atA a_ 4 fun t4=>atI .i64 a_ 6 fun t6=>K11 t2 t3 t4 t6 w_),fun _ _=>0)
 |3000012=>some (fun a_ w_=>atSz a_ 97 (atA a_ 2 fun t2=>atA a_ 3 fun t3=>atA a_ 4 fun t4=>atA a_ 7 fun t7=>atI .i64 a_ 8 fun t8=>K12 t2 t3 t4 t7 t8 w_),fun _ _=>0)
 |_=>none
theorem P6 (ao:Bool) (ap:Slc) (aq:Int) (ar:Bool) (au:Slc) (av:Int) (w:World) (R:Ending→World→Prop) (K4:Addr→Addr→Addr→World→Prop) (K8:Addr→Addr→Addr→World→Prop) (K11:Addr→Addr→Addr→Int→World→Prop) (K12:Addr→Addr→Addr→Addr→Int→World→Prop) (h:newC w (zD ao ap aq) 127 fun ad1 w1=>newC w1 (zD ar au av) 127 fun ad2 w2=>newC w2 (zD false nSl 0) 27 fun ad3 w3=>ld2 ad1 w3 fun b1 s1=>kI 128 #[uP b1 s1] w3 fun w4 x1=>(br (x1==0) (ld3 ad2 w4 fun b2 s2 x2=>ld3 ad1 w4 fun b3 s3 x3=>xD ad1 b2 s2 x2 w4 fun w7=>xD ad2 b3 s3 x3 w7 fun w10=>K4 ad1 ad2 ad3 w10) (K4 ad1 ad2 ad3 w4))) (ak:∀t2 t3 t4 w_,K4 t2 t3 t4 w_→ld2 t3 w_ fun b4 s4=>kI 128 #[uP b4 s4] w_ fun w11 x4=>(br (x4==0) (ld3 t2 w11 fun b5 s5 x5=>kU 104 #[uP b5 s5,vi x5] w11 fun w12 b6 s6 x6 x7=>(xD t4 b6 s6 x6 w12 fun w15=>ld3 t4 w15 fun b7 s7 x8=>R (.returned (.tuple #[uD b7 s7 x8,vi x7])) w15)) (ldI .i64 (t2.add 2) w11 fun x9=>ldI .i64 (t3.add 2) w11 fun x10=>br (decide (x9<x10)) (ld3 t3 w11 fun b8 s8 x11=>ld3 t2 w11 fun b9 s9 x12=>xD t2 b8 s8 x11 w11 fun w18=>xD t3 b9 s9 x12 w18 fun w21=>K8 t2 t3 t4 w21) (K8 t2 t3 t4 w11)))) (al:∀t2 t3 t4 w_,K8 t2 t3 t4 w_→ldI .i64 (t2.add 2) w_ fun x13=>ldI .i64 (t3.add 2) w_ fun x14=>br (decide ((wrap .i64 (x13 -x14))>0)) (ld3 t2 w_.drew fun b10 s10 x15=>ld3 t3 w_.drew fun b11 s11 x16=>ldI .i64 (t3.add 2) w_.drew fun x17=>kI 129 #[uD b10 s10 x15] w_.drew fun w22 x18=>(Ahead w_.drew w22∧(kI 129 #[uD b11 s11 x16] w22 fun w23 x19=>(Ahead w22 w23∧(br (decide ((wrap .i64 ((maxI x18 (wrap .i64 (x19+1))) -x17))>67108866)) (xt3 t4 (.bool false) nSl.v (vi 0) w23 fun w26=>ld3 t4 w26 fun b12 s12 x20=>R (.returned (.tuple #[uD b12 s12 x20,vi 3])) w26) (K11 t2 t3 t4 (wrap .i64 (x13 -x14)) w23)))))) (K11 t2 t3 t4 (wrap .i64 (x13 -x14)) w_.drew)) (am:∀t2 t3 t4 t6 w_,K11 t2 t3 t4 t6 w_→∃V1:Nat→Nat→Prop,Out (V1 3) t2 (ldB t2 w_.drew fun b13=>Out (V1 7) (t2.add 1) (ldS (t2.add 1) w_.drew fun s13=>(kS 130 #[s13.v,vi t6] w_.drew fun w27 s14=>(Bar (V1 3) w_.drew w27∧((Calls pr 160 #[.bool b13,s14.v] w27 fun e7 w28=>∃b14:Bool,∃s15:Slc,∃x21:Int,e7= .returned (.tuple #[uP b14 s15,vi x21])∧(newC w28 #[.bool false,nSl.v] 25 fun ad4 w29=>Bar (V1 3) w28 w29∧(Bar (V1 7) w28 w29∧(xt2 ad4 (.bool b14) s15.v w29 fun w31=>K12 t2 t3 t4 ad4 x21 w31))))∧(newC w27 #[.bool false,nSl.v] 25 fun ad6 w48=>Bar (V1 3) w27 w48∧(Bar (V1 7) w27 w48∧(Calls pr 160 #[.bool b13,s14.v] w48 fun e12 w49=>∃b29:Bool,∃s30:Slc,∃x37:Int,e12= .returned (.tuple #[uP b29 s30,vi x37])∧(xt2 ad6 (.bool b29) s30.v w49 fun w51=>K12 t2 t3 t4 ad6 x37 w51)))))))∧(newC w_.drew #[.bool false,nSl.v] 25 fun ad7 w52=>Bar (V1 3) w_.drew w52∧(Bar (V1 7) w_.drew w52∧(kS 130 #[s13.v,vi t6] w52 fun w53 s31=>(Bar (V1 3) w52 w53∧(Calls pr 160 #[.bool b13,s31.v] w53 fun e14 w54=>∃b30:Bool,∃s32:Slc,∃x38:Int,e14= .returned (.tuple #[uP b30 s32,vi x38])∧(xt2 ad7 (.bool b30) s32.v w54 fun w56=>K12 t2 t3 t4 ad7 x38 w56))))))))) (an:∀t2 t3 t4 t7 t8 w_,K12 t2 t3 t4 t7 t8 w_→br (t8 !=0) (ld3 t2 w_ fun b15 s16 x22=>ld3 t3 w_ fun b16 s17 x23=>kU 161 #[uD b15 s16 x22,uD b16 s17 x23] w_ fun w32 b17 s18 x24 x25=>(xD t4 b17 s18 x24 w32 fun w35=>ld3 t4 w35 fun b18 s19 x26=>R (.returned (.tuple #[uD b18 s19 x26,vi x25])) w35)) (ld2 t7 w_ fun b19 s20=>ld2 t3 w_ fun b20 s21=>Calls pr 162 #[uP b19 s20,uP b20 s21] w_ fun e9 w36=>∃b21:Bool,∃s22:Slc,∃x27:Int,e9= .returned (.tuple #[uP b21 s22,vi x27])∧(newC w36 #[.bool false,nSl.v] 25 fun ad5 w37=>xt2 ad5 (.bool b21) s22.v w37 fun w39=>br (x27 !=0) (ld3 t2 w39 fun b22 s23 x28=>ld3 t3 w39 fun b23 s24 x29=>kU 161 #[uD b22 s23 x28,uD b23 s24 x29] w39 fun w40 b24 s25 x30 x31=>(xD t4 b24 s25 x30 w40 fun w43=>ld3 t4 w43 fun b25 s26 x32=>R (.returned (.tuple #[uD b25 s26 x32,vi x31])) w43)) (ld2 ad5 w39 fun b26 s27=>ldI .i64 (t3.add 2) w39 fun x33=>kU 104 #[uP b26 s27,vi x33] w39 fun w44 b27 s28 x34 x35=>(xD t4 b27 s28 x34 w44 fun w47=>ld3 t4 w47 fun b28 s29 x36=>R (.returned (.tuple #[uD b28 s29 x36,vi x35])) w47))))):Calls pr 131 #[uD ao ap aq,uD ar au av] w R:=by
 refine zk (marks [2000010] (tx K4 K8 K11 K12)) (by kernel_rfl) Tryz.func131 rfl ?_ ?_
 ·refine kcast h ?_;kernel_rfl
 ·exact (za rfl (ze (xr _ rfl (za rfl (ze (zh (ze (zi trivial))))) (fun a_ w_ aa=>(by
  obtain ⟨ab,ac,aa⟩:=ya aa
  obtain ⟨t2,ad,aa⟩:=yf aa
  obtain ⟨t3,ae,aa⟩:=yf aa
  obtain ⟨t4,af,aa⟩:=yf aa
  obtain ⟨az,rfl⟩:∃g,a_=Fr 97 [(2,vp t2),(3,vp t3),(4,vp t4)] g:=⟨_,yp ab ac _ (zf ad (zf ae (zf af yc)))⟩
  clear ab ac ad ae af
  have ag:=aa
  refine ⟨(marks [2000010] (tx K4 K8 K11 K12)),kcast (ak t2 t3 t4 w_ ag) ?_, ?_⟩
  ·kernel_rfl
  ·exact (za rfl (za rfl (ze (zh (za rfl (ze (zg (zi (xr _ rfl (za rfl (ze (zh (ze (zi trivial))))) (fun a_ w_ aa=>(by
   obtain ⟨ab,ac,aa⟩:=ya aa
   obtain ⟨t2,ad,aa⟩:=yf aa
   obtain ⟨t3,ae,aa⟩:=yf aa
   obtain ⟨t4,af,aa⟩:=yf aa
   obtain ⟨aA,rfl⟩:∃g,a_=Fr 97 [(2,vp t2),(3,vp t3),(4,vp t4)] g:=⟨_,yp ab ac _ (zf ad (zf ae (zf af yc)))⟩
   clear ab ac ad ae af
   have ah:=aa
   refine ⟨(marks [2000010] (tx K4 K8 K11 K12)),kcast (al t2 t3 t4 w_ ah) ?_, ?_⟩
   ·kernel_rfl
   ·exact (za rfl (ze (xr _ rfl (za rfl (yy (by kernel_rfl) (by kernel_rfl) (by kernel_rfl) (zh (za rfl (ze (zg (zi trivial))))))) (fun a_ w_ aa=>(by
    obtain ⟨ab,ac,aa⟩:=ya aa
    obtain ⟨t2,ad,aa⟩:=yf aa
    obtain ⟨t3,ae,aa⟩:=yf aa
    obtain ⟨t4,af,aa⟩:=yf aa
    obtain ⟨t6,aw,aa⟩:=zq aa
    obtain ⟨aB,rfl⟩:∃g,a_=Fr 97 [(2,vp t2),(3,vp t3),(4,vp t4),(6,vi t6)] g:=⟨_,yp ab ac _ (zf ad (zf ae (zf af (zf aw yc))))⟩
    clear ab ac ad ae af aw
    have ai:=aa
    refine ⟨(marks [2000010] (tx K4 K8 K11 K12)),kcast (am t2 t3 t4 t6 w_ ai) ?_, ?_⟩
    ·kernel_rfl
    ·exact (xr _ rfl (xq _ rfl (by kernel_rfl) trivial) (fun a_ w_ aa=>(by
     obtain ⟨ab,ac,aa⟩:=ya aa
     obtain ⟨t2,ad,aa⟩:=yf aa
     obtain ⟨t3,ae,aa⟩:=yf aa
     obtain ⟨t4,af,aa⟩:=yf aa
     obtain ⟨t7,ax,aa⟩:=yf aa
     obtain ⟨t8,ay,aa⟩:=zq aa
     obtain ⟨aC,rfl⟩:∃g,a_=Fr 97 [(2,vp t2),(3,vp t3),(4,vp t4),(7,vp t7),(8,vi t8)] g:=⟨_,yp ab ac _ (zf ad (zf ae (zf af (zf ax (zf ay yc)))))⟩
     clear ab ac ad ae af ax ay
     have aj:=aa
     refine ⟨(marks [2000010] (tx K4 K8 K11 K12)),kcast (an t2 t3 t4 t7 t8 w_ aj) ?_, ?_⟩
     ·kernel_rfl
     ·exact (za rfl (za rfl (ze (zh (za rfl (ze (zg (zi (za rfl (ze (za rfl (za rfl (ze (zh (za rfl (ze (zg (zi (za rfl (ze (zg trivial)))))))))))))))))))))))))))))))))))))))))))))
theorem M2 (aa:Bool) (ab:Slc) (w:World) (R:Ending→World→Prop) (h:newC w #[.bool aa,ab.v] 25 fun ad1 w1=>newC w1 #[.bool false,nSl.v] 25 fun ad2 w2=>ldS (ad1.add 1) w2 fun s1=>kI 46 #[s1.v] w2 fun w3 x1=>(br (decide (x1>67108864)) (xt2 ad2 (.bool false) nSl.v w3 fun w5=>ld2 ad2 w5 fun b1 s2=>R (.returned (.tuple #[uP b1 s2,vi 3])) w5) (ld2 ad1 w3 fun b2 s3=>Calls pr 172 #[uP b2 s3] w3 fun e2 w6=>∃b3:Bool,∃s4:Slc,e2= .returned (uP b3 s4)∧(xt2 ad2 (.bool b3) s4.v w6 fun w8=>ld2 ad2 w8 fun b4 s5=>R (.returned (.tuple #[uP b4 s5,vi 0])) w8)))):Calls pr 165 #[uP aa ab] w R:=by
 refine zk (fun _=>none) (by kernel_rfl) Tryz.func165 rfl ?_ ?_
 ·refine kcast h ?_;kernel_rfl
 ·exact (za rfl (ze (za rfl (za rfl (ze (zh (za rfl (ze (zg (zi (za rfl (ze (zg trivial)))))))))))))
theorem M4 (aa:Bool) (ab:Slc) (w:World) (R:Ending→World→Prop) (h:newC w #[.bool aa,ab.v] 25 fun ad1 w1=>newC w1 #[.bool false,nSl.v] 25 fun ad2 w2=>ldS (ad1.add 1) w2 fun s1=>kS 85 #[s1.v] w2 fun w3 s2=>(ldB ad1 w3 fun b1=>br b1 (xt2 ad2 (.bool (decide ((s2.n:Int)>0))) s2.v w3 fun w5=>ld2 ad2 w5 fun b2 s3=>R (.returned (uP b2 s3)) w5) (xt2 ad2 (.bool false) s2.v w3 fun w7=>ld2 ad2 w7 fun b3 s4=>R (.returned (uP b3 s4)) w7))):Calls pr 172 #[uP aa ab] w R:=by
 refine zk (fun _=>none) (by kernel_rfl) Tryz.func172 rfl ?_ ?_
 ·refine kcast h ?_;kernel_rfl
 ·exact (za rfl (ze (za rfl (ze (za rfl (ze (zg trivial)))))))
theorem Tg (aa:Bool) (ac:Slc) (ab:Int) (w:World) (R:Ending→World→Prop) (h:newC w #[.bool false,nSl.v] 25 fun ad1 w1=>br (ab !=0) (xt2 ad1 (.bool false) nSl.v w1 fun w3=>ld2 ad1 w3 fun b1 s1=>R (.returned (.tuple #[uP b1 s1,vi ab])) w3) (Calls pr 165 #[uP aa ac] w1 fun e1 w4=>∃b2:Bool,∃s2:Slc,∃x1:Int,e1= .returned (.tuple #[uP b2 s2,vi x1])∧(xt2 ad1 (.bool b2) s2.v w4 fun w6=>ld2 ad1 w6 fun b3 s3=>R (.returned (.tuple #[uP b3 s3,vi x1])) w6))):Calls pr 133 (zD aa ac ab) w R:=by
 refine zk (fun _=>none) (by kernel_rfl) Tryz.func133 rfl ?_ ?_
 ·refine kcast h ?_;kernel_rfl
 ·exact (za rfl (ze (za rfl (za rfl (ze (zh (za rfl (ze (zg (zi (za rfl (ze (zg trivial)))))))))))))
end
section
open Go Go.RowKit Eng L2
open _root_.Go.IntKind (wrap)
theorem Ue (ah:Bool) (ai:Slc) (aj:Int) (a1:Int) (a2:Int) (w:World) (R:Ending→World→Prop) (K3:Int→Int→Bool→Bool→Slc→Int→Bool→Slc→World→Prop) (K8:Int→Int→Slc→Bool→Slc→Int→Bool→Slc→World→Prop) (K16:Slc→Bool→Bool→Slc→Int→Bool→Slc→World→Prop) (h:xw w w fun w1=>(kI 128 #[uP ah ai] w1 fun w2 x1=>Ahead w1 w2∧(br (x1==0) (K3 a1 a2 true ah ai aj false nSl w2) (K3 a1 a2 (decide (aj≥a1)) ah ai aj false nSl w2)))) (an:∀t1 t2 t19 aa ab ac ad ae w_,Ahead w w_→K3 t1 t2 t19 aa ab ac ad ae w_→br t19 (xw w w_ fun w3=>(kS 130 #[ab.v,vi (maxI (wrap .i64 (ac -t1)) 0)] w3 fun w4 s1=>Ahead w3 w4∧(xw w w4 fun w5=>(R (.returned (uP aa s1)) w5)))) (kI 135 #[uP aa ab] w_ fun w6 x2=>Ahead w_ w6∧(br (decide ((wrap .i64 (t1 -ac))<x2)) (kS 166 #[ab.v,vi (wrap .i64 (t1 -ac))] w6 fun w7 s2=>Ahead w6 w7∧(K8 t2 (wrap .i64 (t1 -ac)) s2 aa ab ac ad ae w7)) (K8 t2 (wrap .i64 (t1 -ac)) nSl aa ab ac ad ae w6)))) (ao:∀t2 t7 t8 aa ab ac ad ae w_,Ahead w w_→K8 t2 t7 t8 aa ab ac ad ae w_→br (t2==2) (kI 52 #[ab.v,vi (wrap .i64 (t7 -1))] w_ fun w8 x3=>Ahead w_ w8∧(br (x3==1) (kI 49 #[ab.v] w8 fun w9 x4=>Ahead w8 w9∧(br (decide (x4<(wrap .i64 (t7 -1)))) (K16 t8 true aa ab ac ad ae w9) (kI 52 #[t8.v,vi 0] w9 fun w14 x5=>Ahead w9 w14∧(br (!(x5==1)) (K16 t8 false aa ab ac ad ae w14) (K16 t8 true aa ab ac ad ae w14))))) (K16 t8 false aa ab ac ad ae w8))) (br (t2==0) (K16 t8 aa aa ab ac ad ae w_) (K16 t8 (!aa) aa ab ac ad ae w_))) (ap:∀t8 t9 aa ab ac ad ae w_,Ahead w w_→K16 t8 t9 aa ab ac ad ae w_→br t9 (kS 84 #[.int .u64 1] w_ fun w10 s3=>Ahead w_ w10∧(kS 171 #[t8.v,s3.v] w10 fun w11 s4=>Ahead w10 w11∧(xw w w11 fun w12=>(R (.returned (uP aa s4)) w12)))) (xw w w_ fun w13=>(R (.returned (uP aa t8)) w13))):Calls pr 173 #[uD ah ai aj,vi a1,vi a2] w (fun e_ w_=>Ahead w w_∧R e_ w_):=by
  refine Uf ah ai aj a1 a2 w _ (fun t1 t2 t3 t6 t19 w_=>∃af:Nat,∃ag:Nat,∃aa:Bool,∃ab:Slc,∃ac:Int,∃ad:Bool,∃ae:Slc,t3=⟨af,0,none⟩∧Blt w_ af 127 #[Value.bool aa,ab.v,vi ac]∧w.heap.size≤af∧t6=⟨ag,0,none⟩∧Blt w_ ag 25 #[Value.bool ad,ae.v]∧w.heap.size≤ag∧af≠ag∧Ahead w w_∧K3 t1 t2 t19 aa ab ac ad ae w_) (fun t2 t3 t6 t7 t8 w_=>∃af:Nat,∃ag:Nat,∃aa:Bool,∃ab:Slc,∃ac:Int,∃ad:Bool,∃ae:Slc,t3=⟨af,0,none⟩∧Blt w_ af 127 #[Value.bool aa,ab.v,vi ac]∧w.heap.size≤af∧t6=⟨ag,0,none⟩∧Blt w_ ag 25 #[Value.bool ad,ae.v]∧w.heap.size≤ag∧af≠ag∧Ahead w w_∧K8 t2 t7 t8 aa ab ac ad ae w_) (fun t3 t6 t8 t9 w_=>∃af:Nat,∃ag:Nat,∃aa:Bool,∃ab:Slc,∃ac:Int,∃ad:Bool,∃ae:Slc,t3=⟨af,0,none⟩∧Blt w_ af 127 #[Value.bool aa,ab.v,vi ac]∧w.heap.size≤af∧t6=⟨ag,0,none⟩∧Blt w_ ag 25 #[Value.bool ad,ae.v]∧w.heap.size≤ag∧af≠ag∧Ahead w w_∧K16 t8 t9 aa ab ac ad ae w_) ?_ ?_ ?_ ?_
  · have A:Ahead w w:=Ahead.refl w
    have X:Ext w w:=Ext.refl w
    refine zn fun bk1 u1 hb a _ B1=> ?_;have g1:=zj A.size hb;obtain ⟨A,X⟩:=axa2 a A X;refine zn fun bk2 u2 hb a _ B2=> ?_;have g2:=zj A.size hb;have l1_2:=lt1 hb B1;replace B1:=B1.ahead a;obtain ⟨A,X⟩:=axa2 a A X;refine yt 0 B1 rfl ?_;refine ym 1 B1 rfl ?_;replace h:=h _ X A;refine Calls.mono h ?_;clear h;rintro e1 w2 ⟨x1,he_,a,h⟩;refine ⟨x1,he_, ?_⟩;clear he_;obtain ⟨B1,B2⟩:=ah2 a B1 B2;obtain ⟨A,X⟩:=axr2 a A;refine zv h (fun h_=> ?_) (fun h_=> ?_)
    ·replace h:=h_;clear h_;exact ⟨bk1,bk2,ah,ai,aj,false,(⟨none,0,0⟩:Slc),rfl,B1,g1,rfl,B2,g2,(by omega),A,h⟩
    ·replace h:=h_;clear h_;refine xg 2 B1 rfl ?_;exact ⟨bk1,bk2,ah,ai,aj,false,(⟨none,0,0⟩:Slc),rfl,B1,g1,rfl,B2,g2,(by omega),A,h⟩
  · clear h
    rintro t1 t2 t3 t6 t19 w_ ⟨bk1,bk2,aa,ab,ac,ad,ae,rfl,B1,g1,rfl,B2,g2,n1_2,A,ak⟩
    have h:=an t1 t2 t19 aa ab ac ad ae w_ A ak
    have X:Ext w_ w_:=Ext.refl _
    refine zv h (fun h_=> ?_) (fun h_=> ?_)
    ·replace h:=h_;clear h_;have aq:=Sp.Ahead.drew w_;obtain ⟨B1,B2⟩:=ah2 aq B1 B2;obtain ⟨A,X⟩:=axa2 aq A X;clear aq;refine yt 0 B1 rfl ?_;refine ym 1 B1 rfl ?_;refine xg 2 B1 rfl ?_;replace h:=h _ X A;refine Calls.mono h ?_;clear h;rintro e2 w4 ⟨s1,he_,a,h⟩;refine ⟨s1,he_, ?_⟩;clear he_;obtain ⟨B1,B2⟩:=ah2 a B1 B2;obtain ⟨A,X⟩:=axr2 a A;refine ⟨a, ?_⟩;refine s2_t B2 fun u3 k B2=> ?_;replace B1:=up1 k B1;obtain ⟨A,X⟩:=axu2 k g2 A X;refine l2_t B2 ?_;replace h:=h _ X A;exact ⟨A,h⟩
    ·replace h:=h_;clear h_;refine xg 2 B1 rfl ?_;refine yt 0 B1 rfl ?_;refine ym 1 B1 rfl ?_;refine Calls.mono h ?_;clear h;rintro e3 w6 ⟨x2,he_,a,h⟩;refine ⟨x2,he_, ?_⟩;clear he_;obtain ⟨B1,B2⟩:=ah2 a B1 B2;obtain ⟨A,X⟩:=axr2 a A;refine zv h (fun h_=> ?_) (fun h_=> ?_)
     ·replace h:=h_;clear h_;refine ym 1 B1 rfl ?_;refine Calls.mono h ?_;clear h;rintro e4 w7 ⟨s2,he_,a,h⟩;refine ⟨s2,he_, ?_⟩;clear he_;obtain ⟨B1,B2⟩:=ah2 a B1 B2;obtain ⟨A,X⟩:=axr2 a A;exact ⟨bk1,bk2,aa,ab,ac,ad,ae,rfl,B1,g1,rfl,B2,g2,(by omega),A,h⟩
     ·replace h:=h_;clear h_;exact ⟨bk1,bk2,aa,ab,ac,ad,ae,rfl,B1,g1,rfl,B2,g2,(by omega),A,h⟩
  · clear h
    rintro t2 t3 t6 t7 t8 w_ ⟨bk1,bk2,aa,ab,ac,ad,ae,rfl,B1,g1,rfl,B2,g2,n1_2,A,al⟩
    have h:=ao t2 t7 t8 aa ab ac ad ae w_ A al
    have X:Ext w_ w_:=Ext.refl _
    refine zv h (fun h_=> ?_) (fun h_=> ?_)
    ·replace h:=h_;clear h_;refine ym 1 B1 rfl ?_;refine Calls.mono h ?_;clear h;rintro e5 w8 ⟨x3,he_,a,h⟩;refine ⟨x3,he_, ?_⟩;clear he_;obtain ⟨B1,B2⟩:=ah2 a B1 B2;obtain ⟨A,X⟩:=axr2 a A;refine zv h (fun h_=> ?_) (fun h_=> ?_)
     ·replace h:=h_;clear h_;refine ym 1 B1 rfl ?_;refine Calls.mono h ?_;clear h;rintro e6 w9 ⟨x4,he_,a,h⟩;refine ⟨x4,he_, ?_⟩;clear he_;obtain ⟨B1,B2⟩:=ah2 a B1 B2;obtain ⟨A,X⟩:=axr2 a A;refine zv h (fun h_=> ?_) (fun h_=> ?_)
      ·replace h:=h_;clear h_;exact ⟨bk1,bk2,aa,ab,ac,ad,ae,rfl,B1,g1,rfl,B2,g2,(by omega),A,h⟩
      ·replace h:=h_;clear h_;refine Calls.mono h ?_;clear h;rintro e9 w14 ⟨x5,he_,a,h⟩;refine ⟨x5,he_, ?_⟩;clear he_;obtain ⟨B1,B2⟩:=ah2 a B1 B2;obtain ⟨A,X⟩:=axr2 a A;refine zv h (fun h_=> ?_) (fun h_=> ?_)
       ·replace h:=h_;clear h_;exact ⟨bk1,bk2,aa,ab,ac,ad,ae,rfl,B1,g1,rfl,B2,g2,(by omega),A,h⟩
       ·replace h:=h_;clear h_;exact ⟨bk1,bk2,aa,ab,ac,ad,ae,rfl,B1,g1,rfl,B2,g2,(by omega),A,h⟩
     ·replace h:=h_;clear h_;exact ⟨bk1,bk2,aa,ab,ac,ad,ae,rfl,B1,g1,rfl,B2,g2,(by omega),A,h⟩
    ·replace h:=h_;clear h_;refine zv h (fun h_=> ?_) (fun h_=> ?_)
     ·replace h:=h_;clear h_;refine yt 0 B1 rfl ?_;exact ⟨bk1,bk2,aa,ab,ac,ad,ae,rfl,B1,g1,rfl,B2,g2,(by omega),A,h⟩
     ·replace h:=h_;clear h_;refine yt 0 B1 rfl ?_;exact ⟨bk1,bk2,aa,ab,ac,ad,ae,rfl,B1,g1,rfl,B2,g2,(by omega),A,h⟩
  · clear h
    rintro t3 t6 t8 t9 w_ ⟨bk1,bk2,aa,ab,ac,ad,ae,rfl,B1,g1,rfl,B2,g2,n1_2,A,am⟩
    have h:=ap t8 t9 aa ab ac ad ae w_ A am
    have X:Ext w_ w_:=Ext.refl _
    refine zv h (fun h_=> ?_) (fun h_=> ?_)
    ·replace h:=h_;clear h_;refine Calls.mono h ?_;clear h;rintro e7 w10 ⟨s3,he_,a,h⟩;refine ⟨s3,he_, ?_⟩;clear he_;obtain ⟨B1,B2⟩:=ah2 a B1 B2;obtain ⟨A,X⟩:=axr2 a A;refine Calls.mono h ?_;clear h;rintro e8 w11 ⟨s4,he_,a,h⟩;refine ⟨s4,he_, ?_⟩;clear he_;obtain ⟨B1,B2⟩:=ah2 a B1 B2;obtain ⟨A,X⟩:=axr2 a A;refine yt 0 B1 rfl ?_;refine s2_t B2 fun u4 k B2=> ?_;replace B1:=up1 k B1;obtain ⟨A,X⟩:=axu2 k g2 A X;refine l2_t B2 ?_;replace h:=h _ X A;exact ⟨A,h⟩
    ·replace h:=h_;clear h_;refine yt 0 B1 rfl ?_;refine s2_t B2 fun u5 k B2=> ?_;replace B1:=up1 k B1;obtain ⟨A,X⟩:=axu2 k g2 A X;refine l2_t B2 ?_;replace h:=h _ X A;exact ⟨A,h⟩
theorem Z3 (aa:Bool) (ab:Slc) (ac:Int) (ad:Int) (ae:Int) (w:World) (R:Ending→World→Prop) (h:xw w w fun w1=>(kI 128 #[uP aa ab] w1 fun w2 x1=>Ahead w1 w2∧(br (x1==0) (kU 104 #[uP aa ab,vi ac] w2 fun w3 b1 s1 x2 x3=>Ahead w2 w3∧(xw w w3 fun w4=>(R (.returned (.tuple #[uD b1 s1 x2,vi x3])) w4))) (br (decide (ac≥ad)) (kU 104 #[uP aa ab,vi ac] w2 fun w5 b2 s2 x4 x5=>Ahead w2 w5∧(xw w w5 fun w6=>(R (.returned (.tuple #[uD b2 s2 x4,vi x5])) w6))) (Calls pr 173 #[uD aa ab ac,vi ad,vi ae] w2 fun e4 w7=>∃b3:Bool,∃s3:Slc,e4= .returned (uP b3 s3)∧Ahead w2 w7∧(kU 104 #[uP b3 s3,vi ad] w7 fun w8 b4 s4 x6 x7=>Ahead w7 w8∧(xw w w8 fun w9=>(R (.returned (.tuple #[uD b4 s4 x6,vi x7])) w9)))))))):Calls pr 164 #[uD aa ab ac,vi ad,vi ae] w (fun e_ w_=>Ahead w w_∧R e_ w_):=by
  refine Z4 aa ab ac ad ae w _ ?_
  · have A:Ahead w w:=Ahead.refl w
    have X:Ext w w:=Ext.refl w
    refine zn fun bk1 u1 hb a _ B1=> ?_;have g1:=zj A.size hb;obtain ⟨A,X⟩:=axa2 a A X;refine zn fun bk2 u2 hb a _ B2=> ?_;have g2:=zj A.size hb;have l1_2:=lt1 hb B1;replace B1:=B1.ahead a;obtain ⟨A,X⟩:=axa2 a A X;refine yt 0 B1 rfl ?_;refine ym 1 B1 rfl ?_;replace h:=h _ X A;refine Calls.mono h ?_;clear h;rintro e1 w2 ⟨x1,he_,a,h⟩;refine ⟨x1,he_, ?_⟩;clear he_;obtain ⟨B1,B2⟩:=ah2 a B1 B2;obtain ⟨A,X⟩:=axr2 a A;refine zv h (fun h_=> ?_) (fun h_=> ?_)
    ·replace h:=h_;clear h_;refine yt 0 B1 rfl ?_;refine ym 1 B1 rfl ?_;refine xg 2 B1 rfl ?_;refine Calls.mono h ?_;clear h;rintro e2 w3 ⟨b1,s1,x2,x3,he_,a,h⟩;refine ⟨b1,s1,x2,x3,he_, ?_⟩;clear he_;obtain ⟨B1,B2⟩:=ah2 a B1 B2;obtain ⟨A,X⟩:=axr2 a A;refine s3_t B2 fun u3 k B2=> ?_;replace B1:=up1 k B1;obtain ⟨A,X⟩:=axu2 k g2 A X;refine l3_t B2 ?_;replace h:=h _ X A;exact ⟨A,h⟩
    ·replace h:=h_;clear h_;refine xg 2 B1 rfl ?_;refine zv h (fun h_=> ?_) (fun h_=> ?_)
     ·replace h:=h_;clear h_;refine yt 0 B1 rfl ?_;refine ym 1 B1 rfl ?_;refine xg 2 B1 rfl ?_;refine Calls.mono h ?_;clear h;rintro e3 w5 ⟨b2,s2,x4,x5,he_,a,h⟩;refine ⟨b2,s2,x4,x5,he_, ?_⟩;clear he_;obtain ⟨B1,B2⟩:=ah2 a B1 B2;obtain ⟨A,X⟩:=axr2 a A;refine s3_t B2 fun u4 k B2=> ?_;replace B1:=up1 k B1;obtain ⟨A,X⟩:=axu2 k g2 A X;refine l3_t B2 ?_;replace h:=h _ X A;exact ⟨A,h⟩
     ·replace h:=h_;clear h_;refine l3_t B1 ?_;refine Calls.mono h ?_;clear h;rintro e4 w7 ⟨b3,s3,he_,a,h⟩;refine ⟨b3,s3,he_, ?_⟩;clear he_;obtain ⟨B1,B2⟩:=ah2 a B1 B2;obtain ⟨A,X⟩:=axr2 a A;refine Calls.mono h ?_;clear h;rintro e5 w8 ⟨b4,s4,x6,x7,he_,a,h⟩;refine ⟨b4,s4,x6,x7,he_, ?_⟩;clear he_;obtain ⟨B1,B2⟩:=ah2 a B1 B2;obtain ⟨A,X⟩:=axr2 a A;refine s3_t B2 fun u5 k B2=> ?_;replace B1:=up1 k B1;obtain ⟨A,X⟩:=axu2 k g2 A X;refine l3_t B2 ?_;replace h:=h _ X A;exact ⟨A,h⟩
theorem V9 (ab:Bool) (ac:Slc) (ad:Int) (aa:Int) (ae:Int) (w:World) (R:Ending→World→Prop) (h:xw w w fun w1=>(kU 127 #[uD ab ac ad] w1 fun w2 b1 s1 x1 x2=>Ahead w1 w2∧(br (x2 !=0) (xw w w2 fun w3=>(R (.returned (.tuple #[uD (false) nSl (0:Int),vi x2])) w3)) (xw w w2 fun w4=>(kB 136 #[vi aa] w4 fun w5 b2=>Ahead w4 w5∧(br (!b2) (xw w w5 fun w6=>(R (.returned (.tuple #[uD (false) nSl (0:Int),vi 1])) w6)) (kB 163 #[vi ae] w5 fun w7 b3=>Ahead w5 w7∧(br (!b3) (xw w w7 fun w8=>(R (.returned (.tuple #[uD (false) nSl (0:Int),vi 81])) w8)) (kU 164 #[uD b1 s1 x1,vi aa,vi ae] w7 fun w9 b4 s2 x3 x4=>Ahead w7 w9∧(xw w w9 fun w10=>(R (.returned (.tuple #[uD b4 s2 x3,vi x4])) w10))))))))))):Calls pr 132 #[uD ab ac ad,vi aa,vi ae] w (fun e_ w_=>Ahead w w_∧R e_ w_):=by
  refine Ua ab ac ad aa ae w _ ?_
  · have A:Ahead w w:=Ahead.refl w
    have X:Ext w w:=Ext.refl w
    refine zn fun bk1 u1 hb a _ B1=> ?_;have g1:=zj A.size hb;obtain ⟨A,X⟩:=axa2 a A X;refine zn fun bk2 u2 hb a _ B2=> ?_;have g2:=zj A.size hb;have l1_2:=lt1 hb B1;replace B1:=B1.ahead a;obtain ⟨A,X⟩:=axa2 a A X;refine l3_t B1 ?_;replace h:=h _ X A;refine Calls.mono h ?_;clear h;rintro e1 w2 ⟨b1,s1,x1,x2,he_,a,h⟩;refine ⟨b1,s1,x1,x2,he_, ?_⟩;clear he_;obtain ⟨B1,B2⟩:=ah2 a B1 B2;obtain ⟨A,X⟩:=axr2 a A;refine zn fun bk3 u3 hb a _ B3=> ?_;have g3:=zj A.size hb;obtain ⟨_,_⟩:=lt2 hb B1 B2;obtain ⟨B1,B2⟩:=ah2 a B1 B2;obtain ⟨A,X⟩:=axa2 a A X;refine s3_t B3 fun u4 k B3=> ?_;obtain ⟨B1,B2⟩:=up2 k B1 B2;obtain ⟨A,X⟩:=axu2 k g3 A X;refine zv h (fun h_=> ?_) (fun h_=> ?_)
    ·replace h:=h_;clear h_;refine s3_t B2 fun u5 k B2=> ?_;obtain ⟨B1,B3⟩:=up2 k B1 B3;obtain ⟨A,X⟩:=axu2 k g2 A X;refine l3_t B2 ?_;replace h:=h _ X A;exact ⟨A,h⟩
    ·replace h:=h_;clear h_;replace h:=h _ X A;refine Calls.mono h ?_;clear h;rintro e2 w5 ⟨b2,he_,a,h⟩;refine ⟨b2,he_, ?_⟩;clear he_;obtain ⟨B1,B2,B3⟩:=ah3 a B1 B2 B3;obtain ⟨A,X⟩:=axr2 a A;refine zv h (fun h_=> ?_) (fun h_=> ?_)
     ·replace h:=h_;clear h_;refine s3_t B2 fun u6 k B2=> ?_;obtain ⟨B1,B3⟩:=up2 k B1 B3;obtain ⟨A,X⟩:=axu2 k g2 A X;refine l3_t B2 ?_;replace h:=h _ X A;exact ⟨A,h⟩
     ·replace h:=h_;clear h_;refine Calls.mono h ?_;clear h;rintro e3 w7 ⟨b3,he_,a,h⟩;refine ⟨b3,he_, ?_⟩;clear he_;obtain ⟨B1,B2,B3⟩:=ah3 a B1 B2 B3;obtain ⟨A,X⟩:=axr2 a A;refine zv h (fun h_=> ?_) (fun h_=> ?_)
      ·replace h:=h_;clear h_;refine s3_t B2 fun u7 k B2=> ?_;obtain ⟨B1,B3⟩:=up2 k B1 B3;obtain ⟨A,X⟩:=axu2 k g2 A X;refine l3_t B2 ?_;replace h:=h _ X A;exact ⟨A,h⟩
      ·replace h:=h_;clear h_;refine l3_t B3 ?_;refine Calls.mono h ?_;clear h;rintro e4 w9 ⟨b4,s2,x3,x4,he_,a,h⟩;refine ⟨b4,s2,x3,x4,he_, ?_⟩;clear he_;obtain ⟨B1,B2,B3⟩:=ah3 a B1 B2 B3;obtain ⟨A,X⟩:=axr2 a A;refine s3_t B2 fun u8 k B2=> ?_;obtain ⟨B1,B3⟩:=up2 k B1 B3;obtain ⟨A,X⟩:=axu2 k g2 A X;refine l3_t B2 ?_;replace h:=h _ X A;exact ⟨A,h⟩
end
section
open Go Go.RowKit Eng Sp Dg L2
namespace Dy
open _root_.Go.Proofs.YtbeiopoejdkheaaGreatDoor.Nat (ldN ldNf stF stFf mkF Fill OwnNil Num Num.bl OwnNil.mono OwnNil.ext OwnNil.rd OwnNil.ahead OwnNil.nil bigC xc leftC jp yn us xe semShr semShl fixShl uj zw xk kq)
open _root_.Go.Proofs.YtbeiopoejdkheaaGreatDoor.Ref (xh)
open Sb
theorem Pc {w s} {l:List Nat} (h:Rd .u64 w s (nn l)) {i:Int} (h0:0≤i):Calls pr dyadic_limb_id #[s.v, .int .i64 i] w fun e w'=>w'=w∧e= .returned (.int .u64 (l.getD i.toNat 0:Nat)):=by
 have hn:s.n=l.length:=by rw [h.n,nn_length]
 refine Tv s i w _ (zm (fun hlt=> ?_) (fun hge=> ?_))
 ·have hlt':i<l.length:=by have:=of_decide_eq_true hlt;omega
  exact ldN h h0 hlt' ⟨rfl,rfl⟩
 ·refine ⟨rfl, ?_⟩
  rw [ui l 0 (by have:=of_decide_eq_false hge;omega)];rfl
theorem zcd {w p q} {x y:Nat} (hp:Rd .u64 w p (nn (digs B64 x))) (hq:Rd .u64 w q (nn (digs B64 y))) (la:(digs B64 x).length+1≤2^44) (lb:(digs B64 y).length+1≤2^44):Calls pr dyadic_plus_id #[p.v,q.v] w fun e w'=>Ahead w w'∧∃s,e= .returned (Slc.v s)∧OwnNil w.heap.size w' s (digs B64 (x+y)):=by
 have hB:=B64v
 have hna:p.n=(digs B64 x).length:=by rw [hp.n,nn_length]
 have hnb:q.n=(digs B64 y).length:=by rw [hq.n,nn_length]
 have oa:=yb two64 x
 have ob:=yb two64 y
 have vx:=zu two64 x
 have vy:=zu two64 y
 generalize digs B64 x=A at*
 generalize digs B64 y=C at*
 refine Tz p q w _ (fun s t out k n i w'=>s=p∧t=q∧∃(m:Nat) (l:List Nat) (j cr:Nat),n=((m+1:Nat):Int)∧A.length≤m∧C.length≤m∧m+1≤2^44∧k=(cr:Int)∧cr≤1∧i=(j:Int)∧j≤m+1∧
  Fill w w' out l (fun _=>True)∧l.length=m+1∧ok B64 l∧val B64 (l.take j)+cr*B64^j=val B64 (A.take j)+val B64 (C.take j)) (fun _ _ _ _ n i _=>(n -i).toNat) ?_ ?_
 ·have em:maxI (p.n:Int) (q.n:Int)=((max A.length C.length:Nat):Int):=by
   unfold maxI;split<;>omega
  rw [em,zp (by omega) (by omega)]
  refine mkF (S:=fun _=>True) (w0:=w) (by omega) (by omega) (Ahead.refl _) trivial ?_
  intro s w1 hsn hf ha
  refine ⟨rfl,rfl,max A.length C.length,_,0,0,by rw [hsn];omega,by omega,by omega,by omega,rfl,by omega,rfl,Nat.zero_le _,hf,by rw [List.length_replicate];omega,yr (by omega) _,by simp [val]⟩
 ·rintro s t out k n i w1 ⟨rfl,rfl,m,l,j,cr,rfl,hA,hC,hm,rfl,hcr,rfl,hj,hf,hl,ol,hv⟩
  refine zm (fun hlt=> ?_) (fun hge=> ?_)
  ·have hj':j<m+1:=by have:=of_decide_eq_true hlt;omega
   refine Calls.mono (Pc (hp.ahead hf.base) (by omega)) ?_
   rintro e w2 ⟨rfl,rfl⟩
   refine ⟨_,rfl,Calls.mono (Pc (hq.ahead hf.base) (by omega)) ?_⟩
   rintro e w3 ⟨rfl,rfl⟩
   refine ⟨_,rfl, ?_⟩
   try dsimp only
   rw [Int.toNat_natCast]
   have hx:=yi oa (by omega:0<B64) j
   have hy:=yi ob (by omega:0<B64) j
   have e8:IntKind.i64.wrap ((j:Int)+1)=((j+1:Nat):Int):=by rw [zp (by omega) (by omega)];omega
   have t1:=yj A j (B:=B64)
   have t2:=yj C j (B:=B64)
   generalize A.getD j 0=a at*
   generalize C.getD j 0=c at*
   have e1:IntKind.u64.wrap ((a:Int)+(c:Int))=(((a+c) % B64:Nat):Int):=by rw [xt,hB];omega
   have e2:IntKind.u64.wrap ((((a+c) % B64:Nat):Int)+(cr:Int))=(((a+c+cr) % B64:Nat):Int):=by rw [xt,hB];omega
   rw [e1,e2]
   have fin:∀cr':Nat,cr'=(a+c+cr)/B64→semA pr (Instr.indexAt 23 out.v (.int .i64 (j:Int))) w3 fun ad1 w4=>stC ad1 (.int .u64 (((a+c+cr) % B64:Nat):Int)) w4 fun w5=>
     (s=s∧t=t∧∃(m':Nat) (l:List Nat) (j' cr:Nat),((m+1:Nat):Int)=((m'+1:Nat):Int)∧A.length≤m'∧C.length≤m'∧m'+1≤2^44∧(cr':Int)=(cr:Int)∧cr≤1∧IntKind.i64.wrap ((j:Int)+1)=(j':Int)∧j'≤m'+1∧
  Fill w w5 out l (fun _=>True)∧l.length=m'+1∧ok B64 l∧val B64 (l.take j')+cr*B64^j'=val B64 (A.take j')+val B64 (C.take j'))∧(((m+1:Nat):Int) -IntKind.i64.wrap ((j:Int)+1)).toNat<(((m+1:Nat):Int) -(j:Int)).toNat:=by
    intro cr' hc'
    refine stF hf (by omega) (by omega) ?_
    intro w5 hf5
    simp only [Int.toNat_natCast] at hf5
    refine ⟨⟨rfl,rfl,m,_,j+1,cr',rfl,hA,hC,hm,rfl,by rw [hc',hB];omega,e8,hj',hf5,by simpa using hl,xb ol (Nat.mod_lt _ (by omega)), ?_⟩,by rw [e8];omega⟩
    rw [xu _ _ _ (by omega),t1,t2,Nat.pow_succ]
    exact fh (by have:=Nat.mod_add_div (a+c+cr) B64;rw [hc'];omega) hv
   refine zm (fun h1=> ?_) (fun h1=>zm (fun h2=> ?_) (fun h2=> ?_))
   ·exact fin 1 (by have:=of_decide_eq_true h1;rw [hB] at this⊢;omega)
   ·exact fin 1 (by have:=of_decide_eq_true h2;rw [hB] at this⊢;omega)
   ·exact fin 0 (by have q1:=of_decide_eq_false h1;have q2:=of_decide_eq_false h2;rw [hB] at q1 q2⊢;omega)
  ·have hj':j=m+1:=by have:=of_decide_eq_false hge;omega
   subst hj'
   rw [yx l (by omega),yx A (by omega),yx C (by omega),vx,vy] at hv
   have h1:x<B64^m:=by rw [←vx];exact Nat.lt_of_lt_of_le (xa oa) (Nat.pow_le_pow_right (by omega) hA)
   have h2:y<B64^m:=by rw [←vy];exact Nat.lt_of_lt_of_le (xa ob) (Nat.pow_le_pow_right (by omega) hC)
   have h3:cr=0:=by
    rcases Nat.lt_or_ge cr 1 with h|h
    ·omega
    ·have hc1:cr=1:=by omega
     subst hc1
     have:2*B64^m≤B64^(m+1):=by rw [Nat.pow_succ,Nat.mul_comm];exact Nat.mul_le_mul_left _ (by omega)
     omega
   subst h3
   have hv':val B64 l=x+y:=by omega
   refine Calls.mono (yn hf.rd (by omega) ol) ?_
   rw [hv']
   rintro e w6 ⟨h6,s',rfl,hr⟩
   exact ⟨_,rfl,hf.base.trans h6,_,rfl,hr.mono hf.base.size⟩
theorem Mq (l:List Nat) (i:Nat) (h:i<l.length):l.set i (l.getD i 0)=l:=by
 rw [xx _ _ h];exact List.set_getElem_self h
theorem jb {w a} {x k:Nat} (ra:Rd .u64 w a (nn (digs B64 x))) (na:(digs B64 x).length+k/64+1≤2^44):Calls pr dyadic_left_id #[a.v, .int .i64 (k:Int)] w fun e w'=>Ahead w w'∧∃s,e= .returned (Slc.v s)∧OwnNil w.heap.size w' s (digs B64 (x*2^k)):=by
 have hB:=B64v
 have h64:B64=2^64:=rfl
 have hA0:=zu two64 x
 have hoA:=yb two64 x
 have hw:k % 64<64:=Nat.mod_lt _ (by omega)
 have hp2:B64^(k/64)*2^(k % 64)=2^k:=(tf k 64).symm
 have hnum:Num w a x:=⟨_,ra,by omega,hoA,hA0⟩
 have hna:a.n=(digs B64 x).length:=by rw [ra.n,nn_length]
 generalize digs B64 x=A at*
 refine Tu a k w _ (fun t7 t8 t9 t32 t33 t34 w'=>t7=((k/64:Nat):Int)∧t8=((k % 64:Nat):Int)∧t33=(A.length:Int)∧∃(l:List Nat) (j:Nat),t34=(j:Int)∧j≤A.length∧
  Fill w w' t9 l (fun w'=>Rd .u64 w' t32 (nn A))∧l.length=k/64+A.length+1∧ok B64 l∧val B64 l=val B64 (A.take j)*(B64^(k/64)*2^(k % 64))) (fun _ _ _ _ n i _=>(n -i).toNat) ?_ ?_
 ·refine Calls.mono (jp hnum (n:=(k:Int)) (by omega) (by omega)) ?_
  rintro e w1 ⟨h1,s,rfl,os⟩
  have ek:((k:Int)).toNat=k:=by omega
  rw [ek] at os
  refine ⟨_,_,rfl,zm (fun hc=> ?_) (fun hc=> ?_)⟩
  ·have hc0:leftC x (k:Int)=0:=by simpa using hc
   rw [if_pos hc0] at os
   exact ⟨h1,s,rfl,os⟩
  ·rw [tdivN (by omega),tmodN,hna,zp (x:=(A.length:Int)+_) (by omega) (by omega),zp (by omega) (by omega),show (A.length:Int)+((k/64:Nat):Int)+1=((k/64+A.length+1:Nat):Int) by omega]
   refine mkF (w0:=w) (S:=fun w'=>Rd .u64 w' a (nn A)) (by omega) (by omega) h1 (ra.ahead h1) ?_
   intro c w3 hcn hf ha
   refine ⟨rfl,rfl,rfl,_,0,rfl,Nat.zero_le _,hf,by rw [List.length_replicate];omega,yr (by omega) _, ?_⟩
   rw [xn];simp [val]
 ·rintro t7 t8 c t32 t33 t34 w' ⟨rfl,rfl,rfl,l,j,rfl,hj,hf,hl,ol,hv⟩
  have hS:=hf.src (fun _ h hs=>Rd.ahead hs h)
  refine zm (fun hlt=> ?_) (fun hge=> ?_)
  ·have hj':j<A.length:=by have:=of_decide_eq_true hlt;omega
   have hfacts:=pv (w:=64) (l:=l) (A:=A) (j:=j) (wd:=k/64) (s:=k % 64) hw (by omega) hoA hj' hv
   refine ldN hS (by omega) (by omega) ?_
   rw [zp (x:=(j:Int)+((k/64:Nat):Int)) (by omega) (by omega),show (j:Int)+((k/64:Nat):Int)=((k/64+j:Nat):Int) by omega,
    zp (x:=((k/64+j:Nat):Int)+1) (by omega) (by omega),show ((k/64+j:Nat):Int)+1=((k/64+j+1:Nat):Int) by omega]
   refine ldN hf.rd (by omega) (by omega) ?_
   refine semShl (by omega) ?_
   have hx:=yi hoA (by omega:0<B64) j
   have hlk:=yi ol (by omega:0<B64) (k/64+j)
   simp only [Int.toNat_natCast]
   rw [uj hlk (Nat.mod_lt _ (by omega))]
   refine stF hf (by omega) (by omega) ?_
   intro w7 hf7
   simp only [Int.toNat_natCast] at hf7
   have e8:IntKind.i64.wrap ((j:Int)+1)=((j+1:Nat):Int):=by rw [zp (by omega) (by omega)];omega
   have hlo:l.getD (k/64+j) 0|||A.getD j 0*2^(k % 64) % B64=l.getD (k/64+j) 0+A.getD j 0*2^(k % 64) % 2^64:=by
    have h2:=kv (A.getD j 0) (k % 64) 64 (by omega)
    have h2':A.getD j 0*2^(k % 64) % B64=_:=h2
    rw [h2',h2,kr hfacts.1]
   have hlolt:l.getD (k/64+j) 0|||A.getD j 0*2^(k % 64) % B64<B64:=Nat.or_lt_two_pow (n:=64) hlk (Nat.mod_lt _ (by omega))
   have hhi:A.getD j 0*2^(k % 64)/2^64<B64:=by
    rw [my _ _ _ (by omega)]
    exact Nat.lt_of_le_of_lt (Nat.div_le_self _ _) hx
   have stp:=kp (w:=64) (lo:=l.getD (k/64+j) 0|||A.getD j 0*2^(k % 64) % B64) hw (by omega) hoA hj' hv hlo rfl
   refine zm (fun hs=> ?_) (fun hs=> ?_)
   ·have hs':0<k % 64:=by have:=of_decide_eq_true hs;omega
    rw [show IntKind.u64.wrap (64 -((k % 64:Nat):Int))=((64 -k % 64:Nat):Int) by rw [yd (by omega) (by omega)];omega]
    refine semShr (by omega) ?_
    rw [←my _ _ 64 (by omega)]
    refine stF hf7 (by omega) (by simp;omega) ?_
    intro w10 hf10
    simp only [Int.toNat_natCast] at hf10
    exact ⟨⟨by trivial,by trivial,by trivial,_,j+1,e8,by omega,hf10,by simpa using hl,xb (xb ol hlolt) hhi,stp⟩,by rw [e8];omega⟩
   ·have hs':k % 64=0:=by have:=of_decide_eq_false hs;omega
    have hz:A.getD j 0*2^(k % 64)/2^64=0:=by
     rw [hs',Nat.pow_zero,Nat.mul_one];exact Nat.div_eq_of_lt hx
    rw [hz] at stp
    have hzero:(l.set (k/64+j) (l.getD (k/64+j) 0|||A.getD j 0*2^(k % 64) % B64)).getD (k/64+j+1) 0=0:=by
     rw [xd _ _ _ _ (by omega),if_neg (by omega)];exact hfacts.2
    have hsame:=Mq (l.set (k/64+j) (l.getD (k/64+j) 0|||A.getD j 0*2^(k % 64) % B64)) (k/64+j+1) (by simp;omega)
    rw [hzero] at hsame
    rw [hsame] at stp
    exact ⟨⟨by trivial,by trivial,by trivial,_,j+1,e8,by omega,hf7,by simpa using hl,xb ol hlolt,stp⟩,by rw [e8];omega⟩
  ·have hj':j=A.length:=by have:=of_decide_eq_false hge;omega
   subst hj'
   rw [List.take_length,hA0,hp2] at hv
   refine Calls.mono (yn hf.rd (by omega) ol) ?_
   rw [hv]
   rintro e w3 ⟨h3,s,rfl,os⟩
   exact ⟨_,rfl,hf.base.trans h3,_,rfl,os.mono hf.base.size⟩
theorem Tp {w:World} {m:Int} :Calls pr dyadic_direction_id #[.int .i64 m] w fun e w'=>w'=w∧e= .returned (.bool (decide (0≤m∧m≤2))):=by
 refine dq m w _ (zm (fun h=> ?_) (fun h=>zm (fun h2=> ?_) (fun h2=> ?_)))
 ·have h':m=0:=by simpa using h
  subst h';exact ⟨rfl,rfl⟩
 ·have h':m=1:=by simpa using h2
  subst h';exact ⟨rfl,rfl⟩
 ·have h1:m≠0:=by simpa using h
  have h3:m≠1:=by simpa using h2
  refine ⟨rfl, ?_⟩
  congr 2
  rw [Bool.eq_iff_iff]
  simp;omega
def upR (neg:Bool) (n gap:Nat) (m:Int):Bool:=if m=2 then decide (n/2^(gap -1) % 2=1)&&(decide (tz n<gap -1)||decide (n/2^gap % 2=1)) else if m=0 then neg else !neg
def rq (neg:Bool) (n gap:Nat) (m:Int):Nat:=n/2^gap+if upR neg n gap m then 1 else 0
def stq (neg:Bool) (n:Nat) (e pos m:Int):Nat:=if n=0∨pos≤e then n*2^(e -pos).toNat else rq neg n (pos -e).toNat m
theorem za5 {w} {neg:Bool} {s} {n:Nat} {e pos m:Int} (hT:Tab w) (r:Rd .u64 w s (nn (digs B64 n))) (hl:(digs B64 n).length+1≤2^44) (he: -2305843009213693952≤e∧e≤2305843009213693952) (hp: -2305843009213693952≤pos∧pos≤2305843009213693952) (hsz:n=0∨pos≤e→(digs B64 n).length+(e -pos).toNat/64+1≤2^44):Calls pr dyadic_steps_id #[.agg (c3 neg s e), .int .i64 pos, .int .i64 m] w fun en w'=>Ahead w w'∧∃s',en= .returned (.agg (c2 neg s'))∧OwnNil w.heap.size w' s' (digs B64 (stq neg n e pos m)):=by
 have hB:=B64v
 have on:=yb two64 n
 have vn:=zu two64 n
 have hnum:Num w s n:=⟨_,r,by omega,on,vn⟩
 have hbl:=Num.bl hnum
 refine Ue neg s e pos m w _
  (fun t1 t2 t19 b s' e' _ _ w'=>pos=t1∧m=t2∧t19=decide (n=0∨pos≤e)∧neg=b∧s=s'∧e=e')
  (fun t2 t7 t8 b s' e' _ _ w'=>m=t2∧t7=(((pos -e).toNat:Nat):Int)∧¬(n=0∨pos≤e)∧OwnNil w.heap.size w' t8 (digs B64 (n/2^(pos -e).toNat))∧neg=b∧s=s')
  (fun t8 t9 b s' e' _ _ w'=>¬(n=0∨pos≤e)∧OwnNil w.heap.size w' t8 (digs B64 (n/2^(pos -e).toNat))∧t9=upR neg n (pos -e).toNat m∧neg=b) ?_ ?_ ?_ ?_
 ·intro w1 x1 a1
  refine Calls.mono (uk (hnum.ahead a1)) ?_
  rintro en w2 ⟨h2,rfl⟩
  refine ⟨_,rfl,h2,zm (fun hz=> ?_) (fun hz=> ?_)⟩
  ·have hn:n=0:=tp.1 (by simpa using hz)
   exact ⟨rfl,rfl,by simp [hn],rfl,rfl,rfl⟩
  ·have hn:n≠0:=fun e0=>by rw [e0] at hz;simp [sgn] at hz
   exact ⟨rfl,rfl,by simp [hn],rfl,rfl,rfl⟩
 ·rintro _ _ _ _ _ _ _ _ w1 a1 ⟨rfl,rfl,rfl,rfl,rfl,rfl⟩
  refine zm (fun hc=> ?_) (fun hc=> ?_)
  ·have hc':=of_decide_eq_true hc
   intro w3 x3 a3
   have e1:maxI (IntKind.i64.wrap (e -pos)) 0=(((e -pos).toNat:Nat):Int):=by
    rw [zp (by omega) (by omega)];unfold maxI;split<;>omega
   rw [e1]
   refine Calls.mono (jb (r.ahead a3) (hsz hc')) ?_
   rintro en w4 ⟨h4,s1,rfl,o1⟩
   refine ⟨_,rfl,h4,fun w5 x5 a5=>⟨_,rfl, ?_⟩⟩
   rw [stq,if_pos hc']
   exact (o1.ext x5).mono a3.size
  ·have hc':=of_decide_eq_false hc
   have hn:n≠0:=fun h=>hc' (.inl h)
   have hpe:e<pos:=by
    rcases Int.lt_or_le e pos with h|h
    ·exact h
    ·exact absurd (.inr h) hc'
   refine Calls.mono (mg (hnum.ahead a1)) ?_
   rintro en w6 ⟨h6,rfl⟩
   have e1:IntKind.i64.wrap (pos -e)=(((pos -e).toNat:Nat):Int):=by rw [zp (by omega) (by omega)];omega
   rw [e1]
   refine ⟨_,rfl,h6,zm (fun hg=> ?_) (fun hg=> ?_)⟩
   ·have hg':=of_decide_eq_true hg
    refine Calls.mono (Zg (r.ahead (a1.trans h6)) (by omega) (by omega)) ?_
    rintro en w7 ⟨h7,s2,rfl,o2⟩
    exact ⟨_,rfl,h7,rfl,rfl,hc',o2.mono (a1.trans h6).size,rfl,rfl⟩
   ·have hg':=of_decide_eq_false hg
    have hz:n/2^(pos -e).toNat=0:=Nat.div_eq_of_lt (qc.1 (by omega))
    refine ⟨rfl,rfl,hc', ?_,rfl,rfl⟩
    rw [hz,yq];exact OwnNil.nil
 ·rintro _ _ t8 _ _ _ _ _ w1 a1 ⟨rfl,rfl,hc,o8,rfl,rfl⟩
  have hn:n≠0:=fun h=>hc (.inl h)
  have hpe:e<pos:=by
   rcases Int.lt_or_le e pos with h|h
   ·exact h
   ·exact absurd (.inr h) hc
  obtain ⟨g,hg⟩:∃g,(pos -e).toNat=g+1:=⟨(pos -e).toNat -1,by omega⟩
  rw [hg] at o8⊢
  refine zm (fun h2=> ?_) (fun h2=> ?_)
  ·have h2':m=2:=by simpa using h2
   rw [show IntKind.i64.wrap (((g+1:Nat):Int) -1)=(g:Int) by rw [zp (by omega) (by omega)];omega]
   refine Calls.mono (kq (r.ahead a1) (by omega) on (by omega)) ?_
   rw [vn]
   rintro en w8 ⟨rfl,rfl⟩
   refine ⟨_,rfl,Ahead.refl _,zm (fun hb=> ?_) (fun hb=> ?_)⟩
   ·have hb':n/2^g % 2=1:=by have:=eq_of_beq hb;omega
    refine Calls.mono (mj (hT.ahead a1) (r.ahead a1) (by omega) on) ?_
    rw [vn]
    rintro en w9 ⟨rfl,rfl⟩
    refine ⟨_,rfl,Ahead.refl _,zm (fun ht=> ?_) (fun ht=> ?_)⟩
    ·have ht':=of_decide_eq_true ht
     refine ⟨hc,o8, ?_,rfl⟩
     rw [upR,if_pos h2',Nat.add_sub_cancel,decide_eq_true hb',decide_eq_true (show tz n<g by omega)];rfl
    ·have ht':=of_decide_eq_false ht
     have lq:(digs B64 (n/2^(g+1))).length≤2^46:=Nat.le_trans (xh two64 (Nat.div_le_self _ _)) (by omega)
     have hb0:=kq (i:=0) o8.rd lq (yb two64 _) (by omega)
     rw [zu two64,Nat.pow_zero,Nat.div_one] at hb0
     refine Calls.mono hb0 ?_
     rintro en w14 ⟨rfl,rfl⟩
     have hup:upR neg n (g+1) m=decide (n/2^(g+1) % 2=1):=by
      rw [upR,if_pos h2',Nat.add_sub_cancel,decide_eq_true hb',decide_eq_false (show ¬tz n<g by omega)];simp
     refine ⟨_,rfl,Ahead.refl _,zm (fun hq=> ?_) (fun hq=> ?_)⟩
     ·refine ⟨hc,o8, ?_,rfl⟩
      rw [hup,decide_eq_false]
      intro h
      rw [h] at hq
      simp at hq
     ·refine ⟨hc,o8, ?_,rfl⟩
      rw [hup,decide_eq_true]
      have:=Nat.mod_lt (n/2^(g+1)) (show 2>0 by omega)
      rcases Nat.lt_or_ge (n/2^(g+1) % 2) 1 with h|h
      ·have h0:n/2^(g+1) % 2=0:=by omega
       rw [h0] at hq
       simp at hq
      ·omega
   ·refine ⟨hc,o8, ?_,rfl⟩
    have hb':¬n/2^g % 2=1:=fun h=>by rw [h] at hb;simp at hb
    rw [upR,if_pos h2',Nat.add_sub_cancel,decide_eq_false hb'];rfl
  ·have h2':m≠2:=by simpa using h2
   refine zm (fun h0=> ?_) (fun h0=> ?_)
   ·exact ⟨hc,o8,by rw [upR,if_neg h2',if_pos (by simpa using h0)],rfl⟩
   ·exact ⟨hc,o8,by rw [upR,if_neg h2',if_neg (by simpa using h0)],rfl⟩
 ·rintro t8 _ _ _ _ _ _ w1 a1 ⟨hc,o8,rfl,rfl⟩
  have hst:stq neg n e pos m=rq neg n (pos -e).toNat m:=if_neg hc
  have lq:(digs B64 (n/2^(pos -e).toNat)).length+1≤2^44:=Nat.le_trans (Nat.add_le_add_right (xh two64 (Nat.div_le_self _ _)) 1) hl
  refine zm (fun hu=> ?_) (fun hu=> ?_)
  ·refine Calls.mono (xk (v:=1) (by omega)) ?_
   rintro en w10 ⟨h10,s3,rfl,o3⟩
   have l1:(digs B64 1).length≤1:=vk two64 (by rw [Nat.pow_one];omega)
   refine ⟨_,rfl,h10,Calls.mono (zcd (o8.ahead h10).rd o3.rd lq (by omega)) ?_⟩
   rintro en w11 ⟨h11,s4,rfl,o4⟩
   refine ⟨_,rfl,h11,fun w12 x12 a12=>⟨_,rfl, ?_⟩⟩
   rw [hst,rq,if_pos hu]
   exact (o4.ext x12).mono (a1.trans h10).size
  ·intro w13 x13 a13
   refine ⟨_,rfl, ?_⟩
   try dsimp only
   rw [hst,rq,if_neg (by rw [hu];simp),Nat.add_zero]
   exact o8.ext x13
end Dy
end
section
open Go Go.RowKit Eng Sp Dg
namespace Ref
open _root_.Go.Proofs.YtbeiopoejdkheaaGreatDoor.Nat (ldN ldNf stN mkN Fill mkF stF stFf Num OwnNil)
theorem ks {w a b} {x y:Nat} (ha:RN w a x) (hb:RN w b y) (nab:(digs B32 x).length+(digs B32 y).length+1≤2^45):Calls pr surdref01_Mul_id #[a.v,b.v] w fun e w'=>Ahead w w'∧∃s',e= .returned (Slc.v s')∧RN w' s' (x*y):=by
 have hB32:=B32v
 have hna:=ha.n
 have hnb:=hb.n
 have oa:=yb two32 x
 have ob:=yb two32 y
 have vx:=zu two32 x
 have vy:=zu two32 y
 unfold RN at ha hb
 generalize digs B32 x=la at*
 generalize digs B32 y=lb at*
 refine Xv a b w _
  (fun t1 out t19 t20 t21 w'=>t1=b∧t19=a∧t20=(la.length:Int)∧∃(i:Nat) (l:List Nat),t21=(i:Int)∧i≤la.length∧Fill w w' out l (fun _=>True)∧l.length=la.length+lb.length+1∧ok B32 l∧
   (∀j,i+lb.length≤j→j<l.length→l.getD j 0=0)∧val B32 l=val B32 (la.take i)*val B32 lb)
  (fun _ _ _ n i _=>(n -i).toNat)
  (fun o1 o5 o19 o20 o21 ow t1 out t6 t7 t8 t19 t20 t21 t26 t27 t28 w'=>o20=t20∧o21=t21∧t1=b∧t19=a∧t20=(la.length:Int)∧t26=b∧t27=(lb.length:Int)∧∃(i k cr:Nat) (l:List Nat),t6=(i:Int)∧t21=(i:Int)∧i<la.length∧t7=((la.getD i 0:Nat):Int)∧
   t8=(cr:Int)∧cr<B32∧t28=(k:Int)∧k≤lb.length∧Fill w w' out l (fun _=>True)∧l.length=la.length+lb.length+1∧ok B32 l∧
   (∀j,i+lb.length≤j→j<l.length→l.getD j 0=0)∧val B32 l+cr*B32^(i+k)=val B32 (la.take i)*val B32 lb+la.getD i 0*val B32 (lb.take k)*B32^i)
  (fun _ _ _ _ _ _ _ _ _ _ _ _ _ _ _ n k _=>(n -k).toNat) ?_ ?_ ?_
 ·rw [hna,hnb,zp (x:=(la.length:Int)+(lb.length:Int)) (by omega) (by omega),zp (by omega) (by omega)]
  refine mkF (S:=fun _=>True) (w0:=w) (by omega) (by omega) (Ahead.refl _) trivial ?_
  intro c w1 hcn hf h1
  refine ⟨rfl,rfl,rfl,0,_,rfl,Nat.zero_le _,hf,by rw [List.length_replicate];omega,yr (by omega) _,fun j h2 h3=> ?_,by rw [xn];simp [val]⟩
  rw [List.length_replicate] at h3
  simp [List.getD_eq_getElem?_getD,List.getElem?_replicate,h3]
 ·rintro t1 out t19 t20 t21 w1 ⟨rfl,rfl,rfl,i,l,rfl,hi,hf,hl,ol,hz,hv⟩
  refine zm (fun hlt=> ?_) (fun hge=> ?_)
  ·have hi':i<la.length:=by simp at hlt;omega
   refine ldN (ha.ahead hf.base) (by omega) (by omega) ?_
   rw [Int.toNat_natCast]
   exact ⟨rfl,rfl,rfl,rfl,rfl,rfl,by rw [hnb],i,0,0,l,rfl,rfl,hi',rfl,rfl,by omega,rfl,Nat.zero_le _,hf,hl,ol,hz,by simp [val,hv]⟩
  ·have hi':i=la.length:=by simp at hge;omega
   subst hi'
   rw [List.take_length,vx,vy] at hv
   refine Calls.mono (Fill.norm hf (by omega) ol) ?_
   rintro e w6 ⟨rfl,s',rfl,hr⟩
   rw [hv] at hr
   exact ⟨_,rfl,hf.base,_,rfl,hr⟩
 ·rintro o1 o5 o19 o20 o21 ow _ t1 out t6 t7 t8 t19 t20 t21 t26 t27 t28 w1 ⟨rfl,rfl,rfl,rfl,rfl,rfl,rfl,i,k,cr,l,rfl,rfl,hi,rfl,rfl,hcr,rfl,hk,hf,hl,ol,hz,hv⟩
  have hx:=yi oa (by omega:0<B32) i
  refine zm (fun hlt=> ?_) (fun hge=> ?_)
  ·have hk':k<lb.length:=by simp at hlt;omega
   have e8:IntKind.i64.wrap ((k:Int)+1)=((k+1:Nat):Int):=by rw [zp (by omega) (by omega)];omega
   have hy:=yi ob (by omega:0<B32) k
   have hoo:=yi ol (by omega:0<B32) (i+k)
   refine ldN (hb.ahead hf.base) (by omega) (by omega) ?_
   rw [Int.toNat_natCast,zp (x:=(i:Int)+(k:Int)) (by omega) (by omega),show (i:Int)+(k:Int)=((i+k:Nat):Int) by omega]
   refine ldN hf.rd (by omega) (by omega) ?_
   rw [Int.toNat_natCast]
   have vs:=fun s:Nat=>kb (B:=B32) l (i+k) s (by omega)
   have tk:=yj lb k (B:=B32)
   have hxy:la.getD i 0*lb.getD k 0≤4294967295*4294967295:=Nat.mul_le_mul (by omega) (by omega)
   have ec:IntKind.u64.wrap (IntKind.u64.wrap (IntKind.u64.wrap (((la.getD i 0:Nat):Int)*((lb.getD k 0:Nat):Int))+((l.getD (i+k) 0:Nat):Int))+(cr:Int))=((la.getD i 0*lb.getD k 0+l.getD (i+k) 0+cr:Nat):Int):=by
    rw [show ((la.getD i 0:Nat):Int)*((lb.getD k 0:Nat):Int)=((la.getD i 0*lb.getD k 0:Nat):Int) by push_cast;rfl]
    generalize la.getD i 0*lb.getD k 0=xy at*
    rw [yd (x:=(xy:Int)) (by omega) (by omega),yd (x:=(xy:Int)+_) (by omega) (by omega),yd (by omega) (by omega)];omega
   rw [ec]
   have hvlt:la.getD i 0*lb.getD k 0+l.getD (i+k) 0+cr<18446744073709551616:=by omega
   have hvd:(la.getD i 0*lb.getD k 0+l.getD (i+k) 0+cr)/4294967296<4294967296:=by omega
   have dm:=Nat.mod_add_div (la.getD i 0*lb.getD k 0+l.getD (i+k) 0+cr) B32
   have e1:la.getD i 0*(val B32 (lb.take k)+B32^k*lb.getD k 0)*B32^i=la.getD i 0*val B32 (lb.take k)*B32^i+B32^(i+k)*(la.getD i 0*lb.getD k 0):=by
    rw [Nat.mul_add,Nat.add_mul,Nat.pow_add];congr 1;ac_rfl
   have goal2:∀s q:Nat,s+B32*q=la.getD i 0*lb.getD k 0+l.getD (i+k) 0+cr→val B32 (l.set (i+k) s)+q*B32^(i+(k+1))=val B32 (la.take i)*val B32 lb+la.getD i 0*val B32 (lb.take (k+1))*B32^i:=by
    intro s q hsq
    have vs:=vs s
    rw [tk,e1,show i+(k+1)=i+k+1 by omega,Nat.pow_succ]
    generalize la.getD i 0*lb.getD k 0=xy at*
    generalize l.getD (i+k) 0=o at*
    generalize B32^(i+k)=P at*
    have f1:P*(s+B32*q)=P*s+q*(P*B32):=by rw [Nat.mul_add];congr 1;ac_rfl
    have f2:P*(xy+o+cr)=P*xy+P*o+cr*P:=by rw [Nat.mul_add,Nat.mul_add,Nat.mul_comm P cr]
    rw [hsq,f2] at f1
    omega
   have goal2':=goal2 _ _ dm
   generalize la.getD i 0*lb.getD k 0+l.getD (i+k) 0+cr=v at*
   have e2:Int.tmod (v:Int) 4294967296=((v % B32:Nat):Int):=by rw [Int.tmod_eq_emod_of_nonneg (by omega),hB32];omega
   have e3:IntKind.u64.wrap (Int.tdiv (v:Int) 4294967296)=((v/B32:Nat):Int):=by
    have:Int.tdiv (v:Int) 4294967296=((v/4294967296:Nat):Int):=by rw [Int.tdiv_eq_ediv_of_nonneg (by omega)];omega
    rw [this,yd (by omega) (by omega),hB32]
   rw [e2,e3,e8]
   refine stF hf (by omega) (by omega) ?_
   intro w6 hf6
   rw [Int.toNat_natCast] at hf6
   refine ⟨⟨by trivial,by trivial,by trivial,by trivial,by trivial,by trivial,by trivial,i,k+1,_,_,rfl,rfl,hi,rfl,rfl,by rw [hB32];exact hvd,rfl,hk',hf6,by simpa using hl,xb ol (Nat.mod_lt _ (by omega)),fun j h2 h3=> ?_,goal2'⟩,by omega⟩
   rw [List.length_set] at h3
   rw [xd _ _ _ _ (by omega),if_neg (by omega)]
   exact hz j h2 h3
  ·have hk':k=lb.length:=by simp at hge;omega
   subst hk'
   have e8:IntKind.i64.wrap ((i:Int)+1)=((i+1:Nat):Int):=by rw [zp (by omega) (by omega)];omega
   rw [hnb,zp (x:=(i:Int)+((lb.length:Nat):Int)) (by omega) (by omega),show (i:Int)+((lb.length:Nat):Int)=((i+lb.length:Nat):Int) by omega]
   refine stF hf (by omega) (by omega) ?_
   intro w8 hf8
   rw [Int.toNat_natCast] at hf8
   have hzero:=hz (i+lb.length) (Nat.le_refl _) (by omega)
   refine ⟨⟨rfl,rfl,rfl,i+1,_,e8,hi,hf8,by simpa using hl,xb ol hcr,fun j h2 h3=> ?_, ?_⟩,by rw [e8];omega⟩
   ·rw [List.length_set] at h3
    rw [xd _ _ _ _ (by omega),if_neg (by omega)]
    exact hz j (by omega) h3
   ·have vs:=kb (B:=B32) l (i+lb.length) cr (by omega)
    rw [hzero,Nat.mul_zero,Nat.add_zero] at vs
    rw [vs,Nat.mul_comm (B32^(i+lb.length)),hv,List.take_length,yj,Nat.add_mul]
    congr 1
    ac_rfl
end Ref
end
end Go.Proofs.YtbeiopoejdkheaaGreatDoor
