/- What the law leans on, part 3. No condition. -/
import Derived.Test.YtbeiopoejdkheaaGreatDoorZWholeSpans2
set_option linter.unusedVariables false
set_option linter.unusedSimpArgs false
set_option maxRecDepth 100000
set_option maxHeartbeats 4000000
namespace Go.Proofs.YtbeiopoejdkheaaGreatDoor
section
open Go Go.RowKit Eng
open _root_.Go.IntKind (wrap)
def Tm (J0:Int→Int→Int→Int→Int→Int→Int→Int→Int→World→Prop) (m0:Int→Int→Int→Int→Int→Int→Int→Int→Int→World→Nat) (J2:Int→Int→Int→Int→Int→Int→Int→Int→Int→World→Prop) (m2:Int→Int→Int→Int→Int→Int→Int→Int→Int→World→Nat):Nat→Option ((Act→World→Prop)×(Act→World→Nat))
 |0=>some (fun a_ w_=>atSz a_ 135 (atI .u64 a_ 2 fun t2=>atI .u64 a_ 8 fun t8=>atI .u64 a_ 9 fun t9=>atI .u64 a_ 10 fun t10=>atI .u64 a_ 11 fun t11=>atI .u64 a_ 13 fun t13=>atI .u64 a_ 14 fun t14=>atI .u64 a_ 15 fun t15=>atI .u64 a_ 16 fun t16=>J0 t2 t8 t9 t10 t11 t13 t14 t15 t16 w_),fun a_ w_=>mI a_ 2 fun t2=>mI a_ 8 fun t8=>mI a_ 9 fun t9=>mI a_ 10 fun t10=>mI a_ 11 fun t11=>mI a_ 13 fun t13=>mI a_ 14 fun t14=>mI a_ 15 fun t15=>mI a_ 16 fun t16=>m0 t2 t8 t9 t10 t11 t13 t14 t15 t16 w_)
 |2=>some (fun a_ w_=>atSz a_ 135 (atI .u64 a_ 2 fun t2=>atI .u64 a_ 8 fun t8=>atI .u64 a_ 9 fun t9=>atI .u64 a_ 10 fun t10=>atI .u64 a_ 14 fun t14=>atI .u64 a_ 15 fun t15=>atI .u64 a_ 16 fun t16=>atI .u64 a_ 17 fun t17=>atI .u64 a_ 18 fun t18=>J2 t2 t8 t9 t10 t14 t15 t16 t17 t18 w_),fun a_ w_=>mI a_ 2 fun t2=>mI a_ 8 fun t8=>mI a_ 9 fun t9=>mI a_ 10 fun t10=>mI a_ 14 fun t14=>mI a_ 15 fun t15=>mI a_ 16 fun t16=>mI a_ 17 fun t17=>mI a_ 18 fun t18=>m2 t2 t8 t9 t10 t14 t15 t16 t17 t18 w_)
 |_=>none
theorem Pq (a0:Int) (a1:Int) (a2:Int) (w:World) (R:Ending→World→Prop) (J0:Int→Int→Int→Int→Int→Int→Int→Int→Int→World→Prop) (m0:Int→Int→Int→Int→Int→Int→Int→Int→Int→World→Nat) (J2:Int→Int→Int→Int→Int→Int→Int→Int→Int→World→Prop) (m2:Int→Int→Int→Int→Int→Int→Int→Int→Int→World→Nat) (h:br (a2==0) (False) (br (decide (a2≤a0)) (False) (br (a0==0) (fixI pr .u64 (binOp .quo 65 (.int .u64 a1) (.int .u64 a2)) w fun x1=>fixI pr .u64 (binOp .rem 65 (.int .u64 a1) (.int .u64 a2)) w fun x2=>∀w1,Ahead w w1→(R (.returned (.tuple #[.int .u64 x1,.int .u64 x2])) w1)) (kI 151 #[.int .u64 a2] w fun w2 x3=>(semI pr .u64 (binOp .shl 65 (.int .u64 a2) (.int .u64 (wrap .u64 x3))) w2 fun x4 w3=>semI pr .u64 (binOp .shl 65 (.int .u64 a0) (.int .u64 (wrap .u64 x3))) w3 fun x5 w4=>semI pr .u64 (binOp .shr 65 (.int .u64 a1) (.int .u64 (wrap .u64 (64 -(wrap .u64 x3))))) w4 fun x6 w5=>semI pr .u64 (binOp .shl 65 (.int .u64 a1) (.int .u64 (wrap .u64 x3))) w5 fun x7 w6=>semI pr .u64 (binOp .quo 65 (.int .u64 (orI .u64 x5 x6)) (.int .u64 (Int.fdiv x4 (2^(32:Nat))))) w6 fun x8 w7=>J0 x4 (wrap .u64 x3) (Int.fdiv x4 (2^(32:Nat))) (andI .u64 x4 4294967295) (orI .u64 x5 x6) (Int.fdiv x7 (2^(32:Nat))) (andI .u64 x7 4294967295) x8 (wrap .u64 ((orI .u64 x5 x6) -(wrap .u64 (x8*(Int.fdiv x4 (2^(32:Nat))))))) w7))))) (h0:∀t2 t8 t9 t10 t11 t13 t14 t15 t16 w_,J0 t2 t8 t9 t10 t11 t13 t14 t15 t16 w_→br (decide (t15≥4294967296)) (br (decide ((wrap .u64 (t16+t9))≥4294967296)) (semI pr .u64 (binOp .quo 65 (.int .u64 (wrap .u64 ((wrap .u64 ((wrap .u64 (t11*4294967296))+t13)) -(wrap .u64 ((wrap .u64 (t15 -1))*t2))))) (.int .u64 t9)) w_ fun x9 w8=>J2 t2 t8 t9 t10 t14 (wrap .u64 (t15 -1)) (wrap .u64 ((wrap .u64 ((wrap .u64 ((wrap .u64 (t11*4294967296))+t13)) -(wrap .u64 ((wrap .u64 (t15 -1))*t2)))) -(wrap .u64 (x9*t9)))) (wrap .u64 ((wrap .u64 ((wrap .u64 (t11*4294967296))+t13)) -(wrap .u64 ((wrap .u64 (t15 -1))*t2)))) x9 w8) (J0 t2 t8 t9 t10 t11 t13 t14 (wrap .u64 (t15 -1)) (wrap .u64 (t16+t9)) w_∧m0 t2 t8 t9 t10 t11 t13 t14 (wrap .u64 (t15 -1)) (wrap .u64 (t16+t9)) w_<m0 t2 t8 t9 t10 t11 t13 t14 t15 t16 w_)) (br (decide ((wrap .u64 (t15*t10))>(wrap .u64 ((wrap .u64 (4294967296*t16))+t13)))) (br (decide ((wrap .u64 (t16+t9))≥4294967296)) (semI pr .u64 (binOp .quo 65 (.int .u64 (wrap .u64 ((wrap .u64 ((wrap .u64 (t11*4294967296))+t13)) -(wrap .u64 ((wrap .u64 (t15 -1))*t2))))) (.int .u64 t9)) w_ fun x13 w12=>J2 t2 t8 t9 t10 t14 (wrap .u64 (t15 -1)) (wrap .u64 ((wrap .u64 ((wrap .u64 ((wrap .u64 (t11*4294967296))+t13)) -(wrap .u64 ((wrap .u64 (t15 -1))*t2)))) -(wrap .u64 (x13*t9)))) (wrap .u64 ((wrap .u64 ((wrap .u64 (t11*4294967296))+t13)) -(wrap .u64 ((wrap .u64 (t15 -1))*t2)))) x13 w12) (J0 t2 t8 t9 t10 t11 t13 t14 (wrap .u64 (t15 -1)) (wrap .u64 (t16+t9)) w_∧m0 t2 t8 t9 t10 t11 t13 t14 (wrap .u64 (t15 -1)) (wrap .u64 (t16+t9)) w_<m0 t2 t8 t9 t10 t11 t13 t14 t15 t16 w_)) (semI pr .u64 (binOp .quo 65 (.int .u64 (wrap .u64 ((wrap .u64 ((wrap .u64 (t11*4294967296))+t13)) -(wrap .u64 (t15*t2))))) (.int .u64 t9)) w_ fun x14 w13=>J2 t2 t8 t9 t10 t14 t15 (wrap .u64 ((wrap .u64 ((wrap .u64 ((wrap .u64 (t11*4294967296))+t13)) -(wrap .u64 (t15*t2)))) -(wrap .u64 (x14*t9)))) (wrap .u64 ((wrap .u64 ((wrap .u64 (t11*4294967296))+t13)) -(wrap .u64 (t15*t2)))) x14 w13))) (h2:∀t2 t8 t9 t10 t14 t15 t16 t17 t18 w_,J2 t2 t8 t9 t10 t14 t15 t16 t17 t18 w_→br (decide (t18≥4294967296)) (br (decide ((wrap .u64 (t16+t9))≥4294967296)) (semI pr .u64 (binOp .shr 65 (.int .u64 (wrap .u64 ((wrap .u64 ((wrap .u64 (t17*4294967296))+t14)) -(wrap .u64 ((wrap .u64 (t18 -1))*t2))))) (.int .u64 t8)) w_ fun x10 w9=>R (.returned (.tuple #[.int .u64 (wrap .u64 ((wrap .u64 (t15*4294967296))+(wrap .u64 (t18 -1)))),.int .u64 x10])) w9) (J2 t2 t8 t9 t10 t14 t15 (wrap .u64 (t16+t9)) t17 (wrap .u64 (t18 -1)) w_∧m2 t2 t8 t9 t10 t14 t15 (wrap .u64 (t16+t9)) t17 (wrap .u64 (t18 -1)) w_<m2 t2 t8 t9 t10 t14 t15 t16 t17 t18 w_)) (br (decide ((wrap .u64 (t18*t10))>(wrap .u64 ((wrap .u64 (4294967296*t16))+t14)))) (br (decide ((wrap .u64 (t16+t9))≥4294967296)) (semI pr .u64 (binOp .shr 65 (.int .u64 (wrap .u64 ((wrap .u64 ((wrap .u64 (t17*4294967296))+t14)) -(wrap .u64 ((wrap .u64 (t18 -1))*t2))))) (.int .u64 t8)) w_ fun x11 w10=>R (.returned (.tuple #[.int .u64 (wrap .u64 ((wrap .u64 (t15*4294967296))+(wrap .u64 (t18 -1)))),.int .u64 x11])) w10) (J2 t2 t8 t9 t10 t14 t15 (wrap .u64 (t16+t9)) t17 (wrap .u64 (t18 -1)) w_∧m2 t2 t8 t9 t10 t14 t15 (wrap .u64 (t16+t9)) t17 (wrap .u64 (t18 -1)) w_<m2 t2 t8 t9 t10 t14 t15 t16 t17 t18 w_)) (semI pr .u64 (binOp .shr 65 (.int .u64 (wrap .u64 ((wrap .u64 ((wrap .u64 (t17*4294967296))+t14)) -(wrap .u64 (t18*t2))))) (.int .u64 t8)) w_ fun x12 w11=>R (.returned (.tuple #[.int .u64 (wrap .u64 ((wrap .u64 (t15*4294967296))+t18)),.int .u64 x12])) w11))):Calls pr 150 #[.int .u64 a0,.int .u64 a1,.int .u64 a2] w R:=by
 refine zk (Tm J0 m0 J2 m2) (by kernel_rfl) Tryz.func150 rfl ?_ ?_
 ·refine kcast h ?_;kernel_rfl
 ·exact (za rfl (ze (za rfl (za rfl (ze (zh (ze (zi (za rfl (za rfl (ze (zh (ze (zi (za rfl (za rfl (ze (zh (za rfl (qd (by kernel_rfl) (by kernel_rfl) (by kernel_rfl) (by kernel_rfl) (zg (zi (za rfl (ze (za rfl (ze (za rfl (ze (za rfl (ze (za rfl (ze (za rfl (ze (za rfl (ze (za rfl (ze (za rfl (ze (za rfl (ze (za rfl (yg _ rfl (fun a_ w_ aa=>(by
  obtain ⟨af,ag,aa⟩:=ya aa
  obtain ⟨t2,ah,aa⟩:=zq aa
  obtain ⟨t8,ai,aa⟩:=zq aa
  obtain ⟨t9,aj,aa⟩:=zq aa
  obtain ⟨t10,ab,aa⟩:=zq aa
  obtain ⟨t11,ak,aa⟩:=zq aa
  obtain ⟨t13,al,aa⟩:=zq aa
  obtain ⟨t14,ac,aa⟩:=zq aa
  obtain ⟨t15,ad,aa⟩:=zq aa
  obtain ⟨t16,ae,aa⟩:=zq aa
  obtain ⟨g0,rfl⟩:∃g,a_=Fr 135 [(2,Value.int .u64 t2),(8,Value.int .u64 t8),(9,Value.int .u64 t9),(10,Value.int .u64 t10),(11,Value.int .u64 t11),(13,Value.int .u64 t13),(14,Value.int .u64 t14),(15,Value.int .u64 t15),(16,Value.int .u64 t16)] g:=⟨_,yp af ag _ (zf ah (zf ai (zf aj (zf ab (zf ak (zf al (zf ac (zf ad (zf ae yc)))))))))⟩
  clear af ag ah ai aj ab ak al ac ad ae
  have ao:=aa
  refine ⟨(fun _=>none),kcast (h0 t2 t8 t9 t10 t11 t13 t14 t15 t16 w_ ao) ?_, ?_⟩
  ·kernel_rfl
  ·exact (za rfl (za rfl (ze (zh (zi (ye (yh rfl (za rfl (ze (za rfl (ze (za rfl (ze (zh (ye (zi trivial)))))))))))))))))) (za rfl (ze (za rfl (ze (za rfl (ze (za rfl (yg _ rfl (fun a_ w_ aa=>(by
  obtain ⟨af,ag,aa⟩:=ya aa
  obtain ⟨t2,ah,aa⟩:=zq aa
  obtain ⟨t8,ai,aa⟩:=zq aa
  obtain ⟨t9,aj,aa⟩:=zq aa
  obtain ⟨t10,ab,aa⟩:=zq aa
  obtain ⟨t14,ac,aa⟩:=zq aa
  obtain ⟨t15,ad,aa⟩:=zq aa
  obtain ⟨t16,ae,aa⟩:=zq aa
  obtain ⟨t17,am,aa⟩:=zq aa
  obtain ⟨t18,an,aa⟩:=zq aa
  obtain ⟨g2,rfl⟩:∃g,a_=Fr 135 [(2,Value.int .u64 t2),(8,Value.int .u64 t8),(9,Value.int .u64 t9),(10,Value.int .u64 t10),(14,Value.int .u64 t14),(15,Value.int .u64 t15),(16,Value.int .u64 t16),(17,Value.int .u64 t17),(18,Value.int .u64 t18)] g:=⟨_,yp af ag _ (zf ah (zf ai (zf aj (zf ab (zf ac (zf ad (zf ae (zf am (zf an yc)))))))))⟩
  clear af ag ah ai aj ab ac ad ae am an
  have ap:=aa
  refine ⟨(fun _=>none),kcast (h2 t2 t8 t9 t10 t14 t15 t16 t17 t18 w_ ap) ?_, ?_⟩
  ·kernel_rfl
  ·exact (za rfl (za rfl (ze (zh (zi (ye (yh rfl (za rfl (ze (za rfl (ze (za rfl (ze (zh (ye (zi trivial)))))))))))))))))) (za rfl (ze (zg trivial)))))))))))))))))))))))))))))))))))))))))))))))))))))))
def Yf (J0:Slc→Slc→Slc→Slc→Int→World→Prop) (m0:Slc→Slc→Slc→Slc→Int→World→Nat) (J2:Slc→Slc→Slc→Slc→Int→World→Slc→Slc→Slc→Slc→Int→Int→Int→World→Prop) (m2:Slc→Slc→Slc→Slc→Int→World→Slc→Slc→Slc→Slc→Int→Int→Int→World→Nat):Nat→Option ((Act→World→Prop)×(Act→World→Nat))
 |0=>some (fun a_ w_=>atSz a_ 60 (atS a_ 0 fun t0_a=>atS a_ 1 fun t1_b=>atS a_ 6 fun t6_rest=>atS a_ 7 fun t7_out=>atI .i64 a_ 8 fun t8_i=>J0 t0_a t1_b t6_rest t7_out t8_i w_),fun a_ w_=>mS a_ 0 fun t0_a=>mS a_ 1 fun t1_b=>mS a_ 6 fun t6_rest=>mS a_ 7 fun t7_out=>mI a_ 8 fun t8_i=>m0 t0_a t1_b t6_rest t7_out t8_i w_)
 |_=>none
def dz (J0:Slc→Slc→Slc→Slc→Int→World→Prop) (m0:Slc→Slc→Slc→Slc→Int→World→Nat) (J2:Slc→Slc→Slc→Slc→Int→World→Slc→Slc→Slc→Slc→Int→Int→Int→World→Prop) (m2:Slc→Slc→Slc→Slc→Int→World→Slc→Slc→Slc→Slc→Int→Int→Int→World→Nat) (o_t0_a:Slc) (o_t1_b:Slc) (o_t6_rest:Slc) (o_t7_out:Slc) (o_t8_i:Int) (o_w_:World):Nat→Option ((Act→World→Prop)×(Act→World→Nat))
 |2=>some (fun a_ w_=>atSz a_ 60 (atS a_ 0 fun t0_a=>atS a_ 1 fun t1_b=>atS a_ 6 fun t6_rest=>atS a_ 7 fun t7_out=>atI .i64 a_ 8 fun t8_i=>atI .u64 a_ 9 fun t9_q=>atI .i64 a_ 10 fun t10_s=>J2 o_t0_a o_t1_b o_t6_rest o_t7_out o_t8_i o_w_ t0_a t1_b t6_rest t7_out t8_i t9_q t10_s w_),fun a_ w_=>mS a_ 0 fun t0_a=>mS a_ 1 fun t1_b=>mS a_ 6 fun t6_rest=>mS a_ 7 fun t7_out=>mI a_ 8 fun t8_i=>mI a_ 9 fun t9_q=>mI a_ 10 fun t10_s=>m2 o_t0_a o_t1_b o_t6_rest o_t7_out o_t8_i o_w_ t0_a t1_b t6_rest t7_out t8_i t9_q t10_s w_)
 |_=>none
theorem Xs (an:Slc) (ax:Slc) (w:World) (R:Ending→World→Prop) (J0:Slc→Slc→Slc→Slc→Int→World→Prop) (m0:Slc→Slc→Slc→Slc→Int→World→Nat) (J2:Slc→Slc→Slc→Slc→Int→World→Slc→Slc→Slc→Slc→Int→Int→Int→World→Prop) (m2:Slc→Slc→Slc→Slc→Int→World→Slc→Slc→Slc→Slc→Int→Int→Int→World→Nat) (h:semS pr (Instr.makeSlice 32 (vi (an.n:Int)) (vi (an.n:Int))) w fun s1 w1=>J0 an ax nSl s1 (wrap .i64 ((an.n:Int) -1)) w1) (h0:∀ae ad ab aa ac w_,J0 ae ad ab aa ac w_→br (decide (ac≥0)) (fixA pr (Instr.indexAt 32 ae.v (vi ac)) w_.drew fun ad1=>ldI .u64 ad1 w_.drew fun x1=>(kS 54 #[ab.v,vi 32] w_.drew fun w2 s2=>(Ahead w_.drew w2∧(newC w2 #[.int .u64 x1] 65 fun ad2 w3=>Ahead w2 w3∧(kS 76 #[(⟨some ad2,1,1⟩:Slc).v] w3 fun w4 s3=>(Ahead w3 w4∧(kS 67 #[s2.v,s3.v] w4 fun w5 s4=>(Ahead w4 w5∧(kI 57 #[s4.v,ad.v] w5 fun w6 x2=>(br (decide (x2≥0)) (J2 ae ad ab aa ac w_ ae ad s4 aa ac 0 31 w6) (semA pr (Instr.indexAt 32 aa.v (vi ac)) w6 fun ad4 w13=>stC ad4 (.int .u64 0) w13 fun w14=>J0 ae ad s4 aa (wrap .i64 (ac -1)) w14∧m0 ae ad s4 aa (wrap .i64 (ac -1)) w14<m0 ae ad ab aa ac w_))))))))))∧(newC w_.drew #[.int .u64 x1] 65 fun ad5 w15=>Ahead w_.drew w15∧(kS 54 #[ab.v,vi 32] w15 fun w16 s7=>(Ahead w15 w16∧(kS 76 #[(⟨some ad5,1,1⟩:Slc).v] w16 fun w17 s8=>(Ahead w16 w17∧(kS 67 #[s7.v,s8.v] w17 fun w18 s9=>(Ahead w17 w18∧(kI 57 #[s9.v,ad.v] w18 fun w19 x5=>(br (decide (x5≥0)) (J2 ae ad ab aa ac w_ ae ad s9 aa ac 0 31 w19) (semA pr (Instr.indexAt 32 aa.v (vi ac)) w19 fun ad6 w20=>stC ad6 (.int .u64 0) w20 fun w21=>J0 ae ad s9 aa (wrap .i64 (ac -1)) w21∧m0 ae ad s9 aa (wrap .i64 (ac -1)) w21<m0 ae ad ab aa ac w_))))))))))) (kS 76 #[aa.v] w_ fun w22 s10=>(R (.returned (.tuple #[s10.v,ab.v])) w22))) (h2:∀ae ad ab aa ac w_,J0 ae ad ab aa ac w_→∀al aj af ag ak am ai w__,J2 ae ad ab aa ac w_ al aj af ag ak am ai w__→br (decide (ai≥0)) (kS 54 #[aj.v,vi ai] w__ fun w7 s5=>(kI 57 #[af.v,s5.v] w7 fun w8 x3=>(br (decide (x3≥0)) (kS 68 #[af.v,s5.v] w8 fun w9 s6=>(semI pr .u64 (binOp .shl 65 (.int .u64 1) (vi ai)) w9 fun x4 w10=>J2 ae ad ab aa ac w_ al aj s6 ag ak (wrap .u64 (am+x4)) (wrap .i64 (ai -1)) w10∧m2 ae ad ab aa ac w_ al aj s6 ag ak (wrap .u64 (am+x4)) (wrap .i64 (ai -1)) w10<m2 ae ad ab aa ac w_ al aj af ag ak am ai w__)) (J2 ae ad ab aa ac w_ al aj af ag ak am (wrap .i64 (ai -1)) w8∧m2 ae ad ab aa ac w_ al aj af ag ak am (wrap .i64 (ai -1)) w8<m2 ae ad ab aa ac w_ al aj af ag ak am ai w__)))) (semA pr (Instr.indexAt 32 ag.v (vi ak)) w__ fun ad3 w11=>stC ad3 (.int .u64 am) w11 fun w12=>J0 al aj af ag (wrap .i64 (ak -1)) w12∧m0 al aj af ag (wrap .i64 (ak -1)) w12<m0 ae ad ab aa ac w_)):Calls pr 90 #[an.v,ax.v] w R:=by
 refine zk (Yf J0 m0 J2 m2) (by kernel_rfl) Tryz.func90 rfl ?_ ?_
 ·refine kcast h ?_;kernel_rfl
 ·exact (za rfl (ze (za rfl (ze (za rfl (ze (za rfl (za rfl (ze (yg _ rfl (fun a_ w_ ah=>(by
  obtain ⟨ao,ap,ah⟩:=ya ah
  obtain ⟨ae,aq,ah⟩:=zr ah
  obtain ⟨ad,ar,ah⟩:=zr ah
  obtain ⟨ab,au,ah⟩:=zr ah
  obtain ⟨aa,av,ah⟩:=zr ah
  obtain ⟨ac,aw,ah⟩:=zq ah
  obtain ⟨g0,rfl⟩:∃g,a_=Fr 60 [(0,ae.v),(1,ad.v),(6,ab.v),(7,aa.v),(8,vi ac)] g:=⟨_,yp ao ap _ (zf aq (zf ar (zf au (zf av (zf aw yc)))))⟩
  clear ao ap aq ar au av aw
  have ay:=ah
  refine ⟨(dz J0 m0 J2 m2 ae ad ab aa ac w_),kcast (h0 ae ad ab aa ac w_ ay) ?_, ?_⟩
  ·kernel_rfl
  ·exact (za rfl (za rfl (ze (zh (zi (ye (za rfl (yh rfl (za rfl (yy (by kernel_rfl) (by kernel_rfl) (by kernel_rfl) (za rfl (ze (za rfl (za rfl (ze (zh (za rfl (ze (yg _ rfl (fun a_ w__ ah=>(by
   obtain ⟨ao,ap,ah⟩:=ya ah
   obtain ⟨al,aq,ah⟩:=zr ah
   obtain ⟨aj,ar,ah⟩:=zr ah
   obtain ⟨af,au,ah⟩:=zr ah
   obtain ⟨ag,av,ah⟩:=zr ah
   obtain ⟨ak,aw,ah⟩:=zq ah
   obtain ⟨am,aA,ah⟩:=zq ah
   obtain ⟨ai,az,ah⟩:=zq ah
   obtain ⟨g2,rfl⟩:∃g,a_=Fr 60 [(0,al.v),(1,aj.v),(6,af.v),(7,ag.v),(8,vi ak),(9,Value.int .u64 am),(10,vi ai)] g:=⟨_,yp ao ap _ (zf aq (zf ar (zf au (zf av (zf aw (zf aA (zf az yc)))))))⟩
   clear ao ap aq ar au av aw aA az
   have aB:=ah
   refine ⟨(fun _=>none),kcast (h2 ae ad ab aa ac w_ ay al aj af ag ak am ai w__ aB) ?_, ?_⟩
   ·kernel_rfl
   ·exact (za rfl (za rfl (ze (zh (zi (ye (za rfl (yh rfl (za rfl (ze (za rfl (ze (zh (za rfl (ze (ze (zi (ze trivial)))))))))))))))))))) (zi (ze (ze trivial)))))))))))))))))))))))) (za rfl (ze (zg trivial)))))))))))))
end
section
open Go Go.RowKit Eng Sp Dg
namespace Ref
open _root_.Go.Proofs.YtbeiopoejdkheaaGreatDoor.Nat (ldN ldNf mkN semShl gn)
open _root_.Go.Proofs.YtbeiopoejdkheaaGreatDoor.Mul (Only Off stO Only.rd)
def DivJ0 (w:World) (p q:Slc) (x y:Nat) (t0 t1 rest out:Slc) (i:Int) (w':World):Prop:=
 t0=p∧t1=q∧Ahead w w'∧∃(l:List Nat) (j r:Nat),i=(j:Int) -1∧j≤(digs B32 x).length∧Owr .u64 tU64 w' out (nn l) w.heap.size∧l.length=(digs B32 x).length∧ok B32 l∧
  val B32 ((digs B32 x).drop j)=val B32 (l.drop j)*y+r∧r<y∧RN w' rest r∧∀ad,rest.A=some ad→w.heap.size<ad.block
def DivJ2 (w:World) (p q:Slc) (x y:Nat) (o:Slc) (io:Int) (t0 t1 rest out:Slc) (i t9 t10:Int) (w':World):Prop:=
 t0=p∧t1=q∧out=o∧i=io∧Ahead w w'∧∃(l:List Nat) (j r Q S r':Nat),i=(j:Int)∧j<(digs B32 x).length∧Owr .u64 tU64 w' out (nn l) w.heap.size∧l.length=(digs B32 x).length∧ok B32 l∧
  val B32 ((digs B32 x).drop (j+1))=val B32 (l.drop (j+1))*y+r∧t9=(Q:Int)∧t10=(S:Int) -1∧S≤32∧r*B32+(digs B32 x).getD j 0=Q*y+r'∧r'<y*2^S∧Q+2^S≤2^32∧
  RN w' rest r'∧∀ad,rest.A=some ad→w.heap.size<ad.block
theorem q8 {B x y k:Nat} (hB:2≤B) (h:x<y*B^k):(digs B x).length≤(digs B y).length+k:=by
 refine vk hB (Nat.lt_of_lt_of_le h ?_)
 rw [Nat.pow_add]
 refine Nat.mul_le_mul_right _ ?_
 have:=xa (yb hB y)
 rw [zu hB] at this
 omega
theorem kx (l:List Nat) (i q:Nat) (h:i<l.length):(l.set i q).drop i=q::l.drop (i+1):=by
 apply List.ext_getElem?
 intro k
 rw [List.getElem?_drop]
 cases k with
 |zero=>simp [h]
 |succ k=>
  rw [List.getElem?_set_ne (by omega)]
  simp;congr 1;omega
theorem pe {w p q} {x y:Nat} (hp:RN w p x) (hq:RN w q y) (hy:0<y) (la:(digs B32 x).length≤2^45) (lb:(digs B32 y).length+2≤2^45):Calls pr surdref01_Div_id #[p.v,q.v] w fun e w'=>Ahead w w'∧∃s t,e= .returned (.tuple #[Slc.v s,Slc.v t])∧RN w' s (x/y)∧RN w' t (x % y):=by
 have hB32:=B32v
 have hB:=B64v
 have hna:=hp.n
 have oa:=yb two32 x
 have vx:=zu two32 x
 have step:∀{t1:Slc} {l:List Nat} {out rest:Slc} {j Q r r':Nat} {w':World},Ahead w w'→j<(digs B32 x).length→Owr .u64 tU64 w' out (nn l) w.heap.size→l.length=(digs B32 x).length→ok B32 l→
   val B32 ((digs B32 x).drop (j+1))=val B32 (l.drop (j+1))*y+r→r*B32+(digs B32 x).getD j 0=Q*y+r'→r'<y→Q<B32→RN w' rest r'→(∀ad,rest.A=some ad→w.heap.size<ad.block)→
   semA pr (Instr.indexAt 32 out.v (.int .i64 (j:Int))) w' fun ad w1=>stC ad (.int .u64 (Q:Int)) w1 fun w2=>
    DivJ0 w p q x y p q rest out (IntKind.i64.wrap ((j:Int) -1)) w2∧(IntKind.i64.wrap ((j:Int) -1)+1).toNat<((j:Int)+1).toNat:=by
  intro t1 l out rest j Q r r' w' ha hj ho hl ol hv hR hr' hQ hrest hfr
  refine stO ho (by omega) (by omega) ?_
  intro w2 ho2 hon
  rw [Int.toNat_natCast] at ho2
  rw [zp (by omega) (by omega)]
  refine ⟨⟨rfl,rfl,hon.ahead ha (Nat.le_refl _),_,j,r',rfl,by omega,ho2,by simpa using hl,xb ol hQ, ?_,hr',hon.rd hrest (fun ad e _=>by have:=hfr ad e;omega),hfr⟩,by omega⟩
  rw [kx _ _ _ (by omega),List.drop_eq_getElem_cons hj,←xx _ 0 hj]
  simp only [val]
  rw [hv,Nat.mul_add,Nat.add_mul,←Nat.mul_assoc,Nat.mul_comm B32 r]
  omega
 refine Xs p q w _ (DivJ0 w p q x y) (fun _ _ _ _ i _=>(i+1).toNat) (fun _ _ _ o i _=>DivJ2 w p q x y o i) (fun _ _ _ _ _ _ _ _ _ _ _ _ s _=>(s+1).toNat) ?_ ?_ ?_
 ·rw [hna]
  refine mkN (by omega) (by omega) ?_
  intro c w1 hc ho h1 hs1
  rw [zp (by omega) (by omega)]
  refine ⟨rfl,rfl,h1,_,(digs B32 x).length,0,rfl,Nat.le_refl _,ho,by simp,yr (by omega) _, ?_,hy,RN.nil,fun ad h=>by cases h⟩
  rw [List.drop_eq_nil_of_le (Nat.le_refl _),List.drop_eq_nil_of_le (by simp)];simp [val]
 ·rintro t0 t1 rest out i w1 ⟨rfl,rfl,h1,l,j,r,rfl,hj,ho,hl,ol,hv,hr,hrest,hfr⟩
  refine zm (fun hge=> ?_) (fun hlt=> ?_)
  ·have hj1:1≤j:=by simp at hge;omega
   obtain ⟨k,rfl⟩:∃k,j=k+1:=⟨j -1,by omega⟩
   have ei:(((k+1:Nat):Int) -1)=(k:Int):=by omega
   rw [ei]
   have hx:=yi oa (by omega:0<B32) k
   have hd:=Ahead.drew w1
   have lr:(digs B32 r).length≤(digs B32 y).length:=xh two32 (Nat.le_of_lt hr)
   have l2:(digs B32 (r*2^32)).length≤(digs B32 y).length+1:=q8 two32 (by rw [hB32,Nat.pow_one];omega)
   obtain ⟨R,hR⟩:∃R,R=r*2^32+(digs B32 x).getD k 0:=⟨_,rfl⟩
   have hRy:R<y*4294967296:=by
    have:(r+1)*4294967296≤y*4294967296:=Nat.mul_le_mul_right _ hr
    omega
   have l3:(digs B32 R).length≤(digs B32 y).length+1:=q8 two32 (by rw [Nat.pow_one];exact hRy)
   have lx:(digs B32 ((digs B32 x).getD k 0)).length≤1:=vk two32 (by rw [Nat.pow_one];exact hx)
   have okx:ok B32 [(digs B32 x).getD k 0]:=by intro z hz;rw [List.mem_singleton.1 hz];exact hx
   have vxk:val B32 [(digs B32 x).getD k 0]=(digs B32 x).getD k 0:=by simp only [val];omega
   have key:∀(s4:Slc) (w5:World),Ahead w1 w5→RN w5 s4 R→(∀ad,s4.A=some ad→w.heap.size<ad.block)→
     Calls pr surdref01_Cmp_id #[s4.v,t1.v] w5 fun e4 w6=>∃x2:Int,e4= .returned (Value.int .i64 x2)∧(br (decide (x2≥0)) (DivJ2 w t0 t1 x y out (k:Int) t0 t1 s4 out (k:Int) 0 31 w6)
      (semA pr (Instr.indexAt 32 out.v (.int .i64 (k:Int))) w6 fun ad4 w13=>stC ad4 (Value.int .u64 0) w13 fun w14=>
       DivJ0 w t0 t1 x y t0 t1 s4 out (IntKind.i64.wrap ((k:Int) -1)) w14∧(IntKind.i64.wrap ((k:Int) -1)+1).toNat<((k:Int)+1).toNat)):=by
    intro s4 w5 h5 r4 f4
    have h05:=h1.trans h5
    refine Calls.mono (qh r4 (RN.ahead hq h05) (by omega) (by omega)) ?_
    rintro e w6 ⟨h6,rfl⟩
    have h06:=h05.trans h6
    have ho6:=ho.ahead (h5.trans h6)
    refine ⟨_,rfl,zm (fun hc=> ?_) (fun hc=> ?_)⟩
    ·refine ⟨rfl,rfl,rfl,rfl,h06,l,k,r,0,32,R,rfl,by omega,ho6,hl,ol,hv,rfl,rfl,Nat.le_refl _,by rw [hR,hB32];omega,hRy,by omega,r4.ahead h6,f4⟩
    ·have hlt:R<y:=by
      have:=ta (m:=R) (n:=y)
      have hc':=of_decide_eq_false hc
      exact this.1 (by omega)
     exact step (t1:=t1) (Q:=0) h06 (by omega) ho6 hl ol hv (by rw [hR,hB32];omega) hlt (by omega) (r4.ahead h6) f4
   refine ldNf (RN.ahead (RN.ahead hp h1) hd) (by omega) (by omega) ?_
   rw [Int.toNat_natCast]
   refine ⟨?_, ?_⟩
   ·refine Calls.mono (v7 (RN.ahead hrest hd) (by omega) (by omega) (by simp;omega)) ?_
    rintro e w2 ⟨h2,s2,rfl,r2⟩
    replace r2:RN w2 s2 (r*2^32):=r2
    refine ⟨_,rfl,h2,Ahead.alloc _ _, ?_⟩
    refine Calls.mono (jz (gn w2 _) (by simp) okx) ?_
    rw [vxk]
    rintro e w4 ⟨rfl,s3,rfl,r3⟩
    refine ⟨_,rfl,Ahead.refl _, ?_⟩
    refine Calls.mono (cm (RN.ahead r2 (Ahead.alloc _ _)) r3 (by omega) (by omega)) ?_
    rw [←hR]
    rintro e w5 ⟨h5,s4,rfl,r4,f4⟩
    have h25:=((hd.trans h2).trans (Ahead.alloc _ _)).trans h5
    refine ⟨_,rfl,h5,key s4 w5 h25 r4 fun ad e=> ?_⟩
    have q1:=f4 ad e
    rw [pz] at q1
    have:=ho.lt
    have:=(hd.trans h2).size
    omega
   ·refine ⟨Ahead.alloc _ _, ?_⟩
    have ha:=(hd.trans (Ahead.alloc w1.drew (.cells #[.int .u64 (((digs B32 x).getD k 0:Nat):Int)] tU64 (0,0))))
    refine Calls.mono (v7 (RN.ahead hrest ha) (by omega) (by omega) (by simp;omega)) ?_
    rintro e w2 ⟨h2,s2,rfl,r2⟩
    replace r2:RN w2 s2 (r*2^32):=r2
    refine ⟨_,rfl,h2, ?_⟩
    refine Calls.mono (jz ((gn w1.drew _).ahead h2) (by simp) okx) ?_
    rw [vxk]
    rintro e w4 ⟨rfl,s3,rfl,r3⟩
    refine ⟨_,rfl,Ahead.refl _, ?_⟩
    refine Calls.mono (cm r2 r3 (by omega) (by omega)) ?_
    rw [←hR]
    rintro e w5 ⟨h5,s4,rfl,r4,f4⟩
    refine ⟨_,rfl,h5,key s4 w5 ((ha.trans h2).trans h5) r4 fun ad e=> ?_⟩
    have q1:=f4 ad e
    have:=ho.lt
    have q2:=h2.size
    rw [pz] at q2
    have:=hd.size
    omega
  ·have hj0:j=0:=by simp at hlt;omega
   subst hj0
   rw [List.drop_zero,List.drop_zero,vx] at hv
   have hq':val B32 l=x/y:=by rw [hv,Nat.add_comm,Nat.add_mul_div_right _ _ hy,Nat.div_eq_of_lt hr];omega
   have hm':r=x % y:=by rw [hv,Nat.add_comm,Nat.add_mul_mod_self_right,Nat.mod_eq_of_lt hr]
   refine Calls.mono (jz ho.rd (by omega) ol) ?_
   rw [hq']
   rintro e w3 ⟨rfl,s',rfl,hr'⟩
   rw [hm'] at hrest
   exact ⟨_,rfl,h1,_,_,rfl,hr',hrest⟩
 ·rintro o0 o1 orest oout oi ow _ t0 t1 rest out i t9 t10 w1 ⟨rfl,rfl,rfl,rfl,h1,l,j,r,Q,S,r',rfl,hj,ho,hl,ol,hv,rfl,rfl,hS,hR,hr',hQ,hrest,hfr⟩
  refine zm (fun hge=> ?_) (fun hlt=> ?_)
  ·have hS1:1≤S:=by simp at hge;omega
   obtain ⟨s,rfl⟩:∃s,S=s+1:=⟨S -1,by omega⟩
   have es:(((s+1:Nat):Int) -1)=(s:Int):=by omega
   rw [es]
   have hp2:2^(s+1)=2*2^s:=by rw [Nat.pow_succ];omega
   have hpos:0<2^s:=Nat.pow_pos (by omega)
   have hle32:2^s≤2^31:=Nat.pow_le_pow_right (by omega) (by omega)
   have hys:y*2^s<y*B32^1:=by
    rw [Nat.pow_one];exact Nat.mul_lt_mul_of_pos_left (by omega) hy
   have ly:=q8 two32 hys
   have lr:(digs B32 r').length≤(digs B32 y).length+1:=q8 two32 (by
    rw [Nat.pow_one]
    exact Nat.lt_of_lt_of_le hr' (Nat.mul_le_mul_left _ (by omega)))
   refine Calls.mono (v7 (RN.ahead hq h1) (by omega) (by omega) (by
    have:((s:Int)).toNat/32=0:=by omega
    omega)) ?_
   rw [Int.toNat_natCast]
   rintro e w7 ⟨h7,s5,rfl,r5⟩
   have h07:=h1.trans h7
   refine ⟨_,rfl,Calls.mono (qh (hrest.ahead h7) r5 (by omega) (by omega)) ?_⟩
   rintro e w8 ⟨h8,rfl⟩
   have h08:=h07.trans h8
   have h18:=h7.trans h8
   rw [zp (by omega) (by omega)]
   have hcm:=ta (m:=r') (n:=y*2^s)
   refine ⟨_,rfl,zm (fun hc=> ?_) (fun hc=> ?_)⟩
   ·have hle:y*2^s≤r':=by
     rcases Nat.lt_or_ge r' (y*2^s) with h|h
     ·have:=hcm.2 h;have hc':=of_decide_eq_true hc;omega
     ·exact h
    refine Calls.mono (Q2 (hrest.ahead h18) (r5.ahead h8) hle (by omega)) ?_
    rintro e w9 ⟨h9,s6,rfl,r6,f6⟩
    refine ⟨_,rfl,semShl (x:=1) (by omega) ?_⟩
    try dsimp only
    rw [Nat.one_mul,Nat.mod_eq_of_lt (by omega),yd (by omega) (by omega),show (Q:Int)+((2^s:Nat):Int)=((Q+2^s:Nat):Int) by omega]
    refine ⟨⟨rfl,rfl,rfl,rfl,h08.trans h9,l,j,r,Q+2^s,s,_,rfl,hj,ho.ahead (h18.trans h9),hl,ol,hv,rfl,rfl,by omega, ?_, ?_,by omega,r6,fun ad e=> ?_⟩,by omega⟩
    ·rw [hR,Nat.add_mul,Nat.mul_comm y];rw [Nat.mul_comm y] at hle;omega
    ·rw [hp2] at hr'
     have:y*(2*2^s)=y*2^s+y*2^s:=by rw [←Nat.mul_add];congr 1;omega
     omega
    ·have:=f6 ad e
     have:=ho.lt
     have:=h18.size
     omega
   ·have hlt':r'<y*2^s:=by
     have hc':=of_decide_eq_false hc
     exact hcm.1 (by omega)
    exact ⟨⟨rfl,rfl,rfl,rfl,h08,l,j,r,Q,s,_,rfl,hj,ho.ahead h18,hl,ol,hv,rfl,rfl,by omega,hR,hlt',by omega,hrest.ahead h18,hfr⟩,by omega⟩
  ·have hS0:S=0:=by simp at hlt;omega
   subst hS0
   rw [Nat.pow_zero,Nat.mul_one] at hr'
   exact step (t1:=t1) h1 hj ho hl ol hv hR hr' (by rw [hB32];omega) hrest hfr
end Ref
end
section
open Go Go.RowKit Eng Sp Dg L2
namespace Dy
open _root_.Go.Proofs.YtbeiopoejdkheaaGreatDoor.Ref (RN RN.nil RN.ext RN.ahead tt tg v7 qh uz pe ks xh q8 qy)
open Sb
def zb (z:Int):Bool:=decide (z<0)
def sg (neg:Bool) (n:Nat):Int:=if neg then -(n:Int) else n
theorem qa (neg:Bool) (n:Nat):(sg neg n).natAbs=n:=by unfold sg;cases neg<;>simp
theorem zd1 (neg:Bool) (n:Nat):zb (sg neg n)=nD neg n:=by
 unfold zb sg nD
 cases neg
 ·simp
 ·by_cases h:n=0
  ·subst h;rfl
  ·simp [h];omega
theorem za1 (z:Int):sg (zb z) z.natAbs=z:=by
 unfold sg zb
 by_cases h:z<0
 ·rw [decide_eq_true h];simp;omega
 ·rw [decide_eq_false h];simp;omega
theorem zdd {neg:Bool} {x y:Nat} (hy:0<y):sg neg x/(y:Int)=sg neg (x/y) -(if x % y≠0∧neg=true then 1 else 0):=by
 have hd:=Nat.mod_add_div x y
 have hm:=Nat.mod_lt x hy
 have key:∀q r:Int,r+(y:Int)*q=sg neg x→0≤r→r<y→sg neg x/(y:Int)=q:=fun q r h1 h2 h3=>
  ((Int.ediv_emod_unique (by omega)).2 ⟨h1,h2,h3⟩).1
 have e:(x:Int)=((x % y:Nat):Int)+(y:Int)*((x/y:Nat):Int):=by
  conv=>lhs;rw [←hd]
  push_cast;rfl
 generalize x/y=q at*
 generalize x % y=r at*
 cases neg
 ·refine key _ (r:Int) ?_ (by omega) (by omega)
  simp [sg];omega
 ·by_cases hr:r=0
  ·refine key _ 0 ?_ (by omega) (by omega)
   subst hr
   simp [sg];rw [Int.mul_neg];omega
  ·refine key _ ((y:Int) -r) ?_ (by omega) (by omega)
   simp [sg,hr]
   rw [Int.mul_sub,Int.mul_neg];omega
theorem zev {x:Int} {y:Nat} :x % (y:Int)=x -x/(y:Int)*y:=by
 have:=Int.emod_add_mul_ediv x y
 rw [Int.mul_comm] at this
 omega
end Dy
end
section
open Go Go.RowKit Eng Sp Dg
namespace Dy
open _root_.Go.Proofs.YtbeiopoejdkheaaGreatDoor.Nat (ldN OwnNil Num Num.bl OwnNil.mono bigC xc zw Yes xj xk)
open _root_.Go.Proofs.YtbeiopoejdkheaaGreatDoor.Ref (RN RN.nil qp tt tg Lent Lent.whole Bk)
open Sb
theorem uy {w} {neg:Bool} {s} {x:Nat} {e:Int} (h:Num w s x) (he: -4611686018427387904≤e∧e≤4611686018427387904):Calls pr dyadic_number_top_id #[.agg (c3 neg s e)] w fun en w'=>Ahead w w'∧en= .returned (.int .i64 (e+bl x -1)):=by
 have hbl:=Num.bl h
 refine fp neg s e w _ (yv fun b w1 hb h1 hs1 B1=> ?_)
 have hd:=Ahead.drew w1
 have B1':=B1.ahead hd
 refine xz (x:=e) 2 B1' rfl (get2 B1' rfl rfl (Calls.mono (mg (h.ahead (h1.trans hd))) ?_))
 rintro en w2 ⟨h2,rfl⟩
 refine ⟨_,rfl,h2,(h1.trans hd).trans h2, ?_⟩
 try dsimp only
 rw [zp (x:=e+_) (by omega) (by omega),zp (by omega) (by omega)]
end Dy
end
section
open Go Go.RowKit Eng Sp Dg L2
namespace Dy
open _root_.Go.Proofs.YtbeiopoejdkheaaGreatDoor.Nat (OwnNil Num Num.bl OwnNil.mono OwnNil.ext OwnNil.rd OwnNil.ahead zw xj Yes)
open _root_.Go.Proofs.YtbeiopoejdkheaaGreatDoor.Ref (RN RN.nil RN.ext RN.ahead tt v7 uz Lent Lent.whole xh qy q8)
open Sb
def rX (neg:Bool) (n:Nat) (e pos m:Int):Nat:=if n=0∨pos≤e then n else rq neg n (pos -e).toNat m
def rE (n:Nat) (e pos:Int):Int:=if n=0∨pos≤e then e else pos
theorem Gj {w} {neg:Bool} {s} {n:Nat} {e pos m:Int} (hT:Tab w) (r:Rd .u64 w s (nn (digs B64 n))) (hl:(digs B64 n).length+1≤2^44) (he: -2305843009213693952≤e∧e≤2305843009213693952) (hp: -2305843009213693952≤pos∧pos≤2305843009213693952):Calls pr dyadic_rounded_id #[.agg (c3 neg s e), .int .i64 pos, .int .i64 m] w (DOut w (tC (rX neg n e pos m) (rE n e pos)) neg (rX neg n e pos m) (rE n e pos)):=by
 have hnum:Num w s n:=⟨_,r,by omega,yb two64 _,zu two64 _⟩
 refine Calls.mono (Z3 neg s e pos m w (fun en w'=>Ahead w w'→DOut w (tC (rX neg n e pos m) (rE n e pos)) neg (rX neg n e pos m) (rE n e pos) en w') ?_) fun en w' ⟨h1,h2⟩=>h2 h1
 intro w1 x1 a1
 refine Calls.mono (uk (hnum.ahead a1)) ?_
 rintro en w2 ⟨h2,rfl⟩
 have a2:=a1.trans h2
 have old:(n=0∨pos≤e)→Calls pr dyadic_told_id #[.agg (c2 neg s), .int .i64 e] w2 fun e2 w3=>∃b1:Bool,∃s1:Slc,∃x2:Int,∃x3:Int,e2= .returned (Value.tuple #[Value.agg #[Value.bool b1,s1.v,Value.int .i64 x2],Value.int .i64 x3])∧Ahead w2 w3∧
   (∀w4,Ext w3 w4→Ahead w w4→(Ahead w w4→DOut w (tC (rX neg n e pos m) (rE n e pos)) neg (rX neg n e pos m) (rE n e pos) (.returned (Value.tuple #[Value.agg #[Value.bool b1,s1.v,Value.int .i64 x2],Value.int .i64 x3])) w4)):=by
  intro hc
  rw [rX,if_pos hc,rE,if_pos hc]
  refine Calls.mono (pj (hT.ahead a2) (hnum.ahead a2) (by omega)) ?_
  rintro en w3 ⟨h3,s3,rfl,o3⟩
  exact ⟨_,_,_,_,rfl,h3,fun w4 x4 a4 _=>⟨a4,s3,rfl,(o3.ext x4).mono a2.size⟩⟩
 refine ⟨_,rfl,h2,zm (fun hz=> ?_) (fun hz=> ?_)⟩
 ·exact old (.inl (tp.1 (eq_of_beq hz)))
 ·have hn:n≠0:=fun e0=>by rw [e0] at hz;simp [sgn] at hz
  refine zm (fun hge=>old (.inr (of_decide_eq_true hge))) (fun hlt=> ?_)
  have hc:¬(n=0∨pos≤e):=by
   rintro (h|h)
   ·exact hn h
   ·exact of_decide_eq_false hlt h
  have hst:stq neg n e pos m=rq neg n (pos -e).toNat m:=if_neg hc
  rw [rX,if_neg hc,rE,if_neg hc]
  have lq:(digs B64 (n/2^(pos -e).toNat)).length+1≤2^44:=Nat.le_trans (Nat.add_le_add_right (xh two64 (Nat.div_le_self _ _)) 1) hl
  refine Calls.mono (za5 (hT.ahead a2) (r.ahead a2) hl he hp (fun h=>absurd h hc)) ?_
  rw [hst]
  rintro en w7 ⟨h7,s3,rfl,o3⟩
  have a7:=a2.trans h7
  have lx:(digs B64 (rq neg n (pos -e).toNat m)).length≤2^44:=by
   have h1:rq neg n (pos -e).toNat m≤n/2^(pos -e).toNat+1:=by unfold rq;split<;>omega
   refine Nat.le_trans (xh two64 h1) ?_
   have h2:n/2^(pos -e).toNat<B64^(digs B64 (n/2^(pos -e).toNat)).length:=by
    have:=xa (yb two64 (n/2^(pos -e).toNat))
    rwa [zu two64] at this
   refine Nat.le_trans (vk two64 (m:=(digs B64 (n/2^(pos -e).toNat)).length+1) ?_) lq
   rw [Nat.pow_succ]
   have h3:=Nat.mul_le_mul_left (B64^(digs B64 (n/2^(pos -e).toNat)).length) two64
   have h4:0<B64^(digs B64 (n/2^(pos -e).toNat)).length:=Nat.pow_pos (by rw [B64v];omega)
   exact Nat.lt_of_le_of_lt (Nat.succ_le_of_lt h2) (by omega)
  have hx:Num w7 s3 (rq neg n (pos -e).toNat m):=⟨_,o3.rd,lx,yb two64 _,zu two64 _⟩
  refine ⟨_,_,rfl,h7,Calls.mono (pj (hT.ahead a7) hx (by omega)) ?_⟩
  rintro en w8 ⟨h8,s4,rfl,o4⟩
  exact ⟨_,_,_,_,rfl,h8,fun w4 x4 a4 _=>⟨a4,s4,rfl,(o4.ext x4).mono a7.size⟩⟩
def okM (m:Int):Prop:=0≤m∧m≤2
instance (m:Int):Decidable (okM m):=inferInstanceAs (Decidable (_∧_))
def rdC (neg:Bool) (x:Nat) (e pos m:Int):Int:=if wi e then if wi pos then if okM m then tC (rX (nD neg x) (od x) (eD x e) pos m) (rE (od x) (eD x e) pos) else 81 else 1 else 80
theorem zbw {w s} {x:Nat} {e:Int} (h:Num w s x) (he:wi e): -1125999906842624 -1099511627776≤eD x e∧eD x e≤1125999906842624+1099511627776:=by
 have h1:=Num.bl h
 have h2:=qv x
 unfold wi at he
 unfold eD
 split<;>omega
theorem zac {w} {neg:Bool} {s} {x:Nat} {e pos m:Int} (hT:Tab w) (h:Num w s x) (hl:(digs B64 x).length+1≤2^44):Calls pr dyadic_Round_id #[.agg (c3 neg s e), .int .i64 pos, .int .i64 m] w (DOut w (rdC neg x e pos m) (nD neg x) (rX (nD neg x) (od x) (eD x e) pos m) (rE (od x) (eD x e) pos)):=by
 refine Calls.mono (V9 neg s e pos m w (fun en w'=>Ahead w w'→DOut w (rdC neg x e pos m) (nD neg x) (rX (nD neg x) (od x) (eD x e) pos m) (rE (od x) (eD x e) pos) en w') ?_) fun en w' ⟨h1,h2⟩=>h2 h1
 intro w1 x1 a1
 refine Calls.mono (qe (hT.ahead a1) (h.ahead a1)) ?_
 rintro en w2 ⟨h2,s2,rfl,o2⟩
 have a2:=a1.trans h2
 refine ⟨_,_,_,_,rfl,h2,zm (fun hw=> ?_) (fun hw=> ?_)⟩
 ·have hw':¬wi e:=fun h=>by rw [if_pos h] at hw;simp at hw
  rw [if_neg hw']
  exact fun w3 x3 a3 _=>DOut.refused a3 (if_neg hw') (by omega)
 ·have hw':wi e:=by
   by_cases h:wi e
   ·exact h
   ·rw [if_neg h] at hw;simp at hw
  rw [if_pos hw'] at o2
  rw [if_pos hw',if_pos hw']
  intro w4 x4 a4
  refine Calls.mono kh ?_
  rintro en w5 ⟨rfl,rfl⟩
  refine ⟨_,rfl,Ahead.refl _,zm (fun hk=> ?_) (fun hk=> ?_)⟩
  ·have hk':¬wi pos:=by simpa using hk
   exact fun w3 x3 a3 _=>DOut.refused a3 (by rw [rdC,if_pos hw',if_neg hk']) (by omega)
  ·have hk':wi pos:=by simpa using hk
   refine Calls.mono Tp ?_
   rintro en w7 ⟨rfl,rfl⟩
   refine ⟨_,rfl,Ahead.refl _,zm (fun hm=> ?_) (fun hm=> ?_)⟩
   ·have hm':¬okM m:=fun hh=>by unfold okM at hh;rw [decide_eq_true hh] at hm;simp at hm
    exact fun w3 x3 a3 _=>DOut.refused a3 (by rw [rdC,if_pos hw',if_pos hk',if_neg hm']) (by omega)
   ·have hm':okM m:=by
     by_cases hh:okM m
     ·exact hh
     ·unfold okM at hh;rw [decide_eq_false hh] at hm;simp at hm
    have hc:rdC neg x e pos m=tC (rX (nD neg x) (od x) (eD x e) pos m) (rE (od x) (eD x e) pos):=by rw [rdC,if_pos hw',if_pos hk',if_pos hm']
    rw [hc]
    have lo:(digs B64 (od x)).length+1≤2^44:=Nat.le_trans (Nat.add_le_add_right (xh two64 (ms x)) 1) hl
    refine Calls.mono (Gj (hT.ahead a4) (o2.ext x4).rd lo (by have:=zbw h hw';omega) (by unfold wi at hk';omega)) ?_
    rintro en w9 ⟨h9,s9,rfl,o9⟩
    exact ⟨_,_,_,_,rfl,h9,fun w3 x3 a3 _=>⟨a3,s9,rfl,(o9.ext x3).mono a4.size⟩⟩
theorem Cp {n gap:Nat} (hn:n % 2=1) (hg:0<gap):n % 2^gap≠0:=by
 obtain ⟨g,rfl⟩:∃g,gap=g+1:=⟨gap -1,by omega⟩
 intro h
 have:=Nat.mod_add_div n (2^(g+1))
 rw [h,Nat.pow_succ,Nat.mul_comm (2^g) 2,Nat.mul_assoc] at this
 omega
theorem cw {neg:Bool} {n gap:Nat} (hn:n % 2=1) (hg:0<gap):sg neg n/((2^gap:Nat):Int)=sg neg (n/2^gap+if neg then 1 else 0):=by
 rw [zdd (Nat.pow_pos (by omega))]
 have h:=Cp hn hg
 generalize n/2^gap=q
 cases neg
 ·simp [sg]
 ·rw [if_pos ⟨h,rfl⟩]
  simp [sg];omega
theorem zeu {neg:Bool} {n gap:Nat} (hn:n % 2=1) (hg:0<gap):sg neg n % ((2^gap:Nat):Int)=if neg then ((2^gap:Nat):Int) -((n % 2^gap:Nat):Int) else ((n % 2^gap:Nat):Int):=by
 rw [zev,cw hn hg]
 have hd:=Nat.mod_add_div n (2^gap)
 have e:(n:Int)=((n % 2^gap:Nat):Int)+((2^gap:Nat):Int)*((n/2^gap:Nat):Int):=by
  conv=>lhs;rw [←hd]
  push_cast;rfl
 generalize n/2^gap=q at*
 generalize n % 2^gap=r at*
 generalize 2^gap=S at*
 cases neg
 ·simp [sg];rw [Int.mul_comm] at e;omega
 ·simp [sg]
  rw [Int.neg_mul,Int.add_mul,Int.one_mul,Int.mul_comm (q:Int)];omega
theorem zc9 {neg:Bool} {n gap:Nat} (hn:n % 2=1) (hg:0<gap):sg neg n/((2^gap:Nat):Int)=sg neg (rq neg n gap 0):=by
 rw [cw hn hg];unfold rq upR;simp
theorem zfx {neg:Bool} {n gap:Nat} (hn:n % 2=1) (hg:0<gap):(sg neg n/((2^gap:Nat):Int)+if sg neg n % ((2^gap:Nat):Int)≠0 then 1 else 0)=sg neg (rq neg n gap 1):=by
 have h:=Cp hn hg
 have hlt:=Nat.mod_lt n (show 2^gap>0 from Nat.pow_pos (by omega))
 rw [cw hn hg,zeu hn hg]
 unfold rq upR
 generalize n/2^gap=q
 generalize n % 2^gap=r at*
 generalize 2^gap=S at*
 cases neg
 ·simp [sg,h]
 ·have:¬(S:Int) -(r:Int)=0:=by omega
  simp [sg,this];omega
end Dy
end
section
open Go Go.RowKit Eng L2
theorem My (aa:Bool) (ab:Slc) (w:World) (R:Ending→World→Prop) (h:xw w w fun w1=>(Calls pr 165 #[uP aa ab] w1 fun e1 w2=>∃b1:Bool,∃s1:Slc,∃x1:Int,e1= .returned (.tuple #[uP b1 s1,vi x1])∧Ahead w1 w2∧(xw w w2 fun w3=>(R (.returned (.tuple #[uP b1 s1,vi x1])) w3)))):Calls pr 160 #[.bool aa,ab.v] w (fun e_ w_=>Ahead w w_∧R e_ w_):=by
 refine Mz aa ab w _ ?_
 ·have A:Ahead w w:=Ahead.refl w
  have X:Ext w w:=Ext.refl w
  refine zn fun bk1 u1 hb a _ B1=> ?_;have g1:=zj A.size hb;obtain ⟨A,X⟩:=axa2 a A X;replace h:=h _ X A;refine Calls.mono h ?_;clear h;rintro e1 w2 ⟨b1,s1,x1,he_,a,h⟩;refine ⟨b1,s1,x1,he_, ?_⟩;clear he_;replace B1:=B1.ahead a;obtain ⟨A,X⟩:=axr2 a A;refine s2_t B1 fun u2 k B1=> ?_;obtain ⟨A,X⟩:=axu2 k g1 A X;refine l2_t B1 ?_;replace h:=h _ X A;exact ⟨A,h⟩
theorem M1 (ab:Bool) (aa:Slc) (w:World) (R:Ending→World→Prop) (h:xw w w fun w1=>(kI 46 #[aa.v] w1 fun w2 x1=>Ahead w1 w2∧(br (decide (x1>67108864)) (xw w w2 fun w3=>(R (.returned (.tuple #[uP (false) nSl,vi 3])) w3)) (Calls pr 172 #[uP ab aa] w2 fun e2 w4=>∃b1:Bool,∃s1:Slc,e2= .returned (uP b1 s1)∧Ahead w2 w4∧(xw w w4 fun w5=>(R (.returned (.tuple #[uP b1 s1,vi 0])) w5)))))):Calls pr 165 #[uP ab aa] w (fun e_ w_=>Ahead w w_∧R e_ w_):=by
 refine M2 ab aa w _ ?_
 ·have A:Ahead w w:=Ahead.refl w
  have X:Ext w w:=Ext.refl w
  refine zn fun bk1 u1 hb a _ B1=> ?_;have g1:=zj A.size hb;obtain ⟨A,X⟩:=axa2 a A X;refine zn fun bk2 u2 hb a _ B2=> ?_;have g2:=zj A.size hb;have l1_2:=lt1 hb B1;replace B1:=B1.ahead a;obtain ⟨A,X⟩:=axa2 a A X;refine ym 1 B1 rfl ?_;replace h:=h _ X A;refine Calls.mono h ?_;clear h;rintro e1 w2 ⟨x1,he_,a,h⟩;refine ⟨x1,he_, ?_⟩;clear he_;obtain ⟨B1,B2⟩:=ah2 a B1 B2;obtain ⟨A,X⟩:=axr2 a A;refine zv h (fun h_=> ?_) (fun h_=> ?_)
  ·replace h:=h_;clear h_;refine s2_t B2 fun u3 k B2=> ?_;replace B1:=up1 k B1;obtain ⟨A,X⟩:=axu2 k g2 A X;refine l2_t B2 ?_;replace h:=h _ X A;exact ⟨A,h⟩
  ·replace h:=h_;clear h_;refine l2_t B1 ?_;refine Calls.mono h ?_;clear h;rintro e2 w4 ⟨b1,s1,he_,a,h⟩;refine ⟨b1,s1,he_, ?_⟩;clear he_;obtain ⟨B1,B2⟩:=ah2 a B1 B2;obtain ⟨A,X⟩:=axr2 a A;refine s2_t B2 fun u4 k B2=> ?_;replace B1:=up1 k B1;obtain ⟨A,X⟩:=axu2 k g2 A X;refine l2_t B2 ?_;replace h:=h _ X A;exact ⟨A,h⟩
theorem M3 (aa:Bool) (ab:Slc) (w:World) (R:Ending→World→Prop) (h:xw w w fun w1=>(kS 85 #[ab.v] w1 fun w2 s1=>Ahead w1 w2∧(br aa (xw w w2 fun w3=>(R (.returned (uP (decide ((s1.n:Int)>0)) s1)) w3)) (xw w w2 fun w4=>(R (.returned (uP (false) s1)) w4))))):Calls pr 172 #[uP aa ab] w (fun e_ w_=>Ahead w w_∧R e_ w_):=by
 refine M4 aa ab w _ ?_
 ·have A:Ahead w w:=Ahead.refl w
  have X:Ext w w:=Ext.refl w
  refine zn fun bk1 u1 hb a _ B1=> ?_;have g1:=zj A.size hb;obtain ⟨A,X⟩:=axa2 a A X;refine zn fun bk2 u2 hb a _ B2=> ?_;have g2:=zj A.size hb;have l1_2:=lt1 hb B1;replace B1:=B1.ahead a;obtain ⟨A,X⟩:=axa2 a A X;refine ym 1 B1 rfl ?_;replace h:=h _ X A;refine Calls.mono h ?_;clear h;rintro e1 w2 ⟨s1,he_,a,h⟩;refine ⟨s1,he_, ?_⟩;clear he_;obtain ⟨B1,B2⟩:=ah2 a B1 B2;obtain ⟨A,X⟩:=axr2 a A;refine yt 0 B1 rfl ?_;refine zv h (fun h_=> ?_) (fun h_=> ?_)
  ·replace h:=h_;clear h_;refine s2_t B2 fun u3 k B2=> ?_;replace B1:=up1 k B1;obtain ⟨A,X⟩:=axu2 k g2 A X;refine l2_t B2 ?_;replace h:=h _ X A;exact ⟨A,h⟩
  ·replace h:=h_;clear h_;refine s2_t B2 fun u4 k B2=> ?_;replace B1:=up1 k B1;obtain ⟨A,X⟩:=axu2 k g2 A X;refine l2_t B2 ?_;replace h:=h _ X A;exact ⟨A,h⟩
end
section
open Go Go.RowKit Eng Sp Dg L2
namespace Dy
open _root_.Go.Proofs.YtbeiopoejdkheaaGreatDoor.Nat (OwnNil Num Num.bl OwnNil.mono OwnNil.ext OwnNil.rd OwnNil.ahead OwnNil.nil zw xj Yes yn xe)
open _root_.Go.Proofs.YtbeiopoejdkheaaGreatDoor.Ref (RN RN.nil RN.ext RN.ahead tt v7 uz Lent Lent.whole xh qy q8 Bk)
open Sb
theorem ni {x n:Nat} (h:x≠0):bl (x*2^n)=n+bl x:=by
 have:=fj (t:=0) (k:=n) h (Nat.pow_pos (by omega))
 rw [Nat.zero_add,Nat.mul_comm] at this
 exact this
theorem di {w} {neg:Bool} {s} {x:Nat} (h:Num w s x):Calls pr whole_norm_id #[.agg (c2 neg s)] w fun e w'=>Ahead w w'∧∃s',e= .returned (.agg (c2 (nD neg x) s'))∧OwnNil w.heap.size w' s' (digs B64 x):=by
 obtain ⟨l,r,hl,ol,rfl⟩:=h
 refine M3 neg s w _ fun w1 x1 a1=>Calls.mono (yn (r.ahead a1) hl ol) ?_
 rintro e w2 ⟨h2,s1,rfl,o1⟩
 have hn:s1.n=(digs B64 (val B64 l)).length:=by rw [o1.rd.n,nn_length]
 refine ⟨_,rfl,h2,zm (fun hb=> ?_) (fun hb=> ?_)⟩
 ·intro w3 x3 a3
  refine ⟨s1, ?_,(o1.ext x3).mono a1.size⟩
  congr 3
  rw [hb,hn]
  by_cases h0:val B64 l=0
  ·rw [h0,yq];rfl
  ·have:=List.length_pos_iff.2 (xv two64 h0)
   rw [pw h0]
   simp;omega
 ·intro w3 x3 a3
  refine ⟨s1, ?_,(o1.ext x3).mono a1.size⟩
  rw [hb];rfl
def WOut (w:World) (code:Int) (neg:Bool) (q:Nat) (e:Ending) (w':World):Prop:=∃s,e= .returned (.tuple #[.agg (c2 (if code=0 then nD neg q else false) s), .int .i64 code])∧OwnNil w.heap.size w' s (if code=0 then digs B64 q else [])
def bC (q:Nat):Int:=if 67108864<bl q then 3 else 0
theorem jx {w} {neg:Bool} {s} {x:Nat} (h:Num w s x):Calls pr whole_fits_id #[.agg (c2 neg s)] w fun e w'=>Ahead w w'∧WOut w (bC x) neg x e w':=by
 refine M1 neg s w _ fun w1 x1 a1=>Calls.mono (xe (h.ahead a1)) ?_
 rintro e w2 ⟨rfl,rfl⟩
 refine ⟨_,rfl,Ahead.refl _,zm (fun hb=> ?_) (fun hb=> ?_)⟩
 ·have hb':67108864<bl x:=by have:=of_decide_eq_true hb;omega
  have hc:bC x=3:=if_pos hb'
  rw [hc]
  exact fun w3 x3 a3=>⟨_,rfl,OwnNil.nil⟩
 ·have hb':¬67108864<bl x:=by have:=of_decide_eq_false hb;omega
  have hc:bC x=0:=if_neg hb'
  rw [hc]
  refine Calls.mono (di (h.ahead a1)) ?_
  rintro e w4 ⟨h4,s1,rfl,o1⟩
  exact ⟨_,_,rfl,h4,fun w5 x5 a5=>⟨s1,rfl,(o1.ext x5).mono a1.size⟩⟩
theorem zbb {w} {neg:Bool} {s} {x:Nat} (h:Num w s x):Calls pr whole_Make_id #[.bool neg,s.v] w fun e w'=>Ahead w w'∧WOut w (bC x) neg x e w':=by
 refine My neg s w _ fun w1 x1 a1=>Calls.mono (jx (h.ahead a1)) ?_
 rintro e w2 ⟨h2,s1,rfl,o1⟩
 exact ⟨_,_,_,rfl,h2,fun w3 x3 a3=>⟨s1,rfl,(o1.ext x3).mono a1.size⟩⟩
end Dy
end
section
open Go Go.RowKit Eng L2
open _root_.Go.IntKind (wrap)
theorem Z1 (af:Bool) (ab:Slc) (ac:Int) (ag:Bool) (ad:Slc) (ae:Int) (w:World) (R:Ending→World→Prop) (h:xw w w fun w1=>(kI 128 #[uP af ab] w1 fun w2 x1=>Ahead w1 w2∧(kI 128 #[uP ag ad] w2 fun w3 x2=>Ahead w2 w3∧(br (decide (x1<x2)) (R (.returned (vi (-1))) w3) (br (decide (x1>x2)) (R (.returned (vi 1)) w3) (br (x1==0) (R (.returned (vi 0)) w3) (xw w w3 fun w4=>(kI 129 #[uD af ab ac] w4 fun w5 x3=>Ahead w4 w5∧(kI 129 #[uD ag ad ae] w5 fun w6 x4=>Ahead w5 w6∧(br (x3 !=x4) (xw w w6 fun w7=>(kI 129 #[uD af ab ac] w7 fun w8 x5=>Ahead w7 w8∧(kI 129 #[uD ag ad ae] w8 fun w9 x6=>Ahead w8 w9∧(br (decide (x5<x6)) (R (.returned (vi (wrap .i64 (0 -x1)))) w9) (R (.returned (vi x1)) w9))))) (br (decide (ac>ae)) (xw w w6 fun w11=>(kS 130 #[ab.v,vi (wrap .i64 (ac -ae))] w11 fun w12 s1=>Ahead w11 w12∧(kI 81 #[s1.v,ad.v] w12 fun w13 x7=>Ahead w12 w13∧(R (.returned (vi (wrap .i64 (x1*x7)))) w13)))) (xw w w6 fun w14=>(kS 130 #[ad.v,vi (wrap .i64 (ae -ac))] w14 fun w15 s2=>Ahead w14 w15∧(kI 81 #[ab.v,s2.v] w15 fun w16 x8=>Ahead w15 w16∧(R (.returned (vi (wrap .i64 (x1*x8)))) w16))))))))))))))):Calls pr 100 #[uD af ab ac,uD ag ad ae] w (fun e_ w_=>Ahead w w_∧R e_ w_):=by
  refine Z2 af ab ac ag ad ae w _ ?_
  · have A:Ahead w w:=Ahead.refl w
    have X:Ext w w:=Ext.refl w
    refine zn fun bk1 u1 hb a _ B1=> ?_;have g1:=zj A.size hb;obtain ⟨A,X⟩:=axa2 a A X;refine zn fun bk2 u2 hb a _ B2=> ?_;have g2:=zj A.size hb;have l1_2:=lt1 hb B1;replace B1:=B1.ahead a;obtain ⟨A,X⟩:=axa2 a A X;have aa:=Sp.Ahead.drew u2;obtain ⟨B1,B2⟩:=ah2 aa B1 B2;obtain ⟨A,X⟩:=axa2 aa A X;clear aa;refine yt 0 B1 rfl ?_;refine ym 1 B1 rfl ?_;refine yt 0 B2 rfl ?_;refine ym 1 B2 rfl ?_;replace h:=h _ X A;refine Calls.mono h ?_;clear h;rintro e1 w2 ⟨x1,he_,a,h⟩;refine ⟨x1,he_, ?_⟩;clear he_;obtain ⟨B1,B2⟩:=ah2 a B1 B2;obtain ⟨A,X⟩:=axr2 a A;refine ⟨a, ?_⟩;refine Calls.mono h ?_;clear h;rintro e2 w3 ⟨x2,he_,a,h⟩;refine ⟨x2,he_, ?_⟩;clear he_;obtain ⟨B1,B2⟩:=ah2 a B1 B2;obtain ⟨A,X⟩:=axr2 a A;refine ⟨a, ?_⟩;refine zv h (fun h_=> ?_) (fun h_=> ?_)
    ·replace h:=h_;clear h_;exact ⟨A,h⟩
    ·replace h:=h_;clear h_;refine zv h (fun h_=> ?_) (fun h_=> ?_)
     ·replace h:=h_;clear h_;exact ⟨A,h⟩
     ·replace h:=h_;clear h_;refine zv h (fun h_=> ?_) (fun h_=> ?_)
      ·replace h:=h_;clear h_;exact ⟨A,h⟩
      ·replace h:=h_;clear h_;have aa:=Sp.Ahead.drew w3;obtain ⟨B1,B2⟩:=ah2 aa B1 B2;obtain ⟨A,X⟩:=axa2 aa A X;clear aa;refine l3_t B1 ?_;refine l3_t B2 ?_;replace h:=h _ X A;refine Calls.mono h ?_;clear h;rintro e3 w5 ⟨x3,he_,a,h⟩;refine ⟨x3,he_, ?_⟩;clear he_;obtain ⟨B1,B2⟩:=ah2 a B1 B2;obtain ⟨A,X⟩:=axr2 a A;refine ⟨a, ?_⟩;refine Calls.mono h ?_;clear h;rintro e4 w6 ⟨x4,he_,a,h⟩;refine ⟨x4,he_, ?_⟩;clear he_;obtain ⟨B1,B2⟩:=ah2 a B1 B2;obtain ⟨A,X⟩:=axr2 a A;refine ⟨a, ?_⟩;refine zv h (fun h_=> ?_) (fun h_=> ?_)
       ·replace h:=h_;clear h_;have aa:=Sp.Ahead.drew w6;obtain ⟨B1,B2⟩:=ah2 aa B1 B2;obtain ⟨A,X⟩:=axa2 aa A X;clear aa;refine l3_t B1 ?_;refine l3_t B2 ?_;replace h:=h _ X A;refine Calls.mono h ?_;clear h;rintro e5 w8 ⟨x5,he_,a,h⟩;refine ⟨x5,he_, ?_⟩;clear he_;obtain ⟨B1,B2⟩:=ah2 a B1 B2;obtain ⟨A,X⟩:=axr2 a A;refine ⟨a, ?_⟩;refine Calls.mono h ?_;clear h;rintro e6 w9 ⟨x6,he_,a,h⟩;refine ⟨x6,he_, ?_⟩;clear he_;obtain ⟨B1,B2⟩:=ah2 a B1 B2;obtain ⟨A,X⟩:=axr2 a A;refine ⟨a, ?_⟩;refine zv h (fun h_=> ?_) (fun h_=> ?_)
        ·replace h:=h_;clear h_;exact ⟨A,h⟩
        ·replace h:=h_;clear h_;exact ⟨A,h⟩
       ·replace h:=h_;clear h_;refine ym 1 B1 rfl ?_;refine ym 1 B2 rfl ?_;intro w10 a;obtain ⟨B1,B2⟩:=ah2 a B1 B2;obtain ⟨A,X⟩:=axa2 a A X;clear a;refine xg 2 B1 rfl ?_;refine xg 2 B2 rfl ?_;refine zv h (fun h_=> ?_) (fun h_=> ?_)
        ·replace h:=h_;clear h_;refine xg 2 B1 rfl ?_;refine xg 2 B2 rfl ?_;replace h:=h _ X A;refine Calls.mono h ?_;clear h;rintro e7 w12 ⟨s1,he_,a,h⟩;refine ⟨s1,he_, ?_⟩;clear he_;obtain ⟨B1,B2⟩:=ah2 a B1 B2;obtain ⟨A,X⟩:=axr2 a A;refine Calls.mono h ?_;clear h;rintro e8 w13 ⟨x7,he_,a,h⟩;refine ⟨x7,he_, ?_⟩;clear he_;obtain ⟨B1,B2⟩:=ah2 a B1 B2;obtain ⟨A,X⟩:=axr2 a A;exact ⟨A,h⟩
        ·replace h:=h_;clear h_;refine xg 2 B2 rfl ?_;refine xg 2 B1 rfl ?_;replace h:=h _ X A;refine Calls.mono h ?_;clear h;rintro e9 w15 ⟨s2,he_,a,h⟩;refine ⟨s2,he_, ?_⟩;clear he_;obtain ⟨B1,B2⟩:=ah2 a B1 B2;obtain ⟨A,X⟩:=axr2 a A;refine Calls.mono h ?_;clear h;rintro e10 w16 ⟨x8,he_,a,h⟩;refine ⟨x8,he_, ?_⟩;clear he_;obtain ⟨B1,B2⟩:=ah2 a B1 B2;obtain ⟨A,X⟩:=axr2 a A;exact ⟨A,h⟩
theorem Zz (aa:Bool) (ab:Slc) (ac:Int) (ad:Bool) (ae:Slc) (af:Int) (w:World) (R:Ending→World→Prop) (h:xw w w fun w1=>(Calls pr 99 #[uD aa ab ac,uD ad ae af] w1 fun e1 w2=>∃b1:Bool,∃s1:Slc,∃x1:Int,∃b2:Bool,∃s2:Slc,∃x2:Int,∃x3:Int,e1= .returned (.tuple #[uD b1 s1 x1,uD b2 s2 x2,vi x3])∧Ahead w1 w2∧(br (x3 !=0) (xw w w2 fun w3=>(R (.returned (.tuple #[vi 0,vi x3])) w3)) (xw w w2 fun w4=>(kI 100 #[uD b1 s1 x1,uD b2 s2 x2] w4 fun w5 x4=>Ahead w4 w5∧(R (.returned (.tuple #[vi x4,vi 0])) w5)))))):Calls pr 59 #[uD aa ab ac,uD ad ae af] w (fun e_ w_=>Ahead w w_∧R e_ w_):=by
 refine Z0 aa ab ac ad ae af w _ ?_
 ·have A:Ahead w w:=Ahead.refl w
  have X:Ext w w:=Ext.refl w
  refine zn fun bk1 u1 hb a _ B1=> ?_;have g1:=zj A.size hb;obtain ⟨A,X⟩:=axa2 a A X;refine zn fun bk2 u2 hb a _ B2=> ?_;have g2:=zj A.size hb;have l1_2:=lt1 hb B1;replace B1:=B1.ahead a;obtain ⟨A,X⟩:=axa2 a A X;refine l3_t B1 ?_;refine l3_t B2 ?_;replace h:=h _ X A;refine Calls.mono h ?_;clear h;rintro e1 w2 ⟨b1,s1,x1,b2,s2,x2,x3,he_,a,h⟩;refine ⟨b1,s1,x1,b2,s2,x2,x3,he_, ?_⟩;clear he_;obtain ⟨B1,B2⟩:=ah2 a B1 B2;obtain ⟨A,X⟩:=axr2 a A;refine zn fun bk3 u3 hb a _ B3=> ?_;have g3:=zj A.size hb;obtain ⟨_,_⟩:=lt2 hb B1 B2;obtain ⟨B1,B2⟩:=ah2 a B1 B2;obtain ⟨A,X⟩:=axa2 a A X;refine zn fun bk4 u4 hb a _ B4=> ?_;have g4:=zj A.size hb;obtain ⟨_,_,_⟩:=lt3 hb B1 B2 B3;obtain ⟨B1,B2,B3⟩:=ah3 a B1 B2 B3;obtain ⟨A,X⟩:=axa2 a A X;refine s3_t B3 fun u5 k B3=> ?_;obtain ⟨B1,B2,B4⟩:=up3 k B1 B2 B4;obtain ⟨A,X⟩:=axu2 k g3 A X;refine s3_t B4 fun u6 k B4=> ?_;obtain ⟨B1,B2,B3⟩:=up3 k B1 B2 B3;obtain ⟨A,X⟩:=axu2 k g4 A X;refine zv h (fun h_=> ?_) (fun h_=> ?_)
  ·replace h:=h_;clear h_;replace h:=h _ X A;exact ⟨A,h⟩
  ·replace h:=h_;clear h_;refine l3_t B3 ?_;refine l3_t B4 ?_;replace h:=h _ X A;refine Calls.mono h ?_;clear h;rintro e2 w5 ⟨x4,he_,a,h⟩;refine ⟨x4,he_, ?_⟩;clear he_;obtain ⟨B1,B2,B3,B4⟩:=ah4 a B1 B2 B3 B4;obtain ⟨A,X⟩:=axr2 a A;exact ⟨A,h⟩
theorem Tw (ab:Bool) (ac:Slc) (ad:Int) (ae:Bool) (af:Slc) (ag:Int) (aa:Int) (w:World) (R:Ending→World→Prop) (h:xw w w fun w1=>(Calls pr 99 #[uD ab ac ad,uD ae af ag] w1 fun e1 w2=>∃b1:Bool,∃s1:Slc,∃x1:Int,∃b2:Bool,∃s2:Slc,∃x2:Int,∃x3:Int,e1= .returned (.tuple #[uD b1 s1 x1,uD b2 s2 x2,vi x3])∧Ahead w1 w2∧(br (x3 !=0) (xw w w2 fun w3=>(R (.returned (.tuple #[uD (false) nSl (0:Int),vi x3])) w3)) (xw w w2 fun w4=>(kI 100 #[uD b1 s1 x1,uD b2 s2 x2] w4 fun w5 x4=>Ahead w4 w5∧(br (decide ((wrap .i64 (x4*aa))<0)) (xw w w5 fun w6=>(kU 104 #[uP b2 s2,vi x2] w6 fun w7 b3 s3 x5 x6=>Ahead w6 w7∧(xw w w7 fun w8=>(R (.returned (.tuple #[uD b3 s3 x5,vi x6])) w8)))) (kU 104 #[uP b1 s1,vi x1] w5 fun w9 b4 s4 x7 x8=>Ahead w5 w9∧(xw w w9 fun w10=>(R (.returned (.tuple #[uD b4 s4 x7,vi x8])) w10))))))))):Calls pr 106 #[uD ab ac ad,uD ae af ag,vi aa] w (fun e_ w_=>Ahead w w_∧R e_ w_):=by
  refine Tx ab ac ad ae af ag aa w _ ?_
  · have A:Ahead w w:=Ahead.refl w
    have X:Ext w w:=Ext.refl w
    refine zn fun bk1 u1 hb a _ B1=> ?_;have g1:=zj A.size hb;obtain ⟨A,X⟩:=axa2 a A X;refine zn fun bk2 u2 hb a _ B2=> ?_;have g2:=zj A.size hb;have l1_2:=lt1 hb B1;replace B1:=B1.ahead a;obtain ⟨A,X⟩:=axa2 a A X;refine zn fun bk3 u3 hb a _ B3=> ?_;have g3:=zj A.size hb;obtain ⟨_,_⟩:=lt2 hb B1 B2;obtain ⟨B1,B2⟩:=ah2 a B1 B2;obtain ⟨A,X⟩:=axa2 a A X;refine l3_t B1 ?_;refine l3_t B2 ?_;replace h:=h _ X A;refine Calls.mono h ?_;clear h;rintro e1 w2 ⟨b1,s1,x1,b2,s2,x2,x3,he_,a,h⟩;refine ⟨b1,s1,x1,b2,s2,x2,x3,he_, ?_⟩;clear he_;obtain ⟨B1,B2,B3⟩:=ah3 a B1 B2 B3;obtain ⟨A,X⟩:=axr2 a A;refine zn fun bk4 u4 hb a _ B4=> ?_;have g4:=zj A.size hb;obtain ⟨_,_,_⟩:=lt3 hb B1 B2 B3;obtain ⟨B1,B2,B3⟩:=ah3 a B1 B2 B3;obtain ⟨A,X⟩:=axa2 a A X;refine zn fun bk5 u5 hb a _ B5=> ?_;have g5:=zj A.size hb;obtain ⟨_,_,_,_⟩:=lt4 hb B1 B2 B3 B4;obtain ⟨B1,B2,B3,B4⟩:=ah4 a B1 B2 B3 B4;obtain ⟨A,X⟩:=axa2 a A X;refine s3_t B4 fun u6 k B4=> ?_;obtain ⟨B1,B2,B3,B5⟩:=up4 k B1 B2 B3 B5;obtain ⟨A,X⟩:=axu2 k g4 A X;refine s3_t B5 fun u7 k B5=> ?_;obtain ⟨B1,B2,B3,B4⟩:=up4 k B1 B2 B3 B4;obtain ⟨A,X⟩:=axu2 k g5 A X;refine zv h (fun h_=> ?_) (fun h_=> ?_)
    ·replace h:=h_;clear h_;refine s3_t B3 fun u8 k B3=> ?_;obtain ⟨B1,B2,B4,B5⟩:=up4 k B1 B2 B4 B5;obtain ⟨A,X⟩:=axu2 k g3 A X;refine l3_t B3 ?_;replace h:=h _ X A;exact ⟨A,h⟩
    ·replace h:=h_;clear h_;refine l3_t B4 ?_;refine l3_t B5 ?_;replace h:=h _ X A;refine Calls.mono h ?_;clear h;rintro e2 w5 ⟨x4,he_,a,h⟩;refine ⟨x4,he_, ?_⟩;clear he_;obtain ⟨B1,B2,B3,B4,B5⟩:=ah5 a B1 B2 B3 B4 B5;obtain ⟨A,X⟩:=axr2 a A;refine zv h (fun h_=> ?_) (fun h_=> ?_)
     ·replace h:=h_;clear h_;refine l3_t B5 ?_;refine s3_t B4 fun u9 k B4=> ?_;obtain ⟨B1,B2,B3,B5⟩:=up4 k B1 B2 B3 B5;obtain ⟨A,X⟩:=axu2 k g4 A X;refine yt 0 B4 rfl ?_;refine ym 1 B4 rfl ?_;refine xg 2 B4 rfl ?_;replace h:=h _ X A;refine Calls.mono h ?_;clear h;rintro e3 w7 ⟨b3,s3,x5,x6,he_,a,h⟩;refine ⟨b3,s3,x5,x6,he_, ?_⟩;clear he_;obtain ⟨B1,B2,B3,B4,B5⟩:=ah5 a B1 B2 B3 B4 B5;obtain ⟨A,X⟩:=axr2 a A;refine s3_t B3 fun u10 k B3=> ?_;obtain ⟨B1,B2,B4,B5⟩:=up4 k B1 B2 B4 B5;obtain ⟨A,X⟩:=axu2 k g3 A X;refine l3_t B3 ?_;replace h:=h _ X A;exact ⟨A,h⟩
     ·replace h:=h_;clear h_;refine yt 0 B4 rfl ?_;refine ym 1 B4 rfl ?_;refine xg 2 B4 rfl ?_;refine Calls.mono h ?_;clear h;rintro e4 w9 ⟨b4,s4,x7,x8,he_,a,h⟩;refine ⟨b4,s4,x7,x8,he_, ?_⟩;clear he_;obtain ⟨B1,B2,B3,B4,B5⟩:=ah5 a B1 B2 B3 B4 B5;obtain ⟨A,X⟩:=axr2 a A;refine s3_t B3 fun u11 k B3=> ?_;obtain ⟨B1,B2,B4,B5⟩:=up4 k B1 B2 B4 B5;obtain ⟨A,X⟩:=axu2 k g3 A X;refine l3_t B3 ?_;replace h:=h _ X A;exact ⟨A,h⟩
theorem P5 (am:Bool) (an:Slc) (aq:Int) (ar:Bool) (au:Slc) (av:Int) (w:World) (R:Ending→World→Prop) (K4:Bool→Slc→Int→Bool→Slc→Int→Bool→Slc→Int→World→Prop) (K8:Bool→Slc→Int→Bool→Slc→Int→Bool→Slc→Int→World→Prop) (K11:Int→Bool→Slc→Int→Bool→Slc→Int→Bool→Slc→Int→World→Prop) (K12:Int→Bool→Slc→Int→Bool→Slc→Int→Bool→Slc→Int→Bool→Slc→World→Prop) (h:xw w w fun w1=>(kI 128 #[uP am an] w1 fun w2 x1=>Ahead w1 w2∧(br (x1==0) (xw w w2 fun w34=>(K4 ar au av am an aq false nSl 0 w34)) (K4 am an aq ar au av false nSl 0 w2)))) (aC:∀ac ad ab ae af aa ag ah ai w_,Ahead w w_→K4 ac ad ab ae af aa ag ah ai w_→kI 128 #[uP ae af] w_ fun w3 x2=>Ahead w_ w3∧(br (x2==0) (kU 104 #[uP ac ad,vi ab] w3 fun w4 b1 s1 x3 x4=>Ahead w3 w4∧(xw w w4 fun w5=>(R (.returned (.tuple #[uD b1 s1 x3,vi x4])) w5))) (br (decide (ab<aa)) (xw w w3 fun w33=>(K8 ae af aa ac ad ab ag ah ai w33)) (K8 ac ad ab ae af aa ag ah ai w3)))) (aD:∀ac ad ab ae af aa ag ah ai w_,Ahead w w_→K8 ac ad ab ae af aa ag ah ai w_→br (decide ((wrap .i64 (ab -aa))>0)) (xw w w_ fun w6=>(kI 129 #[uD ac ad ab] w6 fun w7 x5=>Ahead w6 w7∧(kI 129 #[uD ae af aa] w7 fun w8 x6=>Ahead w7 w8∧(br (decide ((wrap .i64 ((maxI x5 (wrap .i64 (x6+1))) -aa))>67108866)) (xw w w8 fun w9=>(R (.returned (.tuple #[uD (false) nSl (0:Int),vi 3])) w9)) (K11 (wrap .i64 (ab -aa)) ac ad ab ae af aa ag ah ai w8))))) (xw w w_ fun w32=>(K11 (wrap .i64 (ab -aa)) ac ad ab ae af aa ag ah ai w32))) (aE:∀t6 ac ad ab ae af aa ag ah ai w_,Ahead w w_→K11 t6 ac ad ab ae af aa ag ah ai w_→xw w w_ fun w10=>(kS 130 #[ad.v,vi t6] w10 fun w11 s2=>Ahead w10 w11∧(xw w w11 fun w12=>(Calls pr 160 #[.bool ac,s2.v] w12 fun e7 w13=>∃b2:Bool,∃s3:Slc,∃x7:Int,e7= .returned (.tuple #[uP b2 s3,vi x7])∧Ahead w12 w13∧(xw w w13 fun w23=>(K12 x7 ac ad ab ae af aa ag ah ai b2 s3 w23)))))) (aF:∀t8 ac ad ab ae af aa ag ah ai ao ap w_,Ahead w w_→K12 t8 ac ad ab ae af aa ag ah ai ao ap w_→br (t8 !=0) (kU 161 #[uD ac ad ab,uD ae af aa] w_ fun w14 b3 s4 x8 x9=>Ahead w_ w14∧(xw w w14 fun w15=>(R (.returned (.tuple #[uD b3 s4 x8,vi x9])) w15))) (Calls pr 162 #[uP ao ap,uP ae af] w_ fun e9 w16=>∃b4:Bool,∃s5:Slc,∃x10:Int,e9= .returned (.tuple #[uP b4 s5,vi x10])∧Ahead w_ w16∧(br (x10 !=0) (xw w w16 fun w17=>(kU 161 #[uD ac ad ab,uD ae af aa] w17 fun w18 b5 s6 x11 x12=>Ahead w17 w18∧(xw w w18 fun w19=>(R (.returned (.tuple #[uD b5 s6 x11,vi x12])) w19)))) (xw w w16 fun w20=>(kU 104 #[uP b4 s5,vi aa] w20 fun w21 b6 s7 x13 x14=>Ahead w20 w21∧(xw w w21 fun w22=>(R (.returned (.tuple #[uD b6 s7 x13,vi x14])) w22))))))):Calls pr 131 #[uD am an aq,uD ar au av] w (fun e_ w_=>Ahead w w_∧R e_ w_):=by
  refine P6 am an aq ar au av w _ (fun t2 t3 t4 w_=>∃aj:Nat,∃ak:Nat,∃al:Nat,∃ac:Bool,∃ad:Slc,∃ab:Int,∃ae:Bool,∃af:Slc,∃aa:Int,∃ag:Bool,∃ah:Slc,∃ai:Int,t2=⟨aj,0,none⟩∧Blt w_ aj 127 #[Value.bool ac,ad.v,vi ab]∧w.heap.size≤aj∧t3=⟨ak,0,none⟩∧Blt w_ ak 127 #[Value.bool ae,af.v,vi aa]∧w.heap.size≤ak∧t4=⟨al,0,none⟩∧Blt w_ al 27 #[Value.bool ag,ah.v,vi ai]∧w.heap.size≤al∧aj≠ak∧aj≠al∧ak≠al∧Ahead w w_∧K4 ac ad ab ae af aa ag ah ai w_) (fun t2 t3 t4 w_=>∃aj:Nat,∃ak:Nat,∃al:Nat,∃ac:Bool,∃ad:Slc,∃ab:Int,∃ae:Bool,∃af:Slc,∃aa:Int,∃ag:Bool,∃ah:Slc,∃ai:Int,t2=⟨aj,0,none⟩∧Blt w_ aj 127 #[Value.bool ac,ad.v,vi ab]∧w.heap.size≤aj∧t3=⟨ak,0,none⟩∧Blt w_ ak 127 #[Value.bool ae,af.v,vi aa]∧w.heap.size≤ak∧t4=⟨al,0,none⟩∧Blt w_ al 27 #[Value.bool ag,ah.v,vi ai]∧w.heap.size≤al∧aj≠ak∧aj≠al∧ak≠al∧Ahead w w_∧K8 ac ad ab ae af aa ag ah ai w_) (fun t2 t3 t4 t6 w_=>∃aj:Nat,∃ak:Nat,∃al:Nat,∃ac:Bool,∃ad:Slc,∃ab:Int,∃ae:Bool,∃af:Slc,∃aa:Int,∃ag:Bool,∃ah:Slc,∃ai:Int,t2=⟨aj,0,none⟩∧Blt w_ aj 127 #[Value.bool ac,ad.v,vi ab]∧w.heap.size≤aj∧t3=⟨ak,0,none⟩∧Blt w_ ak 127 #[Value.bool ae,af.v,vi aa]∧w.heap.size≤ak∧t4=⟨al,0,none⟩∧Blt w_ al 27 #[Value.bool ag,ah.v,vi ai]∧w.heap.size≤al∧aj≠ak∧aj≠al∧ak≠al∧Ahead w w_∧K11 t6 ac ad ab ae af aa ag ah ai w_) (fun t2 t3 t4 t7 t8 w_=>∃aj:Nat,∃ak:Nat,∃al:Nat,∃ax:Nat,∃ac:Bool,∃ad:Slc,∃ab:Int,∃ae:Bool,∃af:Slc,∃aa:Int,∃ag:Bool,∃ah:Slc,∃ai:Int,∃ao:Bool,∃ap:Slc,t2=⟨aj,0,none⟩∧Blt w_ aj 127 #[Value.bool ac,ad.v,vi ab]∧w.heap.size≤aj∧t3=⟨ak,0,none⟩∧Blt w_ ak 127 #[Value.bool ae,af.v,vi aa]∧w.heap.size≤ak∧t4=⟨al,0,none⟩∧Blt w_ al 27 #[Value.bool ag,ah.v,vi ai]∧w.heap.size≤al∧t7=⟨ax,0,none⟩∧Blt w_ ax 25 #[Value.bool ao,ap.v]∧w.heap.size≤ax∧aj≠ak∧aj≠al∧aj≠ax∧ak≠al∧ak≠ax∧al≠ax∧Ahead w w_∧K12 t8 ac ad ab ae af aa ag ah ai ao ap w_) ?_ ?_ ?_ ?_ ?_
  · have A:Ahead w w:=Ahead.refl w
    have X:Ext w w:=Ext.refl w
    refine zn fun bk1 u1 hb a _ B1=> ?_;have g1:=zj A.size hb;obtain ⟨A,X⟩:=axa2 a A X;refine zn fun bk2 u2 hb a _ B2=> ?_;have g2:=zj A.size hb;have l1_2:=lt1 hb B1;replace B1:=B1.ahead a;obtain ⟨A,X⟩:=axa2 a A X;refine zn fun bk3 u3 hb a _ B3=> ?_;have g3:=zj A.size hb;obtain ⟨_,_⟩:=lt2 hb B1 B2;obtain ⟨B1,B2⟩:=ah2 a B1 B2;obtain ⟨A,X⟩:=axa2 a A X;refine yt 0 B1 rfl ?_;refine ym 1 B1 rfl ?_;replace h:=h _ X A;refine Calls.mono h ?_;clear h;rintro e1 w2 ⟨x1,he_,a,h⟩;refine ⟨x1,he_, ?_⟩;clear he_;obtain ⟨B1,B2,B3⟩:=ah3 a B1 B2 B3;obtain ⟨A,X⟩:=axr2 a A;refine zv h (fun h_=> ?_) (fun h_=> ?_)
    ·replace h:=h_;clear h_;refine l3_t B2 ?_;refine l3_t B1 ?_;refine s3_t B1 fun u4 k B1=> ?_;obtain ⟨B2,B3⟩:=up2 k B2 B3;obtain ⟨A,X⟩:=axu2 k g1 A X;refine s3_t B2 fun u5 k B2=> ?_;obtain ⟨B1,B3⟩:=up2 k B1 B3;obtain ⟨A,X⟩:=axu2 k g2 A X;replace h:=h _ X A;exact ⟨bk1,bk2,bk3,ar,au,av,am,an,aq,false,(⟨none,0,0⟩:Slc),0,rfl,B1,g1,rfl,B2,g2,rfl,B3,g3,(by omega),(by omega),(by omega),A,h⟩
    ·replace h:=h_;clear h_;exact ⟨bk1,bk2,bk3,am,an,aq,ar,au,av,false,(⟨none,0,0⟩:Slc),0,rfl,B1,g1,rfl,B2,g2,rfl,B3,g3,(by omega),(by omega),(by omega),A,h⟩
  · clear h
    rintro t2 t3 t4 w_ ⟨bk1,bk2,bk3,ac,ad,ab,ae,af,aa,ag,ah,ai,rfl,B1,g1,rfl,B2,g2,rfl,B3,g3,n1_2,n1_3,n2_3,A,ay⟩
    have h:=aC ac ad ab ae af aa ag ah ai w_ A ay
    have X:Ext w_ w_:=Ext.refl _
    refine yt 0 B2 rfl ?_;refine ym 1 B2 rfl ?_;refine Calls.mono h ?_;clear h;rintro e2 w3 ⟨x2,he_,a,h⟩;refine ⟨x2,he_, ?_⟩;clear he_;obtain ⟨B1,B2,B3⟩:=ah3 a B1 B2 B3;obtain ⟨A,X⟩:=axr2 a A;refine zv h (fun h_=> ?_) (fun h_=> ?_)
    ·replace h:=h_;clear h_;refine yt 0 B1 rfl ?_;refine ym 1 B1 rfl ?_;refine xg 2 B1 rfl ?_;refine Calls.mono h ?_;clear h;rintro e3 w4 ⟨b1,s1,x3,x4,he_,a,h⟩;refine ⟨b1,s1,x3,x4,he_, ?_⟩;clear he_;obtain ⟨B1,B2,B3⟩:=ah3 a B1 B2 B3;obtain ⟨A,X⟩:=axr2 a A;refine s3_t B3 fun u6 k B3=> ?_;obtain ⟨B1,B2⟩:=up2 k B1 B2;obtain ⟨A,X⟩:=axu2 k g3 A X;refine l3_t B3 ?_;replace h:=h _ X A;exact ⟨A,h⟩
    ·replace h:=h_;clear h_;refine xg 2 B1 rfl ?_;refine xg 2 B2 rfl ?_;refine zv h (fun h_=> ?_) (fun h_=> ?_)
     ·replace h:=h_;clear h_;refine l3_t B2 ?_;refine l3_t B1 ?_;refine s3_t B1 fun u7 k B1=> ?_;obtain ⟨B2,B3⟩:=up2 k B2 B3;obtain ⟨A,X⟩:=axu2 k g1 A X;refine s3_t B2 fun u8 k B2=> ?_;obtain ⟨B1,B3⟩:=up2 k B1 B3;obtain ⟨A,X⟩:=axu2 k g2 A X;replace h:=h _ X A;exact ⟨bk1,bk2,bk3,ae,af,aa,ac,ad,ab,ag,ah,ai,rfl,B1,g1,rfl,B2,g2,rfl,B3,g3,(by omega),(by omega),(by omega),A,h⟩
     ·replace h:=h_;clear h_;exact ⟨bk1,bk2,bk3,ac,ad,ab,ae,af,aa,ag,ah,ai,rfl,B1,g1,rfl,B2,g2,rfl,B3,g3,(by omega),(by omega),(by omega),A,h⟩
  · clear h
    rintro t2 t3 t4 w_ ⟨bk1,bk2,bk3,ac,ad,ab,ae,af,aa,ag,ah,ai,rfl,B1,g1,rfl,B2,g2,rfl,B3,g3,n1_2,n1_3,n2_3,A,az⟩
    have h:=aD ac ad ab ae af aa ag ah ai w_ A az
    have X:Ext w_ w_:=Ext.refl _
    refine xg 2 B1 rfl ?_;refine xg 2 B2 rfl ?_;have aw:=Sp.Ahead.drew w_;obtain ⟨B1,B2,B3⟩:=ah3 aw B1 B2 B3;obtain ⟨A,X⟩:=axa2 aw A X;clear aw;refine zv h (fun h_=> ?_) (fun h_=> ?_)
    ·replace h:=h_;clear h_;refine l3_t B1 ?_;refine l3_t B2 ?_;refine xg 2 B2 rfl ?_;replace h:=h _ X A;refine Calls.mono h ?_;clear h;rintro e4 w7 ⟨x5,he_,a,h⟩;refine ⟨x5,he_, ?_⟩;clear he_;obtain ⟨B1,B2,B3⟩:=ah3 a B1 B2 B3;obtain ⟨A,X⟩:=axr2 a A;refine ⟨a, ?_⟩;refine Calls.mono h ?_;clear h;rintro e5 w8 ⟨x6,he_,a,h⟩;refine ⟨x6,he_, ?_⟩;clear he_;obtain ⟨B1,B2,B3⟩:=ah3 a B1 B2 B3;obtain ⟨A,X⟩:=axr2 a A;refine ⟨a, ?_⟩;refine zv h (fun h_=> ?_) (fun h_=> ?_)
     ·replace h:=h_;clear h_;refine s3_t B3 fun u9 k B3=> ?_;obtain ⟨B1,B2⟩:=up2 k B1 B2;obtain ⟨A,X⟩:=axu2 k g3 A X;refine l3_t B3 ?_;replace h:=h _ X A;exact ⟨A,h⟩
     ·replace h:=h_;clear h_;exact ⟨bk1,bk2,bk3,ac,ad,ab,ae,af,aa,ag,ah,ai,rfl,B1,g1,rfl,B2,g2,rfl,B3,g3,(by omega),(by omega),(by omega),A,h⟩
    ·replace h:=h_;clear h_;replace h:=h _ X A;exact ⟨bk1,bk2,bk3,ac,ad,ab,ae,af,aa,ag,ah,ai,rfl,B1,g1,rfl,B2,g2,rfl,B3,g3,(by omega),(by omega),(by omega),A,h⟩
  · clear h
    rintro t2 t3 t4 t6 w_ ⟨bk1,bk2,bk3,ac,ad,ab,ae,af,aa,ag,ah,ai,rfl,B1,g1,rfl,B2,g2,rfl,B3,g3,n1_2,n1_3,n2_3,A,aA⟩
    have h:=aE t6 ac ad ab ae af aa ag ah ai w_ A aA
    have X:Ext w_ w_:=Ext.refl _
    have aw:=Sp.Ahead.drew w_;obtain ⟨B1,B2,B3⟩:=ah3 aw B1 B2 B3;obtain ⟨A,X⟩:=axa2 aw A X;clear aw;have z1:=B1.lt;have z2:=B2.lt;have z3:=B3.lt;let V_:Nat→Nat→Prop:=fun (q_ k:Nat)=>(k<0∨w_.drew.heap.size≤k)∧0≤k;refine ⟨V_, ?_⟩;have Y_:w_.drew.heap.size≤w_.drew.heap.size:=Nat.le_refl _;refine xp (b:=bk1) (i:=0) (by first|rfl|exact Sp.zz) (fun hv_=>(by replace hv_:_∧_:=hv_;omega)) ?_;refine yt 0 B1 rfl ?_;refine xp (b:=bk1) (i:=1) (by first|rfl|exact Sp.zz) (fun hv_=>(by replace hv_:_∧_:=hv_;omega)) ?_;refine ym 1 B1 rfl ?_;refine ⟨?_, ?_⟩
    ·replace h:=h _ X A;refine Calls.mono h ?_;clear h;rintro e6 w11 ⟨s2,he_,a,h⟩;refine ⟨s2,he_, ?_⟩;clear he_;obtain ⟨B1,B2,B3⟩:=ah3 a B1 B2 B3;obtain ⟨A,X,Y_⟩:=axr3 a A Y_;refine ⟨(Bar.of_ahead a), ?_⟩;refine ⟨?_, ?_⟩
     ·replace h:=h _ X A;refine Calls.mono h ?_;clear h;rintro e7 w13 ⟨b2,s3,x7,he_,a,h⟩;refine ⟨b2,s3,x7,he_, ?_⟩;clear he_;obtain ⟨B1,B2,B3⟩:=ah3 a B1 B2 B3;obtain ⟨A,X,Y_⟩:=axr3 a A Y_;refine zn fun bk4 u10 hb a _ B4=> ?_;have g4:=zj A.size hb;obtain ⟨_,_,_⟩:=lt3 hb B1 B2 B3;have y4:=zj Y_ hb;obtain ⟨B1,B2,B3⟩:=ah3 a B1 B2 B3;obtain ⟨A,X,Y_⟩:=axa3 a A X Y_;refine bb2 a ?_;refine s2_t B4 fun u11 k B4=> ?_;obtain ⟨B1,B2,B3⟩:=up3 k B1 B2 B3;obtain ⟨A,X,Y_⟩:=axu3 k g4 A X Y_;replace h:=h _ X A;refine ⟨bk1,bk2,bk3,bk4,ac,ad,ab,ae,af,aa,ag,ah,ai,b2,s3,rfl,B1,g1,rfl,B2,g2,rfl,B3,g3,rfl,B4,g4, ?_⟩;iterate 6 refine nd ?_
      exact ⟨A,h⟩
     ·refine zn fun bk6 u17 hb a _ B6=> ?_;have g6:=zj A.size hb;obtain ⟨_,_,_⟩:=lt3 hb B1 B2 B3;have y6:=zj Y_ hb;obtain ⟨B1,B2,B3⟩:=ah3 a B1 B2 B3;obtain ⟨A,X,Y_⟩:=axa3 a A X Y_;refine bb2 a ?_;replace h:=h _ X A;refine Calls.mono h ?_;clear h;rintro e12 w25 ⟨b7,s8,x15,he_,a,h⟩;refine ⟨b7,s8,x15,he_, ?_⟩;clear he_;obtain ⟨B1,B2,B3,B6⟩:=ah4 a B1 B2 B3 B6;obtain ⟨A,X,Y_⟩:=axr3 a A Y_;refine s2_t B6 fun u18 k B6=> ?_;obtain ⟨B1,B2,B3⟩:=up3 k B1 B2 B3;obtain ⟨A,X,Y_⟩:=axu3 k g6 A X Y_;replace h:=h _ X A;refine ⟨bk1,bk2,bk3,bk6,ac,ad,ab,ae,af,aa,ag,ah,ai,b7,s8,rfl,B1,g1,rfl,B2,g2,rfl,B3,g3,rfl,B6,g6, ?_⟩;iterate 6 refine nd ?_
      exact ⟨A,h⟩
    ·refine zn fun bk7 u19 hb a _ B7=> ?_;have g7:=zj A.size hb;obtain ⟨_,_,_⟩:=lt3 hb B1 B2 B3;have y7:=zj Y_ hb;obtain ⟨B1,B2,B3⟩:=ah3 a B1 B2 B3;obtain ⟨A,X,Y_⟩:=axa3 a A X Y_;refine bb2 a ?_;replace h:=h _ X A;refine Calls.mono h ?_;clear h;rintro e13 w28 ⟨s9,he_,a,h⟩;refine ⟨s9,he_, ?_⟩;clear he_;obtain ⟨B1,B2,B3,B7⟩:=ah4 a B1 B2 B3 B7;obtain ⟨A,X,Y_⟩:=axr3 a A Y_;refine ⟨(Bar.of_ahead a), ?_⟩;replace h:=h _ X A;refine Calls.mono h ?_;clear h;rintro e14 w30 ⟨b8,s10,x16,he_,a,h⟩;refine ⟨b8,s10,x16,he_, ?_⟩;clear he_;obtain ⟨B1,B2,B3,B7⟩:=ah4 a B1 B2 B3 B7;obtain ⟨A,X,Y_⟩:=axr3 a A Y_;refine s2_t B7 fun u20 k B7=> ?_;obtain ⟨B1,B2,B3⟩:=up3 k B1 B2 B3;obtain ⟨A,X,Y_⟩:=axu3 k g7 A X Y_;replace h:=h _ X A;refine ⟨bk1,bk2,bk3,bk7,ac,ad,ab,ae,af,aa,ag,ah,ai,b8,s10,rfl,B1,g1,rfl,B2,g2,rfl,B3,g3,rfl,B7,g7, ?_⟩;iterate 6 refine nd ?_
     exact ⟨A,h⟩
  · clear h
    rintro t2 t3 t4 t7 t8 w_ ⟨bk1,bk2,bk3,bk4,ac,ad,ab,ae,af,aa,ag,ah,ai,ao,ap,rfl,B1,g1,rfl,B2,g2,rfl,B3,g3,rfl,B4,g4,n1_2,n1_3,n1_4,n2_3,n2_4,n3_4,A,aB⟩
    have h:=aF t8 ac ad ab ae af aa ag ah ai ao ap w_ A aB
    have X:Ext w_ w_:=Ext.refl _
    refine zv h (fun h_=> ?_) (fun h_=> ?_)
    ·replace h:=h_;clear h_;refine l3_t B1 ?_;refine l3_t B2 ?_;refine Calls.mono h ?_;clear h;rintro e8 w14 ⟨b3,s4,x8,x9,he_,a,h⟩;refine ⟨b3,s4,x8,x9,he_, ?_⟩;clear he_;obtain ⟨B1,B2,B3,B4⟩:=ah4 a B1 B2 B3 B4;obtain ⟨A,X⟩:=axr2 a A;refine s3_t B3 fun u12 k B3=> ?_;obtain ⟨B1,B2,B4⟩:=up3 k B1 B2 B4;obtain ⟨A,X⟩:=axu2 k g3 A X;refine l3_t B3 ?_;replace h:=h _ X A;exact ⟨A,h⟩
    ·replace h:=h_;clear h_;refine l2_t B4 ?_;refine yt 0 B2 rfl ?_;refine ym 1 B2 rfl ?_;refine Calls.mono h ?_;clear h;rintro e9 w16 ⟨b4,s5,x10,he_,a,h⟩;refine ⟨b4,s5,x10,he_, ?_⟩;clear he_;obtain ⟨B1,B2,B3,B4⟩:=ah4 a B1 B2 B3 B4;obtain ⟨A,X⟩:=axr2 a A;refine zn fun bk5 u13 hb a _ B5=> ?_;have g5:=zj A.size hb;obtain ⟨_,_,_,_⟩:=lt4 hb B1 B2 B3 B4;obtain ⟨B1,B2,B3,B4⟩:=ah4 a B1 B2 B3 B4;obtain ⟨A,X⟩:=axa2 a A X;refine s2_t B5 fun u14 k B5=> ?_;obtain ⟨B1,B2,B3,B4⟩:=up4 k B1 B2 B3 B4;obtain ⟨A,X⟩:=axu2 k g5 A X;refine zv h (fun h_=> ?_) (fun h_=> ?_)
     ·replace h:=h_;clear h_;refine l3_t B1 ?_;refine l3_t B2 ?_;replace h:=h _ X A;refine Calls.mono h ?_;clear h;rintro e10 w18 ⟨b5,s6,x11,x12,he_,a,h⟩;refine ⟨b5,s6,x11,x12,he_, ?_⟩;clear he_;obtain ⟨B1,B2,B3,B4,B5⟩:=ah5 a B1 B2 B3 B4 B5;obtain ⟨A,X⟩:=axr2 a A;refine s3_t B3 fun u15 k B3=> ?_;obtain ⟨B1,B2,B4,B5⟩:=up4 k B1 B2 B4 B5;obtain ⟨A,X⟩:=axu2 k g3 A X;refine l3_t B3 ?_;replace h:=h _ X A;exact ⟨A,h⟩
     ·replace h:=h_;clear h_;refine l2_t B5 ?_;refine xg 2 B2 rfl ?_;replace h:=h _ X A;refine Calls.mono h ?_;clear h;rintro e11 w21 ⟨b6,s7,x13,x14,he_,a,h⟩;refine ⟨b6,s7,x13,x14,he_, ?_⟩;clear he_;obtain ⟨B1,B2,B3,B4,B5⟩:=ah5 a B1 B2 B3 B4 B5;obtain ⟨A,X⟩:=axr2 a A;refine s3_t B3 fun u16 k B3=> ?_;obtain ⟨B1,B2,B4,B5⟩:=up4 k B1 B2 B4 B5;obtain ⟨A,X⟩:=axu2 k g3 A X;refine l3_t B3 ?_;replace h:=h _ X A;exact ⟨A,h⟩
theorem G7 (aa:Bool) (ab:Slc) (ac:Bool) (ad:Slc) (w:World) (R:Ending→World→Prop) (h:xw w w fun w1=>(Calls pr 172 #[uP aa ab] w1 fun e1 w2=>∃b1:Bool,∃s1:Slc,e1= .returned (uP b1 s1)∧Ahead w1 w2∧(Calls pr 172 #[uP ac ad] w2 fun e2 w3=>∃b2:Bool,∃s2:Slc,e2= .returned (uP b2 s2)∧Ahead w2 w3∧(br (b1==b2) (xw w w3 fun w4=>(Calls pr 94 #[s1.v,s2.v] w4 fun e3 w5=>∃s3:Slc,∃x1:Int,e3= .returned (.tuple #[s3.v,vi x1])∧Ahead w4 w5∧(Calls pr 133 (zD b1 s3 x1) w5 fun e4 w6=>∃b3:Bool,∃s4:Slc,∃x2:Int,e4= .returned (.tuple #[uP b3 s4,vi x2])∧Ahead w5 w6∧(xw w w6 fun w7=>(R (.returned (.tuple #[uP b3 s4,vi x2])) w7))))) (xw w w3 fun w8=>(kI 81 #[s1.v,s2.v] w8 fun w9 x3=>Ahead w8 w9∧(br (decide (x3<0)) (xw w w9 fun w10=>(Calls pr 158 #[s2.v,s1.v] w10 fun e6 w11=>∃s5:Slc,∃x4:Int,e6= .returned (.tuple #[s5.v,vi x4])∧Ahead w10 w11∧(Calls pr 133 (zD b2 s5 x4) w11 fun e7 w12=>∃b4:Bool,∃s6:Slc,∃x5:Int,e7= .returned (.tuple #[uP b4 s6,vi x5])∧Ahead w11 w12∧(xw w w12 fun w13=>(R (.returned (.tuple #[uP b4 s6,vi x5])) w13))))) (Calls pr 158 #[s1.v,s2.v] w9 fun e8 w14=>∃s7:Slc,∃x6:Int,e8= .returned (.tuple #[s7.v,vi x6])∧Ahead w9 w14∧(Calls pr 133 (zD b1 s7 x6) w14 fun e9 w15=>∃b5:Bool,∃s8:Slc,∃x7:Int,e9= .returned (.tuple #[uP b5 s8,vi x7])∧Ahead w14 w15∧(xw w w15 fun w16=>(R (.returned (.tuple #[uP b5 s8,vi x7])) w16))))))))))):Calls pr 162 #[uP aa ab,uP ac ad] w (fun e_ w_=>Ahead w w_∧R e_ w_):=by
  refine G8 aa ab ac ad w _ ?_
  · have A:Ahead w w:=Ahead.refl w
    have X:Ext w w:=Ext.refl w
    refine zn fun bk1 u1 hb a _ B1=> ?_;have g1:=zj A.size hb;obtain ⟨A,X⟩:=axa2 a A X;refine zn fun bk2 u2 hb a _ B2=> ?_;have g2:=zj A.size hb;have l1_2:=lt1 hb B1;replace B1:=B1.ahead a;obtain ⟨A,X⟩:=axa2 a A X;refine zn fun bk3 u3 hb a _ B3=> ?_;have g3:=zj A.size hb;obtain ⟨_,_⟩:=lt2 hb B1 B2;obtain ⟨B1,B2⟩:=ah2 a B1 B2;obtain ⟨A,X⟩:=axa2 a A X;have ae:=Sp.Ahead.drew u3;obtain ⟨B1,B2,B3⟩:=ah3 ae B1 B2 B3;obtain ⟨A,X⟩:=axa2 ae A X;clear ae;have z1:=B1.lt;have z2:=B2.lt;have z3:=B3.lt;let V_:Nat→Nat→Prop:=fun (q_ k:Nat)=>(k=bk1∨k=bk2∨u3.drew.heap.size≤k)∧((q_=0)→k≠bk1)∧((q_=2)→k≠bk2);refine ⟨V_, ?_⟩;have Y_:u3.drew.heap.size≤u3.drew.heap.size:=Nat.le_refl _;refine xp (b:=bk1) (i:=0) (by first|rfl|exact Sp.zz) (fun hv_=>(by replace hv_:_∧_:=hv_;omega)) ?_;refine l2_t B1 ?_;refine xp (b:=bk2) (i:=0) (by first|rfl|exact Sp.zz) (fun hv_=>(by replace hv_:_∧_:=hv_;omega)) ?_;refine l2_t B2 ?_;replace h:=h _ X A;refine Calls.mono h ?_;clear h;rintro e1 w2 ⟨b1,s1,he_,a,h⟩;refine ⟨b1,s1,he_, ?_⟩;clear he_;obtain ⟨B1,B2,B3⟩:=ah3 a B1 B2 B3;obtain ⟨A,X,Y_⟩:=axr3 a A Y_;refine ⟨(Bar.of_ahead a), ?_⟩;refine Calls.mono h ?_;clear h;rintro e2 w3 ⟨b2,s2,he_,a,h⟩;refine ⟨b2,s2,he_, ?_⟩;clear he_;obtain ⟨B1,B2,B3⟩:=ah3 a B1 B2 B3;obtain ⟨A,X,Y_⟩:=axr3 a A Y_;refine s2_t B1 fun u4 k B1=> ?_;obtain ⟨B2,B3⟩:=up2 k B2 B3;obtain ⟨A,X,Y_⟩:=axu3 k g1 A X Y_;refine s2_t B2 fun u5 k B2=> ?_;obtain ⟨B1,B3⟩:=up2 k B1 B3;obtain ⟨A,X,Y_⟩:=axu3 k g2 A X Y_;refine yt 0 B1 rfl ?_;refine yt 0 B2 rfl ?_;refine zv h (fun h_=> ?_) (fun h_=> ?_)
    ·replace h:=h_;clear h_;refine ym 1 B1 rfl ?_;refine ym 1 B2 rfl ?_;replace h:=h _ X A;refine Calls.mono h ?_;clear h;rintro e3 w5 ⟨s3,x1,he_,a,h⟩;refine ⟨s3,x1,he_, ?_⟩;clear he_;obtain ⟨B1,B2,B3⟩:=ah3 a B1 B2 B3;obtain ⟨A,X⟩:=axr2 a A;refine yt 0 B1 rfl ?_;refine Calls.mono h ?_;clear h;rintro e4 w6 ⟨b3,s4,x2,he_,a,h⟩;refine ⟨b3,s4,x2,he_, ?_⟩;clear he_;obtain ⟨B1,B2,B3⟩:=ah3 a B1 B2 B3;obtain ⟨A,X⟩:=axr2 a A;refine s2_t B3 fun u6 k B3=> ?_;obtain ⟨B1,B2⟩:=up2 k B1 B2;obtain ⟨A,X⟩:=axu2 k g3 A X;refine l2_t B3 ?_;replace h:=h _ X A;exact ⟨A,h⟩
    ·replace h:=h_;clear h_;refine ym 1 B1 rfl ?_;refine ym 1 B2 rfl ?_;replace h:=h _ X A;refine Calls.mono h ?_;clear h;rintro e5 w9 ⟨x3,he_,a,h⟩;refine ⟨x3,he_, ?_⟩;clear he_;obtain ⟨B1,B2,B3⟩:=ah3 a B1 B2 B3;obtain ⟨A,X⟩:=axr2 a A;refine zv h (fun h_=> ?_) (fun h_=> ?_)
     ·replace h:=h_;clear h_;refine l2_t B2 ?_;refine l2_t B1 ?_;refine s2_t B1 fun u7 k B1=> ?_;obtain ⟨B2,B3⟩:=up2 k B2 B3;obtain ⟨A,X⟩:=axu2 k g1 A X;refine s2_t B2 fun u8 k B2=> ?_;obtain ⟨B1,B3⟩:=up2 k B1 B3;obtain ⟨A,X⟩:=axu2 k g2 A X;refine ym 1 B1 rfl ?_;refine ym 1 B2 rfl ?_;replace h:=h _ X A;refine Calls.mono h ?_;clear h;rintro e6 w11 ⟨s5,x4,he_,a,h⟩;refine ⟨s5,x4,he_, ?_⟩;clear he_;obtain ⟨B1,B2,B3⟩:=ah3 a B1 B2 B3;obtain ⟨A,X⟩:=axr2 a A;refine yt 0 B1 rfl ?_;refine Calls.mono h ?_;clear h;rintro e7 w12 ⟨b4,s6,x5,he_,a,h⟩;refine ⟨b4,s6,x5,he_, ?_⟩;clear he_;obtain ⟨B1,B2,B3⟩:=ah3 a B1 B2 B3;obtain ⟨A,X⟩:=axr2 a A;refine s2_t B3 fun u9 k B3=> ?_;obtain ⟨B1,B2⟩:=up2 k B1 B2;obtain ⟨A,X⟩:=axu2 k g3 A X;refine l2_t B3 ?_;replace h:=h _ X A;exact ⟨A,h⟩
     ·replace h:=h_;clear h_;refine ym 1 B1 rfl ?_;refine ym 1 B2 rfl ?_;refine Calls.mono h ?_;clear h;rintro e8 w14 ⟨s7,x6,he_,a,h⟩;refine ⟨s7,x6,he_, ?_⟩;clear he_;obtain ⟨B1,B2,B3⟩:=ah3 a B1 B2 B3;obtain ⟨A,X⟩:=axr2 a A;refine yt 0 B1 rfl ?_;refine Calls.mono h ?_;clear h;rintro e9 w15 ⟨b5,s8,x7,he_,a,h⟩;refine ⟨b5,s8,x7,he_, ?_⟩;clear he_;obtain ⟨B1,B2,B3⟩:=ah3 a B1 B2 B3;obtain ⟨A,X⟩:=axr2 a A;refine s2_t B3 fun u10 k B3=> ?_;obtain ⟨B1,B2⟩:=up2 k B1 B2;obtain ⟨A,X⟩:=axu2 k g3 A X;refine l2_t B3 ?_;replace h:=h _ X A;exact ⟨A,h⟩
theorem Tf (aa:Bool) (ac:Slc) (ab:Int) (w:World) (R:Ending→World→Prop) (h:br (ab !=0) (xw w w fun w1=>(R (.returned (.tuple #[uP (false) nSl,vi ab])) w1)) (xw w w fun w2=>(Calls pr 165 #[uP aa ac] w2 fun e1 w3=>∃b1:Bool,∃s1:Slc,∃x1:Int,e1= .returned (.tuple #[uP b1 s1,vi x1])∧Ahead w2 w3∧(xw w w3 fun w4=>(R (.returned (.tuple #[uP b1 s1,vi x1])) w4))))):Calls pr 133 (zD aa ac ab) w (fun e_ w_=>Ahead w w_∧R e_ w_):=by
 refine Tg aa ac ab w _ ?_
 ·have A:Ahead w w:=Ahead.refl w
  have X:Ext w w:=Ext.refl w
  refine zn fun bk1 u1 hb a _ B1=> ?_;have g1:=zj A.size hb;obtain ⟨A,X⟩:=axa2 a A X;refine zv h (fun h_=> ?_) (fun h_=> ?_)
  ·replace h:=h_;clear h_;refine s2_t B1 fun u2 k B1=> ?_;obtain ⟨A,X⟩:=axu2 k g1 A X;refine l2_t B1 ?_;replace h:=h _ X A;exact ⟨A,h⟩
  ·replace h:=h_;clear h_;replace h:=h _ X A;refine Calls.mono h ?_;clear h;rintro e1 w3 ⟨b1,s1,x1,he_,a,h⟩;refine ⟨b1,s1,x1,he_, ?_⟩;clear he_;replace B1:=B1.ahead a;obtain ⟨A,X⟩:=axr2 a A;refine s2_t B1 fun u3 k B1=> ?_;obtain ⟨A,X⟩:=axu2 k g1 A X;refine l2_t B1 ?_;replace h:=h _ X A;exact ⟨A,h⟩
end
section
open Go Go.RowKit Eng Sp Dg L2
namespace Dy
open _root_.Go.Proofs.YtbeiopoejdkheaaGreatDoor.Nat (OwnNil Num Num.bl OwnNil.mono OwnNil.ext OwnNil.rd OwnNil.ahead OwnNil.nil zw xj Yes uf)
open _root_.Go.Proofs.YtbeiopoejdkheaaGreatDoor.Ref (RN RN.nil RN.ext RN.ahead tt v7 uz qh xh qy)
open Sb
def cmpZ (a b:Int):Int:=if a<b then -1 else if a=b then 0 else 1
def dv (z e b:Int):Int:=z*((2^(e -b).toNat:Nat):Int)
def dcmp (z e z' e':Int):Int:=cmpZ (dv z e (min e e')) (dv z' e' (min e e'))
theorem U2 (neg:Bool) (n m:Nat):sg neg n*(m:Int)=sg neg (n*m):=by
 unfold sg;cases neg<;>simp [Int.neg_mul]
theorem M6 (neg:Bool) (n:Nat) (e b:Int):dv (sg neg n) e b=sg neg (n*2^(e -b).toNat):=U2 neg n _
theorem qb (k:Nat):0<2^k:=Nat.pow_pos (by omega)
theorem Pd {n k:Nat} :n*2^k=0↔n=0:=by
 have:=qb k
 constructor
 ·intro h
  rcases Nat.mul_eq_zero.1 h with h|h
  ·exact h
  ·omega
 ·intro h;rw [h,Nat.zero_mul]
theorem Gp (neg:Bool) (n k:Nat):sgn neg (n*2^k)=sgn neg n:=by
 unfold sgn
 by_cases h:n=0
 ·rw [if_pos h,if_pos (Pd.2 h)]
 ·rw [if_neg h,if_neg (fun h'=>h (Pd.1 h'))]
theorem zem (neg neg':Bool) (A B:Nat):cmpZ (sg neg A) (sg neg' B)=if sgn neg A<sgn neg' B then -1 else if sgn neg' B<sgn neg A then 1 else if sgn neg A=0 then 0 else sgn neg A*cmpI A B:=by
 unfold cmpZ sg sgn cmpI
 by_cases hA:A=0<;>by_cases hB:B=0<;>cases neg<;>cases neg'<;>simp [hA,hB]<;>(repeat' split)<;>omega
theorem Hu {A B:Nat} (h:bl A<bl B):A<B:=by
 rcases Nat.lt_or_ge A B with h1|h1
 ·exact h1
 ·have:=yw h1;omega
def calg (s:Int) (n:Nat) (e s':Int) (n':Nat) (e':Int):Int:=
 if s<s' then -1 else if s'<s then 1 else if s=0 then 0 else if e+bl n≠e'+bl n' then (if e+bl n<e'+bl n' then -s else s) else
  if e'<e then s*cmpI (n*2^(e -e').toNat) n' else s*cmpI n (n'*2^(e' -e).toNat)
theorem zek {a b:Nat} (h:a<b):cmpI a b= -1:=if_pos h
theorem zej {a b:Nat} (h:b<a):cmpI a b=1:=by rw [cmpI,if_neg (by omega),if_pos h]
theorem zei (neg:Bool) (n:Nat) (e:Int) (neg':Bool) (n':Nat) (e':Int):calg (sgn neg n) n e (sgn neg' n') n' e'=dcmp (sg neg n) e (sg neg' n') e':=by
 rw [dcmp,M6,M6,zem,Gp,Gp,calg]
 by_cases h1:sgn neg n<sgn neg' n'
 ·rw [if_pos h1,if_pos h1]
 rw [if_neg h1,if_neg h1]
 by_cases h2:sgn neg' n'<sgn neg n
 ·rw [if_pos h2,if_pos h2]
 rw [if_neg h2,if_neg h2]
 by_cases h3:sgn neg n=0
 ·rw [if_pos h3,if_pos h3]
 rw [if_neg h3,if_neg h3]
 have hn:n≠0:=fun h=>h3 (tp.2 h)
 have hn':n'≠0:=fun h=>h3 (by have:=tp (neg:=neg').2 h;omega)
 have b1:=ni (n:=(e -min e e').toNat) hn
 have b2:=ni (n:=(e' -min e e').toNat) hn'
 by_cases h4:e+bl n≠e'+bl n'
 ·rw [if_pos h4]
  by_cases h5:e+bl n<e'+bl n'
  ·rw [if_pos h5,zek (Hu (by omega))];omega
  ·rw [if_neg h5,zej (Hu (by omega))];omega
 ·rw [if_neg h4]
  by_cases h5:e'<e
  ·rw [if_pos h5,show min e e'=e' by omega,Int.sub_self];simp
  ·rw [if_neg h5,show min e e'=e by omega,Int.sub_self];simp
theorem zag (a b:Int): -1≤cmpZ a b∧cmpZ a b≤1:=by unfold cmpZ;split<;>(try split)<;>omega
theorem zck (neg:Bool) (n:Nat): -1≤sgn neg n∧sgn neg n≤1:=by unfold sgn;split<;>(try split)<;>omega
theorem V8 (a b:Nat): -1≤cmpI a b∧cmpI a b≤1:=by unfold cmpI;split<;>(try split)<;>omega
theorem U6 {s c:Int} (hs: -1≤s∧s≤1) (hc: -1≤c∧c≤1): -1≤s*c∧s*c≤1:=by
 have:s= -1∨s=0∨s=1:=by omega
 rcases this with rfl|rfl|rfl<;>omega
theorem U4 {n n' k m:Nat} (h:bl n+k=bl n') (hm:(digs B64 n').length+2≤m):(digs B64 n).length+k/64+1≤m:=by
 have h1:=kj (yb two64 n')
 rw [zu two64] at h1
 have h2:=zw (N:=n) (m:=bl n/64+1) (by omega)
 omega
def far (e:Int):Prop:= -2305843009213693952≤e∧e≤2305843009213693952
theorem vd {w s} {n:Nat} (r:Rd .u64 w s (nn (digs B64 n))) (h:(digs B64 n).length≤2^44):Num w s n:=⟨_,r,h,yb two64 _,zu two64 _⟩
theorem cq {w} {neg neg':Bool} {s} {s':Slc} {n n':Nat} {e e':Int} (r:Rd .u64 w s (nn (digs B64 n))) (r':Rd .u64 w s' (nn (digs B64 n'))) (hl:(digs B64 n).length+2≤2^44) (hl':(digs B64 n').length+2≤2^44) (he:far e) (he':far e'):Calls pr dyadic_compare_id #[.agg (c3 neg s e), .agg (c3 neg' s' e')] w fun en w'=>Ahead w w'∧en= .returned (.int .i64 (dcmp (sg neg n) e (sg neg' n') e')):=by
 unfold far at he he'
 rw [←zei]
 have N1:=vd r (by omega)
 have N2:=vd r' (by omega)
 have hb1:=Num.bl N1
 have hb2:=Num.bl N2
 refine Z1 neg s e neg' s' e' w _ fun w1 x1 a1=>Calls.mono (uk (N1.ahead a1)) ?_
 rintro en w2 ⟨h2,rfl⟩
 refine ⟨_,rfl,h2,Calls.mono (uk (N2.ahead (a1.trans h2))) ?_⟩
 rintro en w3 ⟨h3,rfl⟩
 have hs1:=zck neg n
 unfold calg
 refine ⟨_,rfl,h3,zm (fun h=> ?_) (fun h=>zm (fun h4=> ?_) (fun h4=>zm (fun h5=> ?_) (fun h5=> ?_)))⟩
 ·rw [if_pos (of_decide_eq_true h)]
 ·rw [if_neg (of_decide_eq_false h),if_pos (of_decide_eq_true h4)]
 ·rw [if_neg (of_decide_eq_false h),if_neg (of_decide_eq_false h4),if_pos (eq_of_beq h5)]
 ·rw [if_neg (of_decide_eq_false h),if_neg (of_decide_eq_false h4),if_neg (fun h6=>by rw [h6] at h5;simp at h5)]
  intro w4 x4 a4
  refine Calls.mono (uy (N1.ahead a4) (by omega)) ?_
  rintro en w5 ⟨h5',rfl⟩
  have a5:=a4.trans h5'
  refine ⟨_,rfl,h5',Calls.mono (uy (N2.ahead a5) (by omega)) ?_⟩
  rintro en w6 ⟨h6,rfl⟩
  refine ⟨_,rfl,h6,zm (fun ht=> ?_) (fun ht=>zm (fun hg=> ?_) (fun hg=> ?_))⟩
  ·have ht':e+bl n≠e'+bl n':=fun h=>by rw [h] at ht;simp at ht
   rw [if_pos ht']
   intro w7 x7 a7
   refine Calls.mono (uy (N1.ahead a7) (by omega)) ?_
   rintro en w8 ⟨h8,rfl⟩
   refine ⟨_,rfl,h8,Calls.mono (uy (N2.ahead (a7.trans h8)) (by omega)) ?_⟩
   rintro en w9 ⟨h9,rfl⟩
   refine ⟨_,rfl,h9,zm (fun hl=> ?_) (fun hl=> ?_)⟩
   ·have:=of_decide_eq_true hl
    rw [if_pos (by omega),zp (by omega) (by omega),Int.zero_sub]
   ·have:=of_decide_eq_false hl
    rw [if_neg (by omega)]
  ·have ht':e+bl n=e'+bl n':=by
    have:e+bl n -1=e'+bl n' -1:=by simpa using ht
    omega
   have hg':=of_decide_eq_true hg
   rw [if_neg (fun h=>h ht'),if_pos (by omega)]
   intro w11 x11 a11
   have hk:=U4 (n:=n) (n':=n') (k:=(e -e').toNat) (by omega) hl'
   rw [zp (by omega) (by omega),show e -e'=(((e -e').toNat:Nat):Int) by omega]
   refine Calls.mono (jb (r.ahead a11) hk) ?_
   rintro en w12 ⟨h12,s1,rfl,o1⟩
   have o12:=o1.rd
   have lsh:(digs B64 (n*2^(e -e').toNat)).length≤2^44:=by
    by_cases h0:n=0
    ·rw [h0,Nat.zero_mul,yq];simp
    ·have hb:=ni (n:=(e -e').toNat) h0
     have h1:=kj (yb two64 n')
     rw [zu two64] at h1
     have:=zw (N:=n*2^(e -e').toNat) (m:=(digs B64 n').length) (by omega)
     omega
   refine ⟨_,rfl,h12,Calls.mono (uf (vd o12 lsh) (N2.ahead (a11.trans h12))) ?_⟩
   rintro en w13 ⟨h13,rfl⟩
   refine ⟨_,rfl,h13, ?_⟩
   have hr:=U6 hs1 (V8 (n*2^(e -e').toNat) n')
   rw [zp (by omega) (by omega)]
   rfl
  ·have ht':e+bl n=e'+bl n':=by
    have:e+bl n -1=e'+bl n' -1:=by simpa using ht
    omega
   have hg':=of_decide_eq_false hg
   rw [if_neg (fun h=>h ht'),if_neg (by omega)]
   intro w11 x11 a11
   have hk:=U4 (n:=n') (n':=n) (k:=(e' -e).toNat) (by omega) hl
   rw [zp (by omega) (by omega),show e' -e=(((e' -e).toNat:Nat):Int) by omega]
   refine Calls.mono (jb (r'.ahead a11) hk) ?_
   rintro en w12 ⟨h12,s1,rfl,o1⟩
   have o12:=o1.rd
   have lsh:(digs B64 (n'*2^(e' -e).toNat)).length≤2^44:=by
    by_cases h0:n'=0
    ·rw [h0,Nat.zero_mul,yq];simp
    ·have hb:=ni (n:=(e' -e).toNat) h0
     have h1:=kj (yb two64 n)
     rw [zu two64] at h1
     have:=zw (N:=n'*2^(e' -e).toNat) (m:=(digs B64 n).length) (by omega)
     omega
   refine ⟨_,rfl,h12,Calls.mono (uf (N1.ahead (a11.trans h12)) (vd o12 lsh)) ?_⟩
   rintro en w13 ⟨h13,rfl⟩
   refine ⟨_,rfl,h13, ?_⟩
   have hr:=U6 hs1 (V8 n (n'*2^(e' -e).toNat))
   rw [zp (by omega) (by omega)]
   rfl
end Dy
end
section
open Go Go.RowKit Eng Sp Dg
namespace Dy
theorem P9 {a b:Int} {S:Nat} (h:a*(S:Int)<b*S):a<b:=Int.lt_of_mul_lt_mul_right h (by omega)
theorem Hp {z e b b':Int} (h1:b≤b') (h2:b'≤e):dv z e b=dv z e b'*((2^(b' -b).toNat:Nat):Int):=by
 unfold dv
 rw [Int.mul_assoc]
 congr 1
 rw [←Int.natCast_mul,←Nat.pow_add]
 congr 2
 omega
theorem zc7 {a c:Int} {k:Nat} (hk:0<k):cmpZ (a*(k:Int)) (c*(k:Int))=cmpZ a c:=by
 have h1:a*(k:Int)<c*k↔a<c:=⟨P9,fun h=>Int.mul_lt_mul_of_pos_right h (by omega)⟩
 have h2:a*(k:Int)=c*k↔a=c:=⟨fun h=>Int.eq_of_mul_eq_mul_right (by omega) h,fun h=>by rw [h]⟩
 unfold cmpZ
 simp only [h1,h2]
theorem Cd {z e z' e' b:Int} (h:b≤e) (h':b≤e'):dcmp z e z' e'=cmpZ (dv z e b) (dv z' e' b):=by
 rw [dcmp,Hp (b:=b) (b':=min e e') (by omega) (by omega),Hp (z:=z') (b:=b) (b':=min e e') (by omega) (by omega),zc7 (qb _)]
theorem Ts (e b:Int):dv 0 e b=0:=Int.zero_mul _
theorem qu (neg:Bool):sg neg 0=0:=by cases neg<;>rfl
theorem zf7 (neg:Bool) (x:Nat):sg (nD neg x) (od x)=sg neg (od x):=by
 by_cases h:x=0
 ·subst h;rw [vq,qu,qu]
 ·rw [pw h]
theorem zdx {neg:Bool} {X:Nat} {E b:Int} (h:b≤E):dv (sg (nD neg X) (od X)) (eD X E) b=dv (sg neg X) E b:=by
 rw [zf7]
 by_cases h0:X=0
 ·subst h0;rw [vq,qu,Ts,Ts]
 ·rw [M6,M6,eD,if_neg h0]
  congr 1
  rw [show (E+(tz X:Int) -b).toNat=tz X+(E -b).toNat by omega,Nat.pow_add,←Nat.mul_assoc,Nat.mul_comm (od X),gm]
structure NF (neg:Bool) (n:Nat) (e:Int):Prop where
  s:nD neg n=neg
  o:od n=n
  z:n=0→e=0
theorem NF.of (neg:Bool) (x:Nat) (e:Int):NF (nD neg x) (od x) (eD x e):=
 ⟨zf4 neg x,zf5 x,fun h=>by rw [Yv] at h;rw [h,pu]⟩
end Dy
end
section
open Go Go.RowKit Eng L2
theorem P7 (aa:Bool) (ab:Slc) (ac:Int) (ad:Bool) (ae:Slc) (af:Int) (w:World) (R:Ending→World→Prop) (h:xw w w fun w1=>(kU 127 #[uD aa ab ac] w1 fun w2 b1 s1 x1 x2=>Ahead w1 w2∧(br (x2 !=0) (xw w w2 fun w3=>(R (.returned (.tuple #[uD b1 s1 x1,uD b1 s1 x1,vi x2])) w3)) (xw w w2 fun w4=>(kU 127 #[uD ad ae af] w4 fun w5 b2 s2 x3 x4=>Ahead w4 w5∧(xw w w5 fun w6=>(R (.returned (.tuple #[uD b1 s1 x1,uD b2 s2 x3,vi x4])) w6))))))):Calls pr 99 #[uD aa ab ac,uD ad ae af] w (fun e_ w_=>Ahead w w_∧R e_ w_):=by
 refine P8 aa ab ac ad ae af w _ ?_
 ·have A:Ahead w w:=Ahead.refl w
  have X:Ext w w:=Ext.refl w
  refine zn fun bk1 u1 hb a _ B1=> ?_;have g1:=zj A.size hb;obtain ⟨A,X⟩:=axa2 a A X;refine zn fun bk2 u2 hb a _ B2=> ?_;have g2:=zj A.size hb;have l1_2:=lt1 hb B1;replace B1:=B1.ahead a;obtain ⟨A,X⟩:=axa2 a A X;refine zn fun bk3 u3 hb a _ B3=> ?_;have g3:=zj A.size hb;obtain ⟨_,_⟩:=lt2 hb B1 B2;obtain ⟨B1,B2⟩:=ah2 a B1 B2;obtain ⟨A,X⟩:=axa2 a A X;refine zn fun bk4 u4 hb a _ B4=> ?_;have g4:=zj A.size hb;obtain ⟨_,_,_⟩:=lt3 hb B1 B2 B3;obtain ⟨B1,B2,B3⟩:=ah3 a B1 B2 B3;obtain ⟨A,X⟩:=axa2 a A X;refine l3_t B1 ?_;replace h:=h _ X A;refine Calls.mono h ?_;clear h;rintro e1 w2 ⟨b1,s1,x1,x2,he_,a,h⟩;refine ⟨b1,s1,x1,x2,he_, ?_⟩;clear he_;obtain ⟨B1,B2,B3,B4⟩:=ah4 a B1 B2 B3 B4;obtain ⟨A,X⟩:=axr2 a A;refine zn fun bk5 u5 hb a _ B5=> ?_;have g5:=zj A.size hb;obtain ⟨_,_,_,_⟩:=lt4 hb B1 B2 B3 B4;obtain ⟨B1,B2,B3,B4⟩:=ah4 a B1 B2 B3 B4;obtain ⟨A,X⟩:=axa2 a A X;refine s3_t B5 fun u6 k B5=> ?_;obtain ⟨B1,B2,B3,B4⟩:=up4 k B1 B2 B3 B4;obtain ⟨A,X⟩:=axu2 k g5 A X;refine zv h (fun h_=> ?_) (fun h_=> ?_)
  ·replace h:=h_;clear h_;have ag:=Sp.Ahead.drew u6;obtain ⟨B1,B2,B3,B4,B5⟩:=ah5 ag B1 B2 B3 B4 B5;obtain ⟨A,X⟩:=axa2 ag A X;clear ag;have z1:=B1.lt;have z2:=B2.lt;have z3:=B3.lt;have z4:=B4.lt;have z5:=B5.lt;let V_:Nat→Nat→Prop:=fun (q_ k:Nat)=>(k=bk3∨k=bk4∨u6.drew.heap.size≤k)∧0≤k;refine ⟨V_, ?_⟩;have Y_:u6.drew.heap.size≤u6.drew.heap.size:=Nat.le_refl _;refine xp (b:=bk5) (i:=0) (by first|rfl|exact Sp.zz) (fun hv_=>(by replace hv_:_∧_:=hv_;omega)) ?_;refine l3_t B5 ?_;refine xp (b:=bk5) (i:=0) (by first|rfl|exact Sp.zz) (fun hv_=>(by replace hv_:_∧_:=hv_;omega)) ?_;refine l3_t B5 ?_;refine s3_t B3 fun u7 k B3=> ?_;obtain ⟨B1,B2,B4,B5⟩:=up4 k B1 B2 B4 B5;obtain ⟨A,X,Y_⟩:=axu3 k g3 A X Y_;refine ⟨(k.bar (V:=V_ 1) (by show _∧_;omega)), ?_⟩;refine s3_t B4 fun u8 k B4=> ?_;obtain ⟨B1,B2,B3,B5⟩:=up4 k B1 B2 B3 B5;obtain ⟨A,X,Y_⟩:=axu3 k g4 A X Y_;refine l3_t B3 ?_;refine l3_t B4 ?_;replace h:=h _ X A;exact ⟨A,h⟩
  ·replace h:=h_;clear h_;refine l3_t B2 ?_;replace h:=h _ X A;refine Calls.mono h ?_;clear h;rintro e2 w5 ⟨b2,s2,x3,x4,he_,a,h⟩;refine ⟨b2,s2,x3,x4,he_, ?_⟩;clear he_;obtain ⟨B1,B2,B3,B4,B5⟩:=ah5 a B1 B2 B3 B4 B5;obtain ⟨A,X⟩:=axr2 a A;refine zn fun bk6 u9 hb a _ B6=> ?_;have g6:=zj A.size hb;obtain ⟨_,_,_,_,_⟩:=lt5 hb B1 B2 B3 B4 B5;obtain ⟨B1,B2,B3,B4,B5⟩:=ah5 a B1 B2 B3 B4 B5;obtain ⟨A,X⟩:=axa2 a A X;refine s3_t B6 fun u10 k B6=> ?_;obtain ⟨B1,B2,B3,B4,B5⟩:=up5 k B1 B2 B3 B4 B5;obtain ⟨A,X⟩:=axu2 k g6 A X;have ag:=Sp.Ahead.drew u10;obtain ⟨B1,B2,B3,B4,B5,B6⟩:=ah6 ag B1 B2 B3 B4 B5 B6;obtain ⟨A,X⟩:=axa2 ag A X;clear ag;have z1:=B1.lt;have z2:=B2.lt;have z3:=B3.lt;have z4:=B4.lt;have z5:=B5.lt;have z6:=B6.lt;let V_:Nat→Nat→Prop:=fun (q_ k:Nat)=>(k=bk3∨k=bk4∨u10.drew.heap.size≤k)∧0≤k;refine ⟨V_, ?_⟩;have Y_:u10.drew.heap.size≤u10.drew.heap.size:=Nat.le_refl _;refine xp (b:=bk5) (i:=0) (by first|rfl|exact Sp.zz) (fun hv_=>(by replace hv_:_∧_:=hv_;omega)) ?_;refine l3_t B5 ?_;refine xp (b:=bk6) (i:=0) (by first|rfl|exact Sp.zz) (fun hv_=>(by replace hv_:_∧_:=hv_;omega)) ?_;refine l3_t B6 ?_;refine s3_t B3 fun u11 k B3=> ?_;obtain ⟨B1,B2,B4,B5,B6⟩:=up5 k B1 B2 B4 B5 B6;obtain ⟨A,X,Y_⟩:=axu3 k g3 A X Y_;refine ⟨(k.bar (V:=V_ 1) (by show _∧_;omega)), ?_⟩;refine s3_t B4 fun u12 k B4=> ?_;obtain ⟨B1,B2,B3,B5,B6⟩:=up5 k B1 B2 B3 B5 B6;obtain ⟨A,X,Y_⟩:=axu3 k g4 A X Y_;refine l3_t B3 ?_;refine l3_t B4 ?_;replace h:=h _ X A;exact ⟨A,h⟩
theorem Px (aa:Bool) (ab:Slc) (ac:Int) (ad:Bool) (ae:Slc) (af:Int) (w:World) (R:Ending→World→Prop) (h:xw w w fun w1=>(kU 106 #[uD aa ab ac,uD ad ae af,vi (-1)] w1 fun w2 b1 s1 x1 x2=>Ahead w1 w2∧(xw w w2 fun w3=>(R (.returned (.tuple #[uD b1 s1 x1,vi x2])) w3)))):Calls pr 70 #[uD aa ab ac,uD ad ae af] w (fun e_ w_=>Ahead w w_∧R e_ w_):=by
 refine Py aa ab ac ad ae af w _ ?_
 ·have A:Ahead w w:=Ahead.refl w
  have X:Ext w w:=Ext.refl w
  refine zn fun bk1 u1 hb a _ B1=> ?_;have g1:=zj A.size hb;obtain ⟨A,X⟩:=axa2 a A X;refine zn fun bk2 u2 hb a _ B2=> ?_;have g2:=zj A.size hb;have l1_2:=lt1 hb B1;replace B1:=B1.ahead a;obtain ⟨A,X⟩:=axa2 a A X;refine zn fun bk3 u3 hb a _ B3=> ?_;have g3:=zj A.size hb;obtain ⟨_,_⟩:=lt2 hb B1 B2;obtain ⟨B1,B2⟩:=ah2 a B1 B2;obtain ⟨A,X⟩:=axa2 a A X;refine l3_t B1 ?_;refine l3_t B2 ?_;replace h:=h _ X A;refine Calls.mono h ?_;clear h;rintro e1 w2 ⟨b1,s1,x1,x2,he_,a,h⟩;refine ⟨b1,s1,x1,x2,he_, ?_⟩;clear he_;obtain ⟨B1,B2,B3⟩:=ah3 a B1 B2 B3;obtain ⟨A,X⟩:=axr2 a A;refine s3_t B3 fun u4 k B3=> ?_;obtain ⟨B1,B2⟩:=up2 k B1 B2;obtain ⟨A,X⟩:=axu2 k g3 A X;refine l3_t B3 ?_;replace h:=h _ X A;exact ⟨A,h⟩
theorem Pv (aa:Bool) (ab:Slc) (ac:Int) (ad:Bool) (ae:Slc) (af:Int) (w:World) (R:Ending→World→Prop) (h:xw w w fun w1=>(kU 106 #[uD aa ab ac,uD ad ae af,vi 1] w1 fun w2 b1 s1 x1 x2=>Ahead w1 w2∧(xw w w2 fun w3=>(R (.returned (.tuple #[uD b1 s1 x1,vi x2])) w3)))):Calls pr 71 #[uD aa ab ac,uD ad ae af] w (fun e_ w_=>Ahead w w_∧R e_ w_):=by
 refine Pw aa ab ac ad ae af w _ ?_
 ·have A:Ahead w w:=Ahead.refl w
  have X:Ext w w:=Ext.refl w
  refine zn fun bk1 u1 hb a _ B1=> ?_;have g1:=zj A.size hb;obtain ⟨A,X⟩:=axa2 a A X;refine zn fun bk2 u2 hb a _ B2=> ?_;have g2:=zj A.size hb;have l1_2:=lt1 hb B1;replace B1:=B1.ahead a;obtain ⟨A,X⟩:=axa2 a A X;refine zn fun bk3 u3 hb a _ B3=> ?_;have g3:=zj A.size hb;obtain ⟨_,_⟩:=lt2 hb B1 B2;obtain ⟨B1,B2⟩:=ah2 a B1 B2;obtain ⟨A,X⟩:=axa2 a A X;refine l3_t B1 ?_;refine l3_t B2 ?_;replace h:=h _ X A;refine Calls.mono h ?_;clear h;rintro e1 w2 ⟨b1,s1,x1,x2,he_,a,h⟩;refine ⟨b1,s1,x1,x2,he_, ?_⟩;clear he_;obtain ⟨B1,B2,B3⟩:=ah3 a B1 B2 B3;obtain ⟨A,X⟩:=axr2 a A;refine s3_t B3 fun u4 k B3=> ?_;obtain ⟨B1,B2⟩:=up2 k B1 B2;obtain ⟨A,X⟩:=axu2 k g3 A X;refine l3_t B3 ?_;replace h:=h _ X A;exact ⟨A,h⟩
end
section
open Go Go.RowKit Eng Sp Dg L2
namespace Dy
open _root_.Go.Proofs.YtbeiopoejdkheaaGreatDoor.Nat (OwnNil Num Num.bl OwnNil.mono OwnNil.ext OwnNil.rd OwnNil.ahead OwnNil.nil zw xj Yes)
open _root_.Go.Proofs.YtbeiopoejdkheaaGreatDoor.Ref (RN RN.nil RN.ext RN.ahead xh qy)
open Sb
theorem pt {a b:Int} :cmpZ a b<0↔a<b:=by unfold cmpZ;split<;>(try split)<;>omega
theorem qr {a b:Int} :0<cmpZ a b↔b<a:=by unfold cmpZ;split<;>(try split)<;>omega
theorem Zs {a b:Int} :cmpZ a b≤0↔a≤b:=by unfold cmpZ;split<;>(try split)<;>omega
theorem Cc {a b:Int} :0≤cmpZ a b↔b≤a:=by unfold cmpZ;split<;>(try split)<;>omega
def twC (e e':Int):Int:=if wi e then if wi e' then 0 else 80 else 80
theorem zds {e e':Int} (h:twC e e'=0):wi e∧wi e':=by
 unfold twC at h
 split at h
 ·split at h
  ·exact ⟨by assumption,by assumption⟩
  ·omega
 ·omega
theorem dg {w} {neg neg':Bool} {s} {s':Slc} {x x':Nat} {e e':Int} (hT:Tab w) (h:Num w s x) (h':Num w s' x'):Calls pr dyadic_two_id #[.agg (c3 neg s e), .agg (c3 neg' s' e')] w fun en w'=>Ahead w w'∧∃b1 s1 x1 b2 s2 x2,en= .returned (.tuple #[.agg (c3 b1 s1 x1), .agg (c3 b2 s2 x2), .int .i64 (twC e e')])∧(twC e e'=0→b1=nD neg x∧x1=eD x e∧b2=nD neg' x'∧x2=eD x' e'∧OwnNil w.heap.size w' s1 (digs B64 (od x))∧OwnNil w.heap.size w' s2 (digs B64 (od x'))):=by
 refine P7 neg s e neg' s' e' w _ fun w1 X1 a1=>Calls.mono (qe (hT.ahead a1) (h.ahead a1)) ?_
 rintro en w2 ⟨h2,s1,rfl,o1⟩
 have a2:=a1.trans h2
 refine ⟨_,_,_,_,rfl,h2,zm (fun hw=> ?_) (fun hw=> ?_)⟩
 ·have hw':¬wi e:=fun h=>by rw [if_pos h] at hw;simp at hw
  have hc:twC e e'=80:=if_neg hw'
  intro w3 X3 a3
  rw [hc,if_neg hw',if_neg hw',if_neg hw']
  exact ⟨_,_,_,_,_,_,rfl,fun h=>by omega⟩
 ·have hw':wi e:=by
   by_cases h:wi e
   ·exact h
   ·rw [if_neg h] at hw;simp at hw
  rw [if_pos hw'] at o1
  rw [if_pos hw',if_pos hw']
  intro w4 X4 a4
  refine Calls.mono (qe (hT.ahead a4) (h'.ahead a4)) ?_
  rintro en w5 ⟨h5,s2,rfl,o2⟩
  refine ⟨_,_,_,_,rfl,h5,fun w6 X6 a6=> ?_⟩
  have hc:twC e e'=if wi e' then 0 else 80:=if_pos hw'
  rw [hc]
  refine ⟨_,_,_,_,_,_,rfl,fun h0=> ?_⟩
  have hw2:wi e':=by
   by_cases h:wi e'
   ·exact h
   ·rw [if_neg h] at h0;omega
  rw [if_pos hw2] at o2
  rw [if_pos hw2,if_pos hw2]
  exact ⟨rfl,rfl,rfl,rfl,(((o1.ext X4).ahead h5).ext X6).mono a1.size,(o2.ext X6).mono a4.size⟩
theorem zby {w s} {x:Nat} {e:Int} (h:Num w s x) (he:wi e):far (eD x e):=by
 have:=zbw h he
 unfold far;omega
theorem ti {w} {neg neg':Bool} {s} {s':Slc} {x x':Nat} {e e':Int} (hT:Tab w) (h:Num w s x) (h':Num w s' x') (hl:(digs B64 x).length+2≤2^44) (hl':(digs B64 x').length+2≤2^44):Calls pr dyadic_Compare_id #[.agg (c3 neg s e), .agg (c3 neg' s' e')] w fun en w'=>Ahead w w'∧en= .returned (.tuple #[.int .i64 (if twC e e'=0 then dcmp (sg (nD neg x) (od x)) (eD x e) (sg (nD neg' x') (od x')) (eD x' e') else 0), .int .i64 (twC e e')]):=by
 refine Zz neg s e neg' s' e' w _ fun w1 X1 a1=>Calls.mono (dg (hT.ahead a1) (h.ahead a1) (h'.ahead a1)) ?_
 rintro en w2 ⟨h2,b1,s1,x1,b2,s2,x2,rfl,hh⟩
 refine ⟨_,_,_,_,_,_,_,rfl,h2,zm (fun hc=> ?_) (fun hc=> ?_)⟩
 ·have hc':twC e e'≠0:=by simpa using hc
  rw [if_neg hc']
  exact fun w3 X3 a3=>rfl
 ·have hc':twC e e'=0:=by simpa using hc
  obtain ⟨rfl,rfl,rfl,rfl,o1,o2⟩:=hh hc'
  obtain ⟨hw,hw'⟩:=zds hc'
  rw [if_pos hc',hc']
  intro w4 X4 a4
  have l1:=xh two64 (ms x)
  have l2:=xh two64 (ms x')
  refine Calls.mono (cq (o1.ext X4).rd (o2.ext X4).rd (by omega) (by omega) (zby h hw) (zby h' hw')) ?_
  rintro en w5 ⟨h5,rfl⟩
  exact ⟨_,rfl,h5,rfl⟩
theorem zfs {neg:Bool} {x:Nat} {e pos m:Int} (h:wi e) (hp:wi pos) (hm:okM m):rdC neg x e pos m=tC (rX (nD neg x) (od x) (eD x e) pos m) (rE (od x) (eD x e) pos):=by
 rw [rdC,if_pos h,if_pos hp,if_pos hm]
end Dy
end
section
open Go Go.RowKit Eng Sp Dg L2
namespace Dy
open _root_.Go.Proofs.YtbeiopoejdkheaaGreatDoor.Nat (OwnNil Num Num.bl OwnNil.mono OwnNil.ext OwnNil.rd OwnNil.ahead OwnNil.nil zw xj Yes)
open _root_.Go.Proofs.YtbeiopoejdkheaaGreatDoor.Ref (RN RN.nil RN.ext RN.ahead tt xh qy)
open Sb
structure NZ (z e:Int):Prop where
  o:od z.natAbs=z.natAbs
  z:z=0→e=0
theorem NF.nz {neg} {n:Nat} {e:Int} (h:NF neg n e):NZ (sg neg n) e:=
 ⟨by rw [qa];exact h.o,fun h0=>h.z (by have:=congrArg Int.natAbs h0;rw [qa] at this;simpa using this)⟩
theorem NF.zb {neg} {n:Nat} {e:Int} (h:NF neg n e):Dy.zb (sg neg n)=neg:=by rw [zd1,h.s]
theorem zfe (z e b:Int):dv (-z) e b= -dv z e b:=Int.neg_mul _ _
theorem zfd (x y e b:Int):dv (x+y) e b=dv x e b+dv y e b:=Int.add_mul _ _ _
end Dy
end
section
open Go Go.RowKit Eng Sp Dg L2
namespace Dy
open _root_.Go.Proofs.YtbeiopoejdkheaaGreatDoor.Nat (ldN ldNf stF stFf mkF Fill OwnNil Num Num.bl Num.ext OwnNil.mono OwnNil.ext OwnNil.rd OwnNil.ahead OwnNil.nil yn zw xj bigC xc leftC jp Ret pq ka uf subC)
open _root_.Go.Proofs.YtbeiopoejdkheaaGreatDoor.Ref (RN xh)
open Sb
structure Vl (z E b v:Int):Prop where
  nz:NZ z E
  le:b≤E
  val:dv z E b=v
theorem Vl.told {neg:Bool} {X:Nat} {E b v:Int} (hb:b≤E) (h0:b≤0) (h:dv (sg neg X) E b=v):Vl (sg (nD neg X) (od X)) (eD X E) b v:=by
 refine ⟨(NF.of neg X E).nz,by unfold eD;split<;>omega, ?_⟩
 rw [zdx hb,h]
theorem Ce {z z' E E' b b':Int} (h:b≤E) (h':b'≤E'):dv (z*z') (E+E') (b+b')=dv z E b*dv z' E' b':=by
 show z*z'*_=(z*_)*(z'*_)
 rw [show (E+E' -(b+b')).toNat=(E -b).toNat+(E' -b').toNat by omega,Nat.pow_add]
 push_cast
 ac_rfl
theorem zci (n m:Bool) (x y:Nat):sg (n !=m) (x*y)=sg n x*sg m y:=by
 unfold sg
 cases n<;>cases m<;>simp [Int.neg_mul,Int.mul_neg]
end Dy
end
section
open Go Go.RowKit Eng Sp Dg
namespace Mul
open _root_.Go.Proofs.YtbeiopoejdkheaaGreatDoor.Nat (ldN ldNf stN mkN Fill mkF stF stFf Num OwnNil add64 sub64)
theorem zdn (x y o cr:Nat) (hx:x<B64) (hy:y<B64) (ho:o<B64) (hc:cr<B64):(o+(x*y % B64+cr) % B64) % B64+B64*(x*y/B64+(x*y % B64+cr)/B64+(o+(x*y % B64+cr) % B64)/B64)=o+x*y+cr∧x*y/B64+(x*y % B64+cr)/B64+(o+(x*y % B64+cr) % B64)/B64<B64:=by
 have hB:=B64v
 have h1:=Nat.mod_add_div (x*y) B64
 have h2:=Nat.mod_add_div (x*y % B64+cr) B64
 have h3:=Nat.mod_add_div (o+(x*y % B64+cr) % B64) B64
 have hxy:x*y≤(B64 -1)*(B64 -1):=Nat.mul_le_mul (by omega) (by omega)
 generalize (o+(x*y % B64+cr) % B64) % B64=s at*
 generalize (o+(x*y % B64+cr) % B64)/B64=c2 at*
 generalize (x*y % B64+cr) % B64=lo2 at*
 generalize (x*y % B64+cr)/B64=c1 at*
 generalize x*y % B64=lo at*
 generalize x*y/B64=hi at*
 generalize x*y=p at*
 have e:s+B64*(hi+c1+c2)=o+p+cr:=by rw [Nat.mul_add,Nat.mul_add];omega
 refine ⟨e, ?_⟩
 rcases Nat.lt_or_ge (hi+c1+c2) B64 with h|h
 ·exact h
 ·exfalso
  have h5:=Nat.mul_le_mul_left B64 h
  have h6:(B64 -1)*(B64 -1)+2*B64=B64*B64+1:=by decide
  clear h1 h2 h3
  generalize (B64 -1)*(B64 -1)=Q at*
  generalize B64*B64=BB at*
  generalize B64*(hi+c1+c2)=T at*
  omega
theorem F6 {w a b} {la lb:List Nat} (ha:Rd .u64 w a (nn la)) (hb:Rd .u64 w b (nn lb)) (oa:ok B64 la) (ob:ok B64 lb) (nab:la.length+lb.length≤2^45):Calls pr mul_school_id #[a.v,b.v] w fun e w'=>Ahead w w'∧∃s l,e= .returned (Slc.v s)∧OwnNil w.heap.size w' s l∧l.length=la.length+lb.length∧ok B64 l∧val B64 l=val B64 la*val B64 lb:=by
 have hB:=B64v
 have hna:a.n=la.length:=by rw [ha.n,nn_length]
 have hnb:b.n=lb.length:=by rw [hb.n,nn_length]
 refine Md a b w _
  (fun t1 out t20 t21 t22 w'=>t1=b∧t20=a∧t21=(la.length:Int)∧Ahead w w'∧∃(i:Nat) (l:List Nat),t22=(i:Int)∧i≤la.length∧Owr .u64 tU64 w' out (nn l) w.heap.size∧out.c≤maxLen∧l.length=la.length+lb.length∧ok B64 l∧
   (∀j,i+lb.length≤j→j<l.length→l.getD j 0=0)∧val B64 l=val B64 (la.take i)*val B64 lb)
  (fun _ _ _ n i _=>(n -i).toNat)
  (fun o1 o5 o20 o21 o22 ow t1 out t6 t7 t8 t20 t21 t22 t27 t28 t29 w'=>o21=t21∧o22=t22∧t1=b∧t20=a∧t21=(la.length:Int)∧t27=b∧t28=(lb.length:Int)∧Ahead w w'∧∃(i k cr:Nat) (l:List Nat),t6=(i:Int)∧t22=(i:Int)∧i<la.length∧t7=((la.getD i 0:Nat):Int)∧
   t8=(cr:Int)∧cr<B64∧t29=(k:Int)∧k≤lb.length∧Owr .u64 tU64 w' out (nn l) w.heap.size∧out.c≤maxLen∧l.length=la.length+lb.length∧ok B64 l∧
   (∀j,i+lb.length≤j→j<l.length→l.getD j 0=0)∧val B64 l+cr*B64^(i+k)=val B64 (la.take i)*val B64 lb+la.getD i 0*val B64 (lb.take k)*B64^i)
  (fun _ _ _ _ _ _ _ _ _ _ _ _ _ _ _ n k _=>(n -k).toNat) ?_ ?_ ?_
 ·rw [hna,hnb,zp (by omega) (by omega)]
  refine mkN (by omega) (by omega) ?_
  intro c w1 hc ho h1 hs1
  refine ⟨rfl,rfl,rfl,h1,0,_,rfl,Nat.zero_le _,ho,by rw [hc];unfold maxLen;omega,by rw [List.length_replicate];omega,yr (by omega) _,fun j h2 h3=> ?_,by rw [xn];simp [val]⟩
  rw [List.length_replicate] at h3
  simp [List.getD_eq_getElem?_getD,List.getElem?_replicate,h3]
 ·rintro t1 out t20 t21 t22 w1 ⟨rfl,rfl,rfl,h1,i,l,rfl,hi,ho,hoc,hl,ol,hz,hv⟩
  refine zm (fun hlt=> ?_) (fun hge=> ?_)
  ·have hi':i<la.length:=by simp at hlt;omega
   refine ldN (ha.ahead h1) (by omega) (by omega) ?_
   rw [Int.toNat_natCast]
   exact ⟨rfl,rfl,rfl,rfl,rfl,rfl,by rw [hnb],h1,i,0,0,l,rfl,rfl,hi',rfl,rfl,by omega,rfl,Nat.zero_le _,ho,hoc,hl,ol,hz,by simp [val,hv]⟩
  ·have hi':i=la.length:=by simp at hge;omega
   subst hi'
   exact ⟨h1,out,l,rfl, .inr ⟨_,Nat.le_refl _,hoc,ho⟩,hl,ol,by rw [hv,List.take_length]⟩
 ·rintro o1 o5 o20 o21 o22 ow _ t1 out t6 t7 t8 t20 t21 t22 t27 t28 t29 w1 ⟨rfl,rfl,rfl,rfl,rfl,rfl,rfl,h1,i,k,cr,l,rfl,rfl,hi,rfl,rfl,hcr,rfl,hk,ho,hoc,hl,ol,hz,hv⟩
  have hx:=yi oa (by omega:0<B64) i
  refine zm (fun hlt=> ?_) (fun hge=> ?_)
  ·have hk':k<lb.length:=by simp at hlt;omega
   have e8:IntKind.i64.wrap ((k:Int)+1)=((k+1:Nat):Int):=by rw [zp (by omega) (by omega)];omega
   have hy:=yi ob (by omega:0<B64) k
   have hoo:=yi ol (by omega:0<B64) (i+k)
   refine ldN (hb.ahead h1) (by omega) (by omega) ?_
   rw [Int.toNat_natCast]
   refine Calls.mono (Tryz.bits_Mul64 _ _ (by omega) (by omega) _) ?_
   rintro e w4 ⟨rfl,rfl⟩
   refine ⟨_,_,rfl, ?_⟩
   try dsimp only
   rw [←B64v]
   refine add64 (c:=0) (by omega) ?_
   rw [zp (x:=(i:Int)+(k:Int)) (by omega) (by omega),show (i:Int)+(k:Int)=((i+k:Nat):Int) by omega]
   refine ldN ho.rd (by omega) (by omega) ?_
   rw [Int.toNat_natCast]
   refine add64 (c:=0) (by omega) ?_
   refine stO ho (by omega) (by omega) ?_
   intro w9 ho9 hon9
   rw [Int.toNat_natCast] at ho9
   obtain ⟨r1,r2⟩:=zdn (la.getD i 0) (lb.getD k 0) (l.getD (i+k) 0) cr hx hy hoo hcr
   simp only [Nat.add_zero] at ho9⊢
   have vs:=kb (B:=B64) l (i+k) ((l.getD (i+k) 0+(la.getD i 0*lb.getD k 0 % B64+cr) % B64) % B64) (by omega)
   have tk:=yj lb k (B:=B64)
   have hsB:(l.getD (i+k) 0+(la.getD i 0*lb.getD k 0 % B64+cr) % B64) % B64<B64:=Nat.mod_lt _ (by omega)
   generalize (l.getD (i+k) 0+(la.getD i 0*lb.getD k 0 % B64+cr) % B64) % B64=s at*
   generalize la.getD i 0*lb.getD k 0/B64=hi' at*
   generalize (la.getD i 0*lb.getD k 0 % B64+cr)/B64=c1 at*
   generalize (l.getD (i+k) 0+(la.getD i 0*lb.getD k 0 % B64+cr) % B64)/B64=c2 at*
   have ec:IntKind.u64.wrap (IntKind.u64.wrap ((hi':Int)+(c1:Int))+(c2:Int))=((hi'+c1+c2:Nat):Int):=by
    rw [yd (x:=(hi':Int)+c1) (by omega) (by omega),yd (by omega) (by omega)];omega
   rw [ec,e8]
   refine ⟨⟨by trivial,by trivial,by trivial,by trivial,by trivial,by trivial,by trivial,hon9.ahead h1 (Nat.le_refl _),i,k+1,_,_,rfl,rfl,hi,rfl,rfl,r2,rfl,hk',ho9,hoc,by simpa using hl,xb ol hsB,fun j h2 h3=> ?_, ?_⟩,by omega⟩
   ·rw [List.length_set] at h3
    rw [xd _ _ _ _ (by omega),if_neg (by omega)]
    exact hz j h2 h3
   ·rw [tk,show i+(k+1)=i+k+1 by omega,Nat.pow_succ]
    have e1:la.getD i 0*(val B64 (lb.take k)+B64^k*lb.getD k 0)*B64^i=la.getD i 0*val B64 (lb.take k)*B64^i+B64^(i+k)*(la.getD i 0*lb.getD k 0):=by
     rw [Nat.mul_add,Nat.add_mul,Nat.pow_add];congr 1;ac_rfl
    rw [e1,←Nat.add_assoc,←hv]
    generalize la.getD i 0*lb.getD k 0=xy at*
    generalize l.getD (i+k) 0=o at*
    generalize B64^(i+k)=P at*
    have e2:P*s+(hi'+c1+c2)*(P*B64)=P*o+P*xy+cr*P:=by
     have f1:P*(s+B64*(hi'+c1+c2))=P*s+(hi'+c1+c2)*(P*B64):=by rw [Nat.mul_add];congr 1;ac_rfl
     have f2:P*(o+xy+cr)=P*o+P*xy+cr*P:=by rw [Nat.mul_add,Nat.mul_add,Nat.mul_comm P cr]
     rw [←f1,r1,f2]
    omega
  ·have hk':k=lb.length:=by simp at hge;omega
   subst hk'
   have e8:IntKind.i64.wrap ((i:Int)+1)=((i+1:Nat):Int):=by rw [zp (by omega) (by omega)];omega
   rw [hnb,zp (x:=(i:Int)+((lb.length:Nat):Int)) (by omega) (by omega),show (i:Int)+((lb.length:Nat):Int)=((i+lb.length:Nat):Int) by omega]
   refine stO ho (by omega) (by omega) ?_
   intro w9 ho9 hon9
   rw [Int.toNat_natCast] at ho9
   have hzero:=hz (i+lb.length) (Nat.le_refl _) (by omega)
   refine ⟨⟨rfl,rfl,rfl,hon9.ahead h1 (Nat.le_refl _),i+1,_,e8,hi,ho9,hoc,by simpa using hl,xb ol hcr,fun j h2 h3=> ?_, ?_⟩,by rw [e8];omega⟩
   ·rw [List.length_set] at h3
    rw [xd _ _ _ _ (by omega),if_neg (by omega)]
    exact hz j (by omega) h3
   ·have vs:=kb (B:=B64) l (i+lb.length) cr (by omega)
    rw [hzero,Nat.mul_zero,Nat.add_zero] at vs
    rw [vs,Nat.mul_comm (B64^(i+lb.length)),hv,List.take_length,yj,Nat.add_mul]
    congr 1
    ac_rfl
end Mul
end
section
open Go Go.RowKit Eng Sp Dg
namespace Mul
open _root_.Go.Proofs.YtbeiopoejdkheaaGreatDoor.Nat (ldN ldNf stN mkN Fill mkF stF stFf Num OwnNil add64 sub64 tr yn)
theorem Qa {w a} {l:List Nat} (h:Rd .u64 w a (nn l)) (ol:ok B64 l) (ll:l.length≤2^46) (k:Nat):Calls pr mul_part_id #[a.v, .int .i64 0, .int .i64 (k:Int)] w fun e w'=>w'=w∧∃s,e= .returned (Slc.v s)∧Rd .u64 w s (nn (digs B64 (val B64 (l.take k))))∧(digs B64 (val B64 (l.take k))).length≤k:=by
 refine Calls.mono (Pf h ol ll (f:=0) (t:=(k:Int)) (by omega) (by simp) (by omega)) ?_
 rintro e w' ⟨rfl,s,rfl,hr⟩
 have e1:(l.drop (min (0:Int).toNat l.length)).take (min ((k:Int)).toNat l.length -min (0:Int).toNat l.length)=l.take k:=by
  simp
 rw [e1] at hr
 exact ⟨rfl,s,rfl,hr,Nat.le_trans (tr (vr ol k)) (by simp;omega)⟩
theorem T9 {w a} {l:List Nat} (h:Rd .u64 w a (nn l)) (ol:ok B64 l) (ll:l.length≤2^46) (k:Nat) (n:Nat) (hn:n=l.length):Calls pr mul_part_id #[a.v, .int .i64 (k:Int), .int .i64 (n:Int)] w fun e w'=>w'=w∧∃s,e= .returned (Slc.v s)∧Rd .u64 w s (nn (digs B64 (val B64 (l.drop k))))∧(digs B64 (val B64 (l.drop k))).length≤l.length -k:=by
 refine Calls.mono (Pf h ol ll (f:=(k:Int)) (t:=(n:Int)) (by omega) (by simp;omega) (by omega)) ?_
 rintro e w' ⟨rfl,s,rfl,hr⟩
 have e1:(l.drop (min ((k:Int)).toNat l.length)).take (min ((n:Int)).toNat l.length -min ((k:Int)).toNat l.length)=l.drop k:=by
  rw [hn]
  simp
  rw [Nat.min_def];split
  ·rw [List.take_of_length_le (by simp)]
  ·rw [List.drop_of_length_le (Nat.le_refl _),List.drop_of_length_le (by omega)];simp
 rw [e1] at hr
 exact ⟨rfl,s,rfl,hr,Nat.le_trans (tr (jj ol k)) (by simp)⟩
def Res (w:World) (N m:Nat) (e:Ending) (w':World):Prop:=Ahead w w'∧∃s l,e= .returned (Slc.v s)∧OwnNil w.heap.size w' s l∧l.length≤m∧ok B64 l∧val B64 l=N
theorem kara (A B C D P:Nat):A*C+((A+B)*(C+D) -A*C -B*D)*P+B*D*(P*P)=(A+P*B)*(C+P*D):=by
 have h1:(A+B)*(C+D)=A*C+A*D+B*C+B*D:=by rw [Nat.add_mul,Nat.mul_add,Nat.mul_add];omega
 have h2:(A+B)*(C+D) -A*C -B*D=A*D+B*C:=by rw [h1];omega
 rw [h2,Nat.add_mul (A*D),Nat.mul_add (A+P*B),Nat.add_mul A,Nat.add_mul A]
 have e1:A*(P*D)=A*D*P:=by ac_rfl
 have e2:P*B*C=B*C*P:=by ac_rfl
 have e3:P*B*(P*D)=B*D*(P*P):=by ac_rfl
 rw [e1,e2,e3]
 omega
theorem Fi:∀(n:Nat) (w:World) (a:Slc) (la:List Nat) (ha:Rd .u64 w a (nn la)) (oa:ok B64 la) (b:Slc) (lb:List Nat) (hb:Rd .u64 w b (nn lb)) (ob:ok B64 lb) (cut:Int) (hc0:4≤cut) (hc1:cut≤9223372036854775807) (hsz:la.length+lb.length+4≤2^44) (hn:la.length+lb.length≤n),Calls pr mul_halved_id #[a.v,b.v, .int .i64 cut] w (Res w (val B64 la*val B64 lb) (la.length+lb.length+1)):=by
 have hB:=B64v
 intro n
 induction n using Nat.strongRecOn with
 |ind n ih=>
 intro w a la ha oa b lb hb ob cut hc0 hc1 hsz hn
 have hna:a.n=la.length:=by rw [ha.n,nn_length]
 have hnb:b.n=lb.length:=by rw [hb.n,nn_length]
 refine Mc a b cut w _ ?_
 have key:∀m,m<la.length+lb.length→∀(w:World) (a:Slc) (la:List Nat) (ha:Rd .u64 w a (nn la)) (oa:ok B64 la) (b:Slc) (lb:List Nat) (hb:Rd .u64 w b (nn lb)) (ob:ok B64 lb),
   la.length+lb.length+4≤2^44→la.length+lb.length≤m→Calls pr mul_halved_id #[a.v,b.v, .int .i64 cut] w (Res w (val B64 la*val B64 lb) (la.length+lb.length+1)):=
  fun m hm w a la ha oa b lb hb ob h1 h2=>ih m (by omega) w a la ha oa b lb hb ob cut hc0 hc1 h1 h2
 clear ih hn
 refine zm (fun hlt=> ?_) (fun hge=> ?_)
 have hle:la.length≤lb.length:=by simp at hlt;omega
 clear hlt
 obtain ⟨p,e⟩:∃p,p=b:=⟨_,rfl⟩
 subst e
 obtain ⟨q,e⟩:∃q,q=a:=⟨_,rfl⟩
 subst e
 obtain ⟨lp,e⟩:∃lp,lp=lb:=⟨_,rfl⟩
 subst e
 obtain ⟨lq,e⟩:∃lq,lq=la:=⟨_,rfl⟩
 subst e
 rw [Nat.mul_comm,Nat.add_comm lq.length lp.length]
 rw [Nat.add_comm lq.length lp.length] at hsz key
 have hp:=hb
 have hq:=ha
 have op:=ob
 have oq:=oa
 have hnp:=hnb
 have hnq:=hna
 clear ha hb oa ob hna hnb
 rotate_left 1
 have hle:lb.length≤la.length:=by simp at hge;omega
 clear hge
 obtain ⟨p,e⟩:∃p,p=a:=⟨_,rfl⟩
 subst e
 obtain ⟨q,e⟩:∃q,q=b:=⟨_,rfl⟩
 subst e
 obtain ⟨lp,e⟩:∃lp,lp=la:=⟨_,rfl⟩
 subst e
 obtain ⟨lq,e⟩:∃lq,lq=lb:=⟨_,rfl⟩
 subst e
 have hp:=ha
 have hq:=hb
 have op:=oa
 have oq:=ob
 have hnp:=hna
 have hnq:=hnb
 clear ha hb oa ob hna hnb
 rotate_left 1
 all_goals
  have hXY:val B64 lp*val B64 lq<B64^(lp.length+lq.length+1):=by
   have h1:=xa op
   have h2:=xa oq
   have h3:val B64 lp*val B64 lq<B64^(lp.length+lq.length):=by
    rw [Nat.pow_add];exact Nat.mul_lt_mul_of_lt_of_lt h1 h2
   exact Nat.lt_of_lt_of_le h3 (Nat.pow_le_pow_right (by omega) (by omega))
  refine zm (fun hs=> ?_) (fun hs=> ?_)
  ·refine Calls.mono (F6 hp hq op oq (by omega)) ?_
   rintro e w1 ⟨h1,s,l,rfl,ho,hl,ol,hv⟩
   exact ⟨_,rfl,h1,s,l,rfl,ho,by omega,ol,hv⟩
  ·have hq4:4≤lq.length:=by simp at hs;omega
   have ek:IntKind.i64.wrap (Int.tdiv (IntKind.i64.wrap ((p.n:Int)+1)) 2)=(((lp.length+1)/2:Nat):Int):=by
    rw [zp (x:=(p.n:Int)+1) (by omega) (by omega),Int.tdiv_eq_ediv_of_nonneg (by omega),zp (by omega) (by omega)];omega
   have em:IntKind.i64.wrap (IntKind.i64.wrap ((p.n:Int)+(q.n:Int))+1)=((lp.length+lq.length+1:Nat):Int):=by
    rw [zp (x:=(p.n:Int)+(q.n:Int)) (by omega) (by omega),zp (by omega) (by omega)];omega
   rw [ek,em]
   generalize hk:(lp.length+1)/2=k at*
   have hX:val B64 lp=val B64 (lp.take k)+B64^k*val B64 (lp.drop k):=xi lp k (by omega)
   refine zm (fun hu=> ?_) (fun hu=> ?_)
   ·
    refine mkN (by omega) (by omega) ?_
    intro c w2 hcc ho2 h2 hs2
    have hlc:(List.replicate ((lp.length+lq.length+1:Nat):Int).toNat 0).length=lp.length+lq.length+1:=by rw [List.length_replicate];omega
    have hvc:val B64 (List.replicate ((lp.length+lq.length+1:Nat):Int).toNat 0)=0:=xn _
    have olc:ok B64 (List.replicate ((lp.length+lq.length+1:Nat):Int).toNat 0):=yr (by omega) _
    generalize List.replicate ((lp.length+lq.length+1:Nat):Int).toNat 0=C0 at*
    refine Calls.mono (Qa (hp.ahead h2) op (by omega) k) ?_
    rintro e w3 ⟨rfl,s3,rfl,r3,l3⟩
    refine ⟨_,rfl,Calls.mono (key (k+lq.length) (by omega) _ _ _ r3 (yb two64 _) _ _ (hq.ahead h2) oq (by omega) (by omega)) ?_⟩
    rintro e w4 ⟨h4,s4,L4,rfl,o4,n4,k4,v4⟩
    rw [zu two64] at v4
    have hpos:0<B64^k:=Nat.pow_pos (by omega)
    have hsum:val B64 lp*val B64 lq=val B64 (lp.take k)*val B64 lq+val B64 (lp.drop k)*val B64 lq*B64^k:=by
     rw [hX,Nat.add_mul];congr 1;ac_rfl
    refine ⟨_,rfl,Calls.mono (pn (at_:=0) (ho2.ahead h4) o4.rd (Cr o4 (by omega)) olc k4 (by omega) (by omega) (Nat.zero_le _) ?_) ?_⟩
    ·rw [hvc,v4,hlc,Nat.pow_zero,Nat.mul_one,Nat.zero_add]
     exact Nat.lt_of_le_of_lt (by rw [hsum];exact Nat.le_add_right _ _) hXY
    rintro e w5 ⟨rfl,hon5,l5,o5,n5,k5,v5⟩
    have h5:Ahead w w5:=hon5.ahead (h2.trans h4) (Nat.le_refl _)
    refine ⟨rfl, ?_⟩
    rw [hnp]
    refine Calls.mono (T9 (hp.ahead h5) op (by omega) k _ rfl) ?_
    rintro e w6 ⟨rfl,s5,rfl,r5,l5'⟩
    refine ⟨_,rfl,Calls.mono (key (lp.length -k+lq.length) (by omega) _ _ _ r5 (yb two64 _) _ _ (hq.ahead h5) oq (by omega) (by omega)) ?_⟩
    rintro e w7 ⟨h7,s6,L6,rfl,o6,n6,k6,v6⟩
    rw [zu two64] at v6
    have hlt5:=o5.lt
    refine ⟨_,rfl,Calls.mono (pn (at_:=k) (o5.ahead h7) o6.rd (Cr o6 (by omega)) k5 k6 (by omega) (by omega) (by omega) ?_) ?_⟩
    ·rw [v5,v6,n5,hlc,hvc,v4,Nat.pow_zero,Nat.mul_one,Nat.zero_add,←hsum]
     exact hXY
    rintro e w8 ⟨rfl,hon8,l8,o8,n8,k8,v8⟩
    refine ⟨rfl,hon8.ahead (h5.trans h7) (Nat.le_refl _),c,l8,rfl, .inr ⟨_,Nat.le_refl _,by rw [hcc];unfold maxLen;omega,o8⟩,by omega,k8, ?_⟩
    rw [v8,v5,v6,hvc,v4,Nat.pow_zero,Nat.mul_one,Nat.zero_add,hsum]
   ·have hu':k<lq.length:=by simp at hu;omega
    have hY:val B64 lq=val B64 (lq.take k)+B64^k*val B64 (lq.drop k):=xi lq k (by omega)
    refine Calls.mono (Qa hp op (by omega) k) ?_
    rintro e w9 ⟨rfl,al,rfl,ral,nal⟩
    refine ⟨_,rfl, ?_⟩
    try dsimp only
    rw [hnp]
    refine Calls.mono (T9 hp op (by omega) k _ rfl) ?_
    rintro e w10 ⟨rfl,ah,rfl,rah,nah⟩
    refine ⟨_,rfl,Calls.mono (Qa hq oq (by omega) k) ?_⟩
    rintro e w11 ⟨rfl,bl',rfl,rbl,nbl⟩
    refine ⟨_,rfl, ?_⟩
    try dsimp only
    rw [hnq]
    refine Calls.mono (T9 hq oq (by omega) k _ rfl) ?_
    rintro e w12 ⟨rfl,bh,rfl,rbh,nbh⟩
    have kal:=yb two64 (val B64 (lp.take k))
    have kah:=yb two64 (val B64 (lp.drop k))
    have kbl:=yb two64 (val B64 (lq.take k))
    have kbh:=yb two64 (val B64 (lq.drop k))
    have val1:=zu two64 (val B64 (lp.take k))
    have val2:=zu two64 (val B64 (lp.drop k))
    have val3:=zu two64 (val B64 (lq.take k))
    have val4:=zu two64 (val B64 (lq.drop k))
    generalize val B64 (lp.take k)=A at*
    generalize val B64 (lp.drop k)=B at*
    generalize val B64 (lq.take k)=C at*
    generalize val B64 (lq.drop k)=D at*
    refine ⟨_,rfl,Calls.mono (key (k+k) (by omega) _ _ _ ral kal _ _ rbl kbl (by omega) (by omega)) ?_⟩
    rintro e w13 ⟨h13,s11,L11,rfl,o11,n11,k11,v11⟩
    refine ⟨_,rfl,Calls.mono (key (lp.length -k+(lq.length -k)) (by omega) _ _ _ (rah.ahead h13) kah _ _ (rbh.ahead h13) kbh (by omega) (by omega)) ?_⟩
    rintro e w14 ⟨h14,s12,L12,rfl,o12,n12,k12,v12⟩
    have h014:=h13.trans h14
    refine ⟨_,rfl,Calls.mono (G5 (ral.ahead h014) (rah.ahead h014) kal kah (by omega) (by omega)) ?_⟩
    rintro e w15 ⟨h15,s13,L13,rfl,o13,n13,k13,v13⟩
    refine ⟨_,rfl,Calls.mono (yn o13.rd (by omega) k13) ?_⟩
    rintro e w16 ⟨h16,s14,rfl,o14⟩
    have h016:=(h014.trans h15).trans h16
    refine ⟨_,rfl,Calls.mono (G5 (rbl.ahead h016) (rbh.ahead h016) kbl kbh (by omega) (by omega)) ?_⟩
    rintro e w17 ⟨h17,s15,L15,rfl,o15,n15,k15,v15⟩
    refine ⟨_,rfl,Calls.mono (yn o15.rd (by omega) k15) ?_⟩
    rintro e w18 ⟨h18,s16,rfl,o16⟩
    have h018:=(h016.trans h17).trans h18
    have d13:=tr k13
    have d15:=tr k15
    refine ⟨_,rfl,Calls.mono (key (k+1+(k+1)) (by omega) _ _ _ ((o14.ahead h17).ahead h18).rd (yb two64 _) _ _ o16.rd (yb two64 _) (by omega) (by omega)) ?_⟩
    rintro e w19 ⟨h19,s17,L17,rfl,o17,n17,k17,v17⟩
    rw [zu two64,zu two64,v13,v15,val1,val2,val3,val4] at v17
    rw [val1,val3] at v11
    rw [val2,val4] at v12
    have h019:=h018.trans h19
    have hAC:A*C+B*D≤(A+B)*(C+D):=by
     rw [Nat.add_mul,Nat.mul_add,Nat.mul_add];omega
    have h1419:=((((h15.trans h16).trans h17).trans h18).trans h19)
    have o11':=(o11.ahead h14).ahead h1419
    have o12':=o12.ahead h1419
    refine ⟨_,rfl,Calls.mono (Pb o17.rd o11'.rd k17 k11 (by omega) (by omega) (by rw [v17,v11];omega)) ?_⟩
    rintro e w20 ⟨h20,s18,L18,rfl,o18,n18,k18,v18⟩
    refine ⟨_,rfl,Calls.mono (Pb o18.rd (o12'.ahead h20).rd k18 k12 (by omega) (by omega) (by rw [v18,v17,v11,v12];omega)) ?_⟩
    rintro e w21 ⟨h21,s19,L19,rfl,o19,n19,k19,v19⟩
    rw [v18,v17,v11,v12] at v19
    have h021:=(h019.trans h20).trans h21
    have hsz21:=h021.size
    refine ⟨_,rfl,mkN (by omega) (by omega) ?_⟩
    intro c w22 hcc ho22 h22 hs22
    have hlc:(List.replicate ((lp.length+lq.length+1:Nat):Int).toNat 0).length=lp.length+lq.length+1:=by rw [List.length_replicate];omega
    have hvc:val B64 (List.replicate ((lp.length+lq.length+1:Nat):Int).toNat 0)=0:=xn _
    have olc:ok B64 (List.replicate ((lp.length+lq.length+1:Nat):Int).toNat 0):=yr (by omega) _
    generalize List.replicate ((lp.length+lq.length+1:Nat):Int).toNat 0=C0 at*
    have r11:=((o11'.ahead h20).ahead h21).rd
    have r12:=((o12'.ahead h20).ahead h21).rd
    have r19:=o19.rd
    have hsum:=kara A B C D (B64^k)
    rw [←hX,←hY] at hsum
    have f11:=Ze r11 (Nat.le_refl w21.heap.size)
    have f12:=Ze r12 (Nat.le_refl w21.heap.size)
    have f19:=Ze r19 (Nat.le_refl w21.heap.size)
    have hpw:B64^(2*k)=B64^k*B64^k:=by rw [Nat.two_mul,Nat.pow_add]
    refine Calls.mono (pn (at_:=0) ho22 (r11.ahead h22) f11 olc k11 (by omega) (by omega) (Nat.zero_le _) ?_) ?_
    ·rw [hvc,v11,hlc,Nat.pow_zero,Nat.mul_one,Nat.zero_add]
     exact Nat.lt_of_le_of_lt (by rw [←hsum];omega) hXY
    rintro e w23 ⟨rfl,hon23,l23,o23,n23,k23,v23⟩
    rw [hvc,v11,Nat.pow_zero,Nat.mul_one,Nat.zero_add] at v23
    refine ⟨rfl,Calls.mono (pn (at_:=k) o23 (hon23.rd (r19.ahead h22) f19) f19 k23 k19 (by omega) (by omega) (by omega) ?_) ?_⟩
    ·rw [v23,v19,n23,hlc]
     exact Nat.lt_of_le_of_lt (by rw [←hsum];omega) hXY
    rintro e w24 ⟨rfl,hon24,l24,o24,n24,k24,v24⟩
    rw [v23,v19] at v24
    have hon:=hon23.trans hon24
    have e2k:IntKind.i64.wrap (2*((k:Nat):Int))=((2*k:Nat):Int):=by rw [zp (by omega) (by omega)];omega
    rw [e2k]
    refine ⟨rfl,Calls.mono (pn (at_:=2*k) o24 (hon.rd (r12.ahead h22) f12) f12 k24 k12 (by omega) (by omega) (by omega) ?_) ?_⟩
    ·rw [v24,v12,n24,n23,hlc,hpw,hsum]
     exact hXY
    rintro e w25 ⟨rfl,hon25,l25,o25,n25,k25,v25⟩
    rw [v24,v12,hpw,hsum] at v25
    exact ⟨rfl,(hon.trans hon25).ahead (h021.trans h22) hsz21,c,l25,rfl, .inr ⟨_,hsz21,by rw [hcc];unfold maxLen;omega,o25⟩,by omega,k25,v25⟩
end Mul
end
section
open Go Go.RowKit Eng Sp Dg
namespace Mul
open _root_.Go.Proofs.YtbeiopoejdkheaaGreatDoor.Nat (ldN ldNf stN mkN Num OwnNil tr yn us Ret bigC xc xf zw Yes)
theorem jx {w s} {l:List Nat} (h:Rd .u64 w s (nn l)) (hl:l.length≤2^44) (ol:ok B64 l):Calls pr mul_fits_id #[s.v] w (Ret w (bigC (val B64 l)) (val B64 l)):=by
 have hd:=tr ol
 refine Fk s w _ (Calls.mono (yn h hl ol) ?_)
 rintro e w1 ⟨h1,t,rfl,ho⟩
 refine ⟨_,rfl,Calls.mono (us ho.rd (by omega) (yb two64 _)) ?_⟩
 rintro e w2 ⟨rfl,rfl⟩
 rw [zu two64]
 refine ⟨_,rfl,zm (fun hb=> ?_) (fun hb=> ?_)⟩
 ·have hc:bigC (val B64 l)=3:=by rw [bigC,if_neg (by simp at hb;omega)]
  rw [hc]
  exact ⟨h1,_,rfl,by rw [if_neg (by omega)];exact OwnNil.nil⟩
 ·have hc:bigC (val B64 l)=0:=by rw [bigC,if_pos (by simp at hb;omega)]
  rw [hc]
  exact ⟨h1,_,rfl,by rw [if_pos rfl];exact ho⟩
theorem nh {x y:Nat} (hx:x≠0) (hy:y≠0):bl x+bl y -1≤bl (x*y):=by
 have h1:=(tc hx).1
 have h2:=(tc hy).1
 have p1:=vf hx
 have p2:=vf hy
 have h3:=Nat.mul_le_mul h1 h2
 rw [←Nat.pow_add] at h3
 rcases Nat.lt_or_ge (bl (x*y)) (bl x+bl y -1) with h|h
 ·exfalso
  have h4:=qc.1 (show bl (x*y)≤bl x -1+(bl y -1) by omega)
  omega
 ·exact h
theorem zak {w a b} {x y:Nat} (ha:Num w a x) (hb:Num w b y):Calls pr mul_great_id #[a.v,b.v] w fun e w'=>w'=w∧∃c:Bool,e= .returned (.bool c)∧(c=true↔x≠0∧y≠0∧67108864<bl x+bl y -1):=by
 have bx:=ha.bl
 have by':=hb.bl
 refine Hx a b w _ (Calls.mono (Nat.xe ha) ?_)
 rintro e w1 ⟨rfl,rfl⟩
 refine ⟨_,rfl,Calls.mono (Nat.xe hb) ?_⟩
 rintro e w2 ⟨rfl,rfl⟩
 have zx:bl x=0↔x=0:=⟨fun h=>by rcases Nat.eq_zero_or_pos x with h1|h1;exact h1;have:=vf (n:=x) (by omega);omega,fun h=>by rw [h,xm]⟩
 have zy:bl y=0↔y=0:=⟨fun h=>by rcases Nat.eq_zero_or_pos y with h1|h1;exact h1;have:=vf (n:=y) (by omega);omega,fun h=>by rw [h,xm]⟩
 refine ⟨_,rfl,zm (fun h=>zm (fun h'=> ?_) (fun h'=> ?_)) (fun h=> ?_)⟩
 ·have h1:0<bl x:=by simp at h;omega
  have h2:0<bl y:=by simp at h';omega
  rw [zp (x:=(bl x:Int)+(bl y:Int)) (by omega) (by omega),zp (by omega) (by omega)]
  refine ⟨rfl,_,rfl, ?_⟩
  simp only [decide_eq_true_eq]
  constructor
  ·intro h3
   exact ⟨fun e=>by have:=zx.2 e;omega,fun e=>by have:=zy.2 e;omega,by omega⟩
  ·rintro ⟨_,_,h3⟩
   omega
 ·have h2:bl y=0:=by simp at h';omega
  exact ⟨rfl,_,rfl,by simp [zy.1 h2]⟩
 ·have h2:bl x=0:=by simp at h;omega
  exact ⟨rfl,_,rfl,by simp [zx.1 h2]⟩
theorem m7 {w a b} {x y:Nat} (ha:Num w a x) (hb:Num w b y) (la:(digs B64 x).length+16≤2^44) (lb:(digs B64 y).length+16≤2^44):Calls pr mul_Mul_id #[a.v,b.v] w (Ret w (bigC (x*y)) (x*y)):=by
 obtain ⟨l,ra,na,oa,rfl⟩:=ha
 obtain ⟨m,rb,nb,ob,rfl⟩:=hb
 refine zap a b w _ ?_
 refine jd a b w _ (Calls.mono (yn ra na oa) ?_)
 rintro e w1 ⟨h1,s,rfl,os⟩
 refine ⟨_,rfl,Calls.mono (yn (rb.ahead h1) nb ob) ?_⟩
 rintro e w2 ⟨h2,t,rfl,ot⟩
 have h12:=h1.trans h2
 have rs:=(os.ahead h2).rd
 have rt:=ot.rd
 have ns:Num w2 s (val B64 l):=⟨_,rs,by omega,yb two64 _,zu two64 _⟩
 have nt:Num w2 t (val B64 m):=⟨_,rt,by omega,yb two64 _,zu two64 _⟩
 generalize val B64 l=x at*
 generalize val B64 m=y at*
 refine ⟨_,rfl,Calls.mono (zak ns nt) ?_⟩
 rintro e w3 ⟨rfl,c,rfl,hc⟩
 refine ⟨_,rfl,zm (fun h=> ?_) (fun h=> ?_)⟩
 ·obtain ⟨h3,h4,h5⟩:=hc.1 h
  have:=nh h3 h4
  have hcc:bigC (x*y)=3:=by rw [bigC,if_neg (by omega)]
  rw [hcc]
  exact ⟨_,_,rfl,h12,_,rfl,by rw [if_neg (by omega)];exact OwnNil.nil⟩
 ·have hsz:(digs B64 x).length+(digs B64 y).length+16≤2^44:=by
   by_cases hx:x=0
   ·subst hx;rw [yq];simp;omega
   ·by_cases hy:y=0
    ·subst hy;rw [yq];simp;omega
    ·have hbl:bl x+bl y -1≤67108864:=by
      rcases Nat.lt_or_ge 67108864 (bl x+bl y -1) with h6|h6
      ·have:=hc.2 ⟨hx,hy,h6⟩;rw [h] at this;cases this
      ·exact h6
     have p1:=vf hx
     have p2:=vf hy
     have:=zw (N:=x) (m:=2^21) (by omega)
     have:=zw (N:=y) (m:=2^21) (by omega)
     omega
  refine Hv s t w3 _ (Calls.mono (Fi _ w3 s _ rs (yb two64 x) t _ rt (yb two64 y) 40 (by omega) (by omega) (by omega) (Nat.le_refl _)) ?_)
  rintro e w4 ⟨h4,u,L,rfl,ou,nu,ku,vu⟩
  rw [zu two64,zu two64] at vu
  refine ⟨_,rfl,_,rfl,Calls.mono (jx ou.rd (by omega) ku) ?_⟩
  try dsimp only
  rw [vu]
  rintro e w5 ⟨h5,v,rfl,ov⟩
  have hsz:=(h12.trans h4).size
  exact ⟨_,_,rfl,_,_,rfl,(h12.trans h4).trans h5,_,rfl,ov.mono hsz⟩
end Mul
end
section
open Go Go.RowKit Eng
open _root_.Go.IntKind (wrap)
theorem Fa (aa:Bool) (ab:Slc) (ac:Bool) (ad:Slc) (w:World) (R:Ending→World→Prop) (h:newC w #[.bool aa,ab.v] 25 fun ad1 w1=>newC w1 #[.bool ac,ad.v] 25 fun ad2 w2=>newC w2 #[.bool false,nSl.v] 25 fun ad3 w3=>ldS (ad1.add 1) w3 fun s1=>ldS (ad2.add 1) w3 fun s2=>Calls pr 79 #[s1.v,s2.v] w3 fun e1 w4=>∃s3:Slc,∃x1:Int,e1= .returned (.tuple #[s3.v,vi x1])∧(ldB ad1 w4 fun b1=>ldB ad2 w4 fun b2=>Calls pr 133 (zD (!(b1==b2)) s3 x1) w4 fun e2 w5=>∃b3:Bool,∃s4:Slc,∃x2:Int,e2= .returned (.tuple #[uP b3 s4,vi x2])∧(xt2 ad3 (.bool b3) s4.v w5 fun w7=>ld2 ad3 w7 fun b4 s5=>R (.returned (.tuple #[uP b4 s5,vi x2])) w7))):Calls pr 103 #[uP aa ab,uP ac ad] w R:=by
 refine zk (fun _=>none) (by kernel_rfl) Tryz.func103 rfl ?_ ?_
 ·refine kcast h ?_;kernel_rfl
 ·exact (za rfl (ze (za rfl (ze (za rfl (ze (zg trivial)))))))
theorem P0 (aa:Bool) (ab:Slc) (ac:Int) (ad:Bool) (ae:Slc) (af:Int) (w:World) (R:Ending→World→Prop) (h:newC w (zD aa ab ac) 27 fun ad1 w1=>newC w1 (zD ad ae af) 27 fun ad2 w2=>newC w2 (zD false nSl 0) 27 fun ad3 w3=>ld3 ad1 w3 fun b1 s1 x1=>ld3 ad2 w3 fun b2 s2 x2=>Calls pr 99 #[uD b1 s1 x1,uD b2 s2 x2] w3 fun e1 w4=>∃b3:Bool,∃s3:Slc,∃x3:Int,∃b4:Bool,∃s4:Slc,∃x4:Int,∃x5:Int,e1= .returned (.tuple #[uD b3 s3 x3,uD b4 s4 x4,vi x5])∧(newC w4 (zD false nSl 0) 127 fun ad4 w5=>newC w5 (zD false nSl 0) 127 fun ad5 w6=>xD ad4 b3 s3 x3 w6 fun w9=>xD ad5 b4 s4 x4 w9 fun w12=>br (x5 !=0) (xt3 ad3 (.bool false) nSl.v (vi 0) w12 fun w15=>ld3 ad3 w15 fun b5 s5 x6=>R (.returned (.tuple #[uD b5 s5 x6,vi x5])) w15) (ld2 ad4 w12 fun b6 s6=>ld2 ad5 w12 fun b7 s7=>Calls pr 103 #[uP b6 s6,uP b7 s7] w12 fun e2 w16=>∃b8:Bool,∃s8:Slc,∃x7:Int,e2= .returned (.tuple #[uP b8 s8,vi x7])∧(newC w16 #[.bool false,nSl.v] 25 fun ad6 w17=>xt2 ad6 (.bool b8) s8.v w17 fun w19=>br (x7 !=0) (xt3 ad3 (.bool false) nSl.v (vi 0) w19 fun w22=>ld3 ad3 w22 fun b9 s9 x8=>R (.returned (.tuple #[uD b9 s9 x8,vi x7])) w22) (ld2 ad6 w19 fun b10 s10=>ldI .i64 (ad4.add 2) w19 fun x9=>ldI .i64 (ad5.add 2) w19 fun x10=>kU 104 #[uP b10 s10,vi (wrap .i64 (x9+x10))] w19 fun w23 b11 s11 x11 x12=>(xD ad3 b11 s11 x11 w23 fun w26=>ld3 ad3 w26 fun b12 s12 x13=>R (.returned (.tuple #[uD b12 s12 x13,vi x12])) w26)))))):Calls pr 63 #[uD aa ab ac,uD ad ae af] w R:=by
 refine zk (fun _=>none) (by kernel_rfl) Tryz.func63 rfl ?_ ?_
 ·refine kcast h ?_;kernel_rfl
 ·exact (za rfl (ze (za rfl (ze (za rfl (za rfl (ze (zh (za rfl (ze (zg (zi (za rfl (ze (za rfl (za rfl (ze (zh (za rfl (ze (zg (zi (za rfl (ze (zg trivial)))))))))))))))))))))))))
end
section
open Go Go.RowKit Eng L2
open _root_.Go.IntKind (wrap)
theorem G9 (aa:Bool) (ab:Slc) (ac:Bool) (ad:Slc) (w:World) (R:Ending→World→Prop) (h:xw w w fun w1=>(Calls pr 79 #[ab.v,ad.v] w1 fun e1 w2=>∃s1:Slc,∃x1:Int,e1= .returned (.tuple #[s1.v,vi x1])∧Ahead w1 w2∧(Calls pr 133 (zD (!(aa==ac)) s1 x1) w2 fun e2 w3=>∃b1:Bool,∃s2:Slc,∃x2:Int,e2= .returned (.tuple #[uP b1 s2,vi x2])∧Ahead w2 w3∧(xw w w3 fun w4=>(R (.returned (.tuple #[uP b1 s2,vi x2])) w4))))):Calls pr 103 #[uP aa ab,uP ac ad] w (fun e_ w_=>Ahead w w_∧R e_ w_):=by
 refine Fa aa ab ac ad w _ ?_
 ·have A:Ahead w w:=Ahead.refl w
  have X:Ext w w:=Ext.refl w
  refine zn fun bk1 u1 hb a _ B1=> ?_;have g1:=zj A.size hb;obtain ⟨A,X⟩:=axa2 a A X;refine zn fun bk2 u2 hb a _ B2=> ?_;have g2:=zj A.size hb;have l1_2:=lt1 hb B1;replace B1:=B1.ahead a;obtain ⟨A,X⟩:=axa2 a A X;refine zn fun bk3 u3 hb a _ B3=> ?_;have g3:=zj A.size hb;obtain ⟨_,_⟩:=lt2 hb B1 B2;obtain ⟨B1,B2⟩:=ah2 a B1 B2;obtain ⟨A,X⟩:=axa2 a A X;refine ym 1 B1 rfl ?_;refine ym 1 B2 rfl ?_;replace h:=h _ X A;refine Calls.mono h ?_;clear h;rintro e1 w2 ⟨s1,x1,he_,a,h⟩;refine ⟨s1,x1,he_, ?_⟩;clear he_;obtain ⟨B1,B2,B3⟩:=ah3 a B1 B2 B3;obtain ⟨A,X⟩:=axr2 a A;refine yt 0 B1 rfl ?_;refine yt 0 B2 rfl ?_;refine Calls.mono h ?_;clear h;rintro e2 w3 ⟨b1,s2,x2,he_,a,h⟩;refine ⟨b1,s2,x2,he_, ?_⟩;clear he_;obtain ⟨B1,B2,B3⟩:=ah3 a B1 B2 B3;obtain ⟨A,X⟩:=axr2 a A;refine s2_t B3 fun u4 k B3=> ?_;obtain ⟨B1,B2⟩:=up2 k B1 B2;obtain ⟨A,X⟩:=axu2 k g3 A X;refine l2_t B3 ?_;replace h:=h _ X A;exact ⟨A,h⟩
theorem Pz (aa:Bool) (ab:Slc) (ac:Int) (ad:Bool) (ae:Slc) (af:Int) (w:World) (R:Ending→World→Prop) (h:xw w w fun w1=>(Calls pr 99 #[uD aa ab ac,uD ad ae af] w1 fun e1 w2=>∃b1:Bool,∃s1:Slc,∃x1:Int,∃b2:Bool,∃s2:Slc,∃x2:Int,∃x3:Int,e1= .returned (.tuple #[uD b1 s1 x1,uD b2 s2 x2,vi x3])∧Ahead w1 w2∧(br (x3 !=0) (xw w w2 fun w3=>(R (.returned (.tuple #[uD (false) nSl (0:Int),vi x3])) w3)) (xw w w2 fun w4=>(Calls pr 103 #[uP b1 s1,uP b2 s2] w4 fun e2 w5=>∃b3:Bool,∃s3:Slc,∃x4:Int,e2= .returned (.tuple #[uP b3 s3,vi x4])∧Ahead w4 w5∧(br (x4 !=0) (xw w w5 fun w6=>(R (.returned (.tuple #[uD (false) nSl (0:Int),vi x4])) w6)) (xw w w5 fun w7=>(kU 104 #[uP b3 s3,vi (wrap .i64 (x1+x2))] w7 fun w8 b4 s4 x5 x6=>Ahead w7 w8∧(xw w w8 fun w9=>(R (.returned (.tuple #[uD b4 s4 x5,vi x6])) w9)))))))))):Calls pr 63 #[uD aa ab ac,uD ad ae af] w (fun e_ w_=>Ahead w w_∧R e_ w_):=by
  refine P0 aa ab ac ad ae af w _ ?_
  · have A:Ahead w w:=Ahead.refl w
    have X:Ext w w:=Ext.refl w
    refine zn fun bk1 u1 hb a _ B1=> ?_;have g1:=zj A.size hb;obtain ⟨A,X⟩:=axa2 a A X;refine zn fun bk2 u2 hb a _ B2=> ?_;have g2:=zj A.size hb;have l1_2:=lt1 hb B1;replace B1:=B1.ahead a;obtain ⟨A,X⟩:=axa2 a A X;refine zn fun bk3 u3 hb a _ B3=> ?_;have g3:=zj A.size hb;obtain ⟨_,_⟩:=lt2 hb B1 B2;obtain ⟨B1,B2⟩:=ah2 a B1 B2;obtain ⟨A,X⟩:=axa2 a A X;refine l3_t B1 ?_;refine l3_t B2 ?_;replace h:=h _ X A;refine Calls.mono h ?_;clear h;rintro e1 w2 ⟨b1,s1,x1,b2,s2,x2,x3,he_,a,h⟩;refine ⟨b1,s1,x1,b2,s2,x2,x3,he_, ?_⟩;clear he_;obtain ⟨B1,B2,B3⟩:=ah3 a B1 B2 B3;obtain ⟨A,X⟩:=axr2 a A;refine zn fun bk4 u4 hb a _ B4=> ?_;have g4:=zj A.size hb;obtain ⟨_,_,_⟩:=lt3 hb B1 B2 B3;obtain ⟨B1,B2,B3⟩:=ah3 a B1 B2 B3;obtain ⟨A,X⟩:=axa2 a A X;refine zn fun bk5 u5 hb a _ B5=> ?_;have g5:=zj A.size hb;obtain ⟨_,_,_,_⟩:=lt4 hb B1 B2 B3 B4;obtain ⟨B1,B2,B3,B4⟩:=ah4 a B1 B2 B3 B4;obtain ⟨A,X⟩:=axa2 a A X;refine s3_t B4 fun u6 k B4=> ?_;obtain ⟨B1,B2,B3,B5⟩:=up4 k B1 B2 B3 B5;obtain ⟨A,X⟩:=axu2 k g4 A X;refine s3_t B5 fun u7 k B5=> ?_;obtain ⟨B1,B2,B3,B4⟩:=up4 k B1 B2 B3 B4;obtain ⟨A,X⟩:=axu2 k g5 A X;refine zv h (fun h_=> ?_) (fun h_=> ?_)
    ·replace h:=h_;clear h_;refine s3_t B3 fun u8 k B3=> ?_;obtain ⟨B1,B2,B4,B5⟩:=up4 k B1 B2 B4 B5;obtain ⟨A,X⟩:=axu2 k g3 A X;refine l3_t B3 ?_;replace h:=h _ X A;exact ⟨A,h⟩
    ·replace h:=h_;clear h_;refine yt 0 B4 rfl ?_;refine ym 1 B4 rfl ?_;refine yt 0 B5 rfl ?_;refine ym 1 B5 rfl ?_;replace h:=h _ X A;refine Calls.mono h ?_;clear h;rintro e2 w5 ⟨b3,s3,x4,he_,a,h⟩;refine ⟨b3,s3,x4,he_, ?_⟩;clear he_;obtain ⟨B1,B2,B3,B4,B5⟩:=ah5 a B1 B2 B3 B4 B5;obtain ⟨A,X⟩:=axr2 a A;refine zn fun bk6 u9 hb a _ B6=> ?_;have g6:=zj A.size hb;obtain ⟨_,_,_,_,_⟩:=lt5 hb B1 B2 B3 B4 B5;obtain ⟨B1,B2,B3,B4,B5⟩:=ah5 a B1 B2 B3 B4 B5;obtain ⟨A,X⟩:=axa2 a A X;refine s2_t B6 fun u10 k B6=> ?_;obtain ⟨B1,B2,B3,B4,B5⟩:=up5 k B1 B2 B3 B4 B5;obtain ⟨A,X⟩:=axu2 k g6 A X;refine zv h (fun h_=> ?_) (fun h_=> ?_)
     ·replace h:=h_;clear h_;refine s3_t B3 fun u11 k B3=> ?_;obtain ⟨B1,B2,B4,B5,B6⟩:=up5 k B1 B2 B4 B5 B6;obtain ⟨A,X⟩:=axu2 k g3 A X;refine l3_t B3 ?_;replace h:=h _ X A;exact ⟨A,h⟩
     ·replace h:=h_;clear h_;refine l2_t B6 ?_;refine xg 2 B4 rfl ?_;refine xg 2 B5 rfl ?_;replace h:=h _ X A;refine Calls.mono h ?_;clear h;rintro e3 w8 ⟨b4,s4,x5,x6,he_,a,h⟩;refine ⟨b4,s4,x5,x6,he_, ?_⟩;clear he_;obtain ⟨B1,B2,B3,B4,B5,B6⟩:=ah6 a B1 B2 B3 B4 B5 B6;obtain ⟨A,X⟩:=axr2 a A;refine s3_t B3 fun u12 k B3=> ?_;obtain ⟨B1,B2,B4,B5,B6⟩:=up5 k B1 B2 B4 B5 B6;obtain ⟨A,X⟩:=axu2 k g3 A X;refine l3_t B3 ?_;replace h:=h _ X A;exact ⟨A,h⟩
theorem Pt (aa:Bool) (ab:Slc) (ac:Int) (ad:Bool) (ae:Slc) (af:Int) (w:World) (R:Ending→World→Prop) (h:xw w w fun w1=>(Calls pr 99 #[uD aa ab ac,uD ad ae af] w1 fun e1 w2=>∃b1:Bool,∃s1:Slc,∃x1:Int,∃b2:Bool,∃s2:Slc,∃x2:Int,∃x3:Int,e1= .returned (.tuple #[uD b1 s1 x1,uD b2 s2 x2,vi x3])∧Ahead w1 w2∧(br (x3 !=0) (xw w w2 fun w3=>(R (.returned (.tuple #[uD (false) nSl (0:Int),vi x3])) w3)) (xw w w2 fun w4=>(kU 131 #[uD b1 s1 x1,uD b2 s2 x2] w4 fun w5 b3 s3 x4 x5=>Ahead w4 w5∧(xw w w5 fun w6=>(R (.returned (.tuple #[uD b3 s3 x4,vi x5])) w6))))))):Calls pr 101 #[uD aa ab ac,uD ad ae af] w (fun e_ w_=>Ahead w w_∧R e_ w_):=by
 refine Pu aa ab ac ad ae af w _ ?_
 ·have A:Ahead w w:=Ahead.refl w
  have X:Ext w w:=Ext.refl w
  refine zn fun bk1 u1 hb a _ B1=> ?_;have g1:=zj A.size hb;obtain ⟨A,X⟩:=axa2 a A X;refine zn fun bk2 u2 hb a _ B2=> ?_;have g2:=zj A.size hb;have l1_2:=lt1 hb B1;replace B1:=B1.ahead a;obtain ⟨A,X⟩:=axa2 a A X;refine zn fun bk3 u3 hb a _ B3=> ?_;have g3:=zj A.size hb;obtain ⟨_,_⟩:=lt2 hb B1 B2;obtain ⟨B1,B2⟩:=ah2 a B1 B2;obtain ⟨A,X⟩:=axa2 a A X;refine l3_t B1 ?_;refine l3_t B2 ?_;replace h:=h _ X A;refine Calls.mono h ?_;clear h;rintro e1 w2 ⟨b1,s1,x1,b2,s2,x2,x3,he_,a,h⟩;refine ⟨b1,s1,x1,b2,s2,x2,x3,he_, ?_⟩;clear he_;obtain ⟨B1,B2,B3⟩:=ah3 a B1 B2 B3;obtain ⟨A,X⟩:=axr2 a A;refine zn fun bk4 u4 hb a _ B4=> ?_;have g4:=zj A.size hb;obtain ⟨_,_,_⟩:=lt3 hb B1 B2 B3;obtain ⟨B1,B2,B3⟩:=ah3 a B1 B2 B3;obtain ⟨A,X⟩:=axa2 a A X;refine zn fun bk5 u5 hb a _ B5=> ?_;have g5:=zj A.size hb;obtain ⟨_,_,_,_⟩:=lt4 hb B1 B2 B3 B4;obtain ⟨B1,B2,B3,B4⟩:=ah4 a B1 B2 B3 B4;obtain ⟨A,X⟩:=axa2 a A X;refine s3_t B4 fun u6 k B4=> ?_;obtain ⟨B1,B2,B3,B5⟩:=up4 k B1 B2 B3 B5;obtain ⟨A,X⟩:=axu2 k g4 A X;refine s3_t B5 fun u7 k B5=> ?_;obtain ⟨B1,B2,B3,B4⟩:=up4 k B1 B2 B3 B4;obtain ⟨A,X⟩:=axu2 k g5 A X;refine zv h (fun h_=> ?_) (fun h_=> ?_)
  ·replace h:=h_;clear h_;refine s3_t B3 fun u8 k B3=> ?_;obtain ⟨B1,B2,B4,B5⟩:=up4 k B1 B2 B4 B5;obtain ⟨A,X⟩:=axu2 k g3 A X;refine l3_t B3 ?_;replace h:=h _ X A;exact ⟨A,h⟩
  ·replace h:=h_;clear h_;refine l3_t B4 ?_;refine l3_t B5 ?_;replace h:=h _ X A;refine Calls.mono h ?_;clear h;rintro e2 w5 ⟨b3,s3,x4,x5,he_,a,h⟩;refine ⟨b3,s3,x4,x5,he_, ?_⟩;clear he_;obtain ⟨B1,B2,B3,B4,B5⟩:=ah5 a B1 B2 B3 B4 B5;obtain ⟨A,X⟩:=axr2 a A;refine s3_t B3 fun u9 k B3=> ?_;obtain ⟨B1,B2,B4,B5⟩:=up4 k B1 B2 B4 B5;obtain ⟨A,X⟩:=axu2 k g3 A X;refine l3_t B3 ?_;replace h:=h _ X A;exact ⟨A,h⟩
end
section
open Go Go.RowKit Eng Sp Dg L2
namespace Dy
open _root_.Go.Proofs.YtbeiopoejdkheaaGreatDoor.Nat (OwnNil Num Num.bl Num.ext Num.ahead OwnNil.mono OwnNil.ext OwnNil.rd OwnNil.ahead OwnNil.nil zw xj bigC xc Ret pq ka uf subC xf)
open _root_.Go.Proofs.YtbeiopoejdkheaaGreatDoor.Ref (RN xh)
open Sb
theorem zfu {neg:Bool} {x y:Nat} :sg neg (x+y)=sg neg x+sg neg y:=by unfold sg;split<;>omega
theorem zcj {neg:Bool} {x y:Nat} (h:y≤x):sg neg (x -y)=sg neg x -sg neg y:=by unfold sg;split<;>omega
theorem U3 {neg:Bool} {x:Nat} :sg (!neg) x= -sg neg x:=by unfold sg;cases neg<;>simp
def Got (P:Int→Int→Prop) (w:World) (code:Int) (neg:Bool) (s:Slc) (E:Int):Prop:=
 code=0→∃z,neg=zb z∧bl z.natAbs≤67108864∧wi E∧NZ z E∧Rd .u64 w s (nn (digs B64 z.natAbs))∧P z E
def DAns (P:Int→Int→Prop) (en:Ending) (w':World):Prop:=∃code neg s E,en= .returned (.tuple #[.agg (c3 neg s E), .int .i64 code])∧Got P w' code neg s E
theorem Vl.told' {z E b v:Int} (hb:b≤E) (h0:b≤0) (h:dv z E b=v):Vl (sg (nD (zb z) z.natAbs) (od z.natAbs)) (eD z.natAbs E) b v:=Vl.told hb h0 (by rw [za1];exact h)
def SumP (z e z' e':Int) (Z E:Int):Prop:=∀b,b≤0→b≤e→b≤e'→Vl Z E b (dv z e b+dv z' e' b)
theorem zf2 {n:Bool} {x:Nat} {e e' b:Int} (hge:e'≤e) (hb:b≤e'):dv (sg n x) e b=sg n (x*2^(e -e').toNat)*((2^(e' -b).toNat:Nat):Int):=by
 rw [←U2]
 show sg n x*_=sg n x*_*_
 rw [Int.mul_assoc,←Int.natCast_mul,←Nat.pow_add]
 congr 3
 omega
theorem SumP.swap {z e z' e' Z E:Int} (h:SumP z e z' e' Z E):SumP z' e' z e Z E:=fun b h0 h1 h2=>by rw [Int.add_comm];exact h b h0 h2 h1
theorem DAns.mono {P Q:Int→Int→Prop} {en:Ending} {w} (h:DAns P en w) (hq:∀Z E,P Z E→Q Z E):DAns Q en w:=by
 obtain ⟨c,n,s,E,rfl,hh⟩:=h
 refine ⟨c,n,s,E,rfl,fun hc=> ?_⟩
 obtain ⟨z,h1,h2,h3,h4,h5,h6⟩:=hh hc
 exact ⟨z,h1,h2,h3,h4,h5,hq _ _ h6⟩
def vz (neg:Bool) (x:Nat):Int:=sg (nD neg x) (od x)
def MulP (z e z' e':Int) (Z E:Int):Prop:=∀b b',b≤0→b'≤0→b≤e→b'≤e'→Vl Z E (b+b') (dv z e b*dv z' e' b')
end Dy
end
section
open Go Go.RowKit Eng Sp Dg L2
namespace Sm
open _root_.Go.Proofs.YtbeiopoejdkheaaGreatDoor.Nat (OwnNil Num Num.bl Num.ext Num.ahead OwnNil.mono OwnNil.ext OwnNil.rd OwnNil.ahead OwnNil.nil zw xj bigC xc Ret Ret.num pq ka uf subC xf)
open _root_.Go.Proofs.YtbeiopoejdkheaaGreatDoor.Ref (RN xh)
open Sb Dy
def WA (z:Int) (en:Ending) (w':World):Prop:=∃s,en= .returned (.tuple #[.agg (c2 (zb z) s), .int .i64 0])∧Rd .u64 w' s (nn (digs B64 z.natAbs))
theorem zdw {q:Nat} (h:bl q≤67108864):bC q=0:=if_neg (by omega)
theorem zfa {w w' neg} {q:Nat} {en:Ending} (h:WOut w 0 neg q en w'):WA (sg neg q) en w':=by
 obtain ⟨s,rfl,o⟩:=h
 rw [if_pos rfl] at o
 refine ⟨s, ?_,by rw [qa];exact o.rd⟩
 rw [if_pos rfl,zd1]
theorem pf {w} {neg:Bool} {s} {x:Nat} (h:Num w s x) (hb:bl x≤67108864):Calls pr whole_result_id #[.bool neg,s.v, .int .i64 0] w fun en w'=>Ahead w w'∧WA (sg neg x) en w':=by
 refine Tf neg s 0 w _ (zt rfl fun w1 X1 a1=>Calls.mono (jx (h.ahead a1)) ?_)
 rw [zdw hb]
 rintro en w2 ⟨h2,hw⟩
 obtain ⟨s2,rfl,r⟩:=zfa hw
 exact ⟨_,_,_,rfl,h2,fun w3 X3 a3=>⟨s2,rfl,r.ext X3⟩⟩
theorem gh {x y k:Nat} (hx:bl x≤k) (hy:bl y≤k):bl (x+y)≤k+1:=by
 have h1:=uv x
 have h2:=uv y
 have h3:2^bl x≤2^k:=Nat.pow_le_pow_right (by omega) hx
 have h4:2^bl y≤2^k:=Nat.pow_le_pow_right (by omega) hy
 exact vw (by rw [Nat.pow_succ];omega)
theorem nh {x y:Nat} :bl (x*y)≤bl x+bl y:=by
 refine vw ?_
 rw [Nat.pow_add]
 exact Nat.lt_of_le_of_lt (Nat.mul_le_mul_left _ (Nat.le_of_lt (uv y))) (Nat.mul_lt_mul_of_pos_right (uv x) (qb _))
theorem ni {x k:Nat} :bl (x*2^k)≤bl x+k:=vw (by rw [Nat.pow_add];exact Nat.mul_lt_mul_of_pos_right (uv x) (qb k))
theorem cp {x y k:Nat} (hx:bl x≤k):bl (x -y)≤k:=Nat.le_trans (yw (Nat.sub_le x y)) hx
theorem C5 {x y:Nat} (h:¬x<y) (hb:bl x≤67108864):subC x y=0:=by
 unfold subC;rw [if_neg h];exact xc (cp hb)
theorem zba {w} {n m:Bool} {a b} {x y:Nat} (ha:Num w a x) (hb:Num w b y) (hx:bl x≤67108863) (hy:bl y≤67108863):Calls pr whole_Add_id #[.agg (c2 n a), .agg (c2 m b)] w fun en w'=>Ahead w w'∧WA (sg n x+sg m y) en w':=by
 have e1:sg n x=sg (nD n x) x:=by
  by_cases h:x=0
  ·rw [h,qu,qu]
  ·rw [pw h]
 have e2:sg m y=sg (nD m y) y:=by
  by_cases h:y=0
  ·rw [h,qu,qu]
  ·rw [pw h]
 rw [e1,e2]
 have lx:=Zv ha
 have ly:=Zv hb
 have bxy:=gh hx hy
 refine G7 n a m b w _ fun w1 X1 a1=>Calls.mono (di (ha.ahead a1)) ?_
 rintro en w2 ⟨h2,s,rfl,os⟩
 refine ⟨_,_,rfl,h2,Calls.mono (di ((hb.ahead a1).ahead h2)) ?_⟩
 rintro en w3 ⟨h3,t,rfl,ot⟩
 generalize nD n x=n at*
 generalize nD m y=m at*
 have ns:Num w3 s x:=⟨_,(os.ahead h3).rd,lx,yb two64 _,zu two64 _⟩
 have nt:Num w3 t y:=⟨_,ot.rd,ly,yb two64 _,zu two64 _⟩
 refine ⟨_,_,rfl,h3,zm (fun he=>fun w4 X4 a4=> ?_) (fun he=>fun w8 X8 a8=> ?_)⟩
 ·have he':n=m:=eq_of_beq he
  subst he'
  refine Calls.mono (pq (ns.ext X4) (nt.ext X4)) ?_
  intro en w5 hr
  obtain ⟨h5,u,rfl,ou,nu⟩:=hr.num (xc (by omega)) (by omega)
  refine ⟨_,_,rfl,h5,Calls.mono (pf nu (by omega)) ?_⟩
  rintro en w6 ⟨h6,v,rfl,rv⟩
  refine ⟨_,_,_,rfl,h6,fun w7 X7 a7=> ?_⟩
  try dsimp only
  rw [←zfu]
  exact ⟨v,rfl,rv.ext X7⟩
 ·have he':m= !n:=by
   have:=beq_eq_false_iff_ne.1 he
   cases n<;>cases m<;>simp_all
  subst he'
  refine Calls.mono (uf (ns.ext X8) (nt.ext X8)) ?_
  rintro en w9 ⟨h9,rfl⟩
  refine ⟨_,rfl,h9,zm (fun hl=>fun w10 X10 a10=> ?_) (fun hl=> ?_)⟩
  ·have hlt:x<y:=ta.1 (of_decide_eq_true hl)
   have XX:=X8.trans (h9.ext.trans X10)
   refine Calls.mono (ka (nt.ext XX) (ns.ext XX)) ?_
   intro en w11 hr
   obtain ⟨h11,u,rfl,ou,nu⟩:=hr.num (C5 (by omega) (by omega)) (cp (by omega))
   refine ⟨_,_,rfl,h11,Calls.mono (pf nu (cp (by omega))) ?_⟩
   rintro en w6 ⟨h6,v,rfl,rv⟩
   refine ⟨_,_,_,rfl,h6,fun w7 X7 a7=> ?_⟩
   have ez:sg n x+sg (!n) y=sg (!n) (y -x):=by rw [zcj (by omega),U3,U3];omega
   rw [ez]
   exact ⟨v,rfl,rv.ext X7⟩
  ·have hlt:¬x<y:=fun h=>by have:=of_decide_eq_false hl;exact this (ta.2 h)
   refine Calls.mono (ka ((ns.ext X8).ahead h9) ((nt.ext X8).ahead h9)) ?_
   intro en w11 hr
   obtain ⟨h11,u,rfl,ou,nu⟩:=hr.num (C5 hlt (by omega)) (cp (by omega))
   refine ⟨_,_,rfl,h11,Calls.mono (pf nu (cp (by omega))) ?_⟩
   rintro en w6 ⟨h6,v,rfl,rv⟩
   refine ⟨_,_,_,rfl,h6,fun w7 X7 a7=> ?_⟩
   have ez:sg n x+sg (!n) y=sg n (x -y):=by rw [zcj (by omega),U3];omega
   rw [ez]
   exact ⟨v,rfl,rv.ext X7⟩
theorem zbc {w} {n m:Bool} {a b} {x y:Nat} (ha:Num w a x) (hb:Num w b y) (hx:bl x≤33554432) (hy:bl y≤33554432):Calls pr whole_Mul_id #[.agg (c2 n a), .agg (c2 m b)] w fun en w'=>Ahead w w'∧WA (sg n x*sg m y) en w':=by
 have la:=zw (N:=x) (m:=2^20) (by omega)
 have lb:=zw (N:=y) (m:=2^20) (by omega)
 have bm:=nh (x:=x) (y:=y)
 refine G9 n a m b w _ fun w1 X1 a1=>Calls.mono (Mul.m7 (ha.ahead a1) (hb.ahead a1) (by omega) (by omega)) ?_
 intro en w2 hr
 obtain ⟨h2,u,rfl,ou,nu⟩:=hr.num (xc (by omega)) (by omega)
 refine ⟨_,_,rfl,h2,Calls.mono (pf nu (by omega)) ?_⟩
 rintro en w6 ⟨h6,v,rfl,rv⟩
 refine ⟨_,_,_,rfl,h6,fun w7 X7 a7=> ?_⟩
 try dsimp only
 rw [←zci]
 exact ⟨v,rfl,rv.ext X7⟩
def SA (P:Int→Int→Prop) (en:Ending) (w':World):Prop:=∃z s E,en= .returned (.tuple #[.agg (c3 (zb z) s E), .int .i64 0])∧NZ z E∧Rd .u64 w' s (nn (digs B64 z.natAbs))∧P z E
theorem SA.ext {P:Int→Int→Prop} {en:Ending} {w w'} (h:SA P en w) (X:Ext w w'):SA P en w':=by
 obtain ⟨z,s,E,rfl,h1,h2,h3⟩:=h;exact ⟨z,s,E,rfl,h1,h2.ext X,h3⟩
theorem SA.mono {P Q:Int→Int→Prop} {en:Ending} {w} (h:SA P en w) (hq:∀Z E,P Z E→Q Z E):SA Q en w:=by
 obtain ⟨z,s,E,rfl,h1,h2,h3⟩:=h;exact ⟨z,s,E,rfl,h1,h2,hq _ _ h3⟩
theorem f9 {x:Nat} {e:Int} (hb:bl x≤67108864) (he: -268435456≤e∧e≤268435456):tC x e=0:=by
 have h1:=yw (ms x)
 have h2:=qv x
 rw [tC,if_neg (by omega),if_pos]
 unfold wi eD;split<;>omega
theorem df {w} {neg:Bool} {s} {x:Nat} {e:Int} {P:Int→Int→Prop} (hT:Tab w) (h:Num w s x) (hb:bl x≤67108864) (he: -268435456≤e∧e≤268435456) (hP:P (sg (nD neg x) (od x)) (eD x e)):Calls pr dyadic_told_id #[.agg (c2 neg s), .int .i64 e] w fun en w'=>Ahead w w'∧SA P en w':=by
 refine Calls.mono (pj hT h (by omega)) ?_
 rw [f9 hb he]
 rintro en w1 ⟨h1,t,rfl,ot⟩
 rw [if_pos rfl] at ot
 refine ⟨h1,sg (nD neg x) (od x),t,eD x e, ?_,(NF.of neg x e).nz, ?_,hP⟩
 ·rw [if_pos rfl,if_pos rfl,(NF.of neg x e).zb]
 ·rw [qa];exact ot.rd
theorem zcn {w s} {t:Slc} {n m:Bool} {x y:Nat} {e e':Int} (hT:Tab w) (r:Rd .u64 w s (nn (digs B64 x))) (r':Rd .u64 w t (nn (digs B64 y))) (he: -4194304≤e∧e≤4194304) (he': -4194304≤e'∧e'≤4194304) (l:bl x≤4194304) (l':bl y≤4194304):Calls pr dyadic_sum_id #[.agg (c3 n s e), .agg (c3 m t e')] w fun en w'=>Ahead w w'∧SA (SumP (sg n x) e (sg m y) e') en w':=by
 have nm:∀{w':World} {s:Slc} {x:Nat},Rd .u64 w' s (nn (digs B64 x))→bl x≤67108864→Num w' s x:=fun r h=>vd r (Nat.le_trans (zw (m:=2^20) (by omega)) (by omega))
 let SJ:Bool→Slc→Int→Bool→Slc→Int→World→Prop:=fun n2 s2 e2 n3 s3 e3 w'=>∃x2 y2:Nat,Rd .u64 w' s2 (nn (digs B64 x2))∧Rd .u64 w' s3 (nn (digs B64 y2))∧bl x2≤4194304∧bl y2≤4194304∧(-4194304≤e2∧e2≤4194304)∧(-4194304≤e3∧e3≤4194304)∧
  (∀Z E,SumP (sg n2 x2) e2 (sg n3 y2) e3 Z E→SumP (sg n x) e (sg m y) e' Z E)
 refine P5 n s e m t e' w _
  (fun n2 s2 e2 n3 s3 e3 _ _ _ w'=>SJ n2 s2 e2 n3 s3 e3 w')
  (fun n2 s2 e2 n3 s3 e3 _ _ _ w'=>e3≤e2∧SJ n2 s2 e2 n3 s3 e3 w')
  (fun g n2 s2 e2 n3 s3 e3 _ _ _ w'=>g=e2 -e3∧e3≤e2∧SJ n2 s2 e2 n3 s3 e3 w')
  (fun c n2 s2 e2 n3 s3 e3 _ _ _ n7 s7 w'=>c=0∧e3≤e2∧∃x2 y2:Nat,Rd .u64 w' s3 (nn (digs B64 y2))∧bl x2≤4194304∧bl y2≤4194304∧(-4194304≤e2∧e2≤4194304)∧(-4194304≤e3∧e3≤4194304)∧
   (∀Z E,SumP (sg n2 x2) e2 (sg n3 y2) e3 Z E→SumP (sg n x) e (sg m y) e' Z E)∧Rd .u64 w' s7 (nn (digs B64 (x2*2^(e2 -e3).toNat)))∧sg n7 (x2*2^(e2 -e3).toNat)=sg n2 (x2*2^(e2 -e3).toNat)) ?_ ?_ ?_ ?_ ?_
 ·intro w1 X1 a1
  refine Calls.mono (uk (nm (r.ahead a1) (by omega))) ?_
  rintro en w2 ⟨h2,rfl⟩
  have a2:=a1.trans h2
  refine ⟨_,rfl,h2,zm (fun hz=>fun w3 X3 a3=> ?_) (fun hz=> ?_)⟩
  ·exact ⟨y,x,r'.ahead a3,r.ahead a3,l',l,he',he,fun Z E h=>h.swap⟩
  ·exact ⟨x,y,r.ahead a2,r'.ahead a2,l,l',he,he',fun Z E h=>h⟩
 ·rintro n2 s2 e2 n3 s3 e3 _ _ _ w1 a1 ⟨a,c,ra,rc,la,lc,fa,fc,hs⟩
  refine Calls.mono (uk (nm rc (by omega))) ?_
  rintro en w2 ⟨h2,rfl⟩
  refine ⟨_,rfl,h2,zm (fun hz=> ?_) (fun hz=>zm (fun hlt=>fun w3 X3 a3=> ?_) (fun hlt=> ?_))⟩
  ·have hc:c=0:=tp.1 (eq_of_beq hz)
   subst hc
   refine Calls.mono (df (P:=SumP (sg n x) e (sg m y) e') (hT.ahead (a1.trans h2)) (nm (ra.ahead h2) (by omega)) (by omega) (by omega) (hs _ _ ?_)) ?_
   ·intro b h0 h1 h2
    refine Vl.told h1 h0 ?_
    rw [qu,Ts,Int.add_zero]
   ·rintro en w6 ⟨h6,z,s3,E,rfl,hh⟩
    exact ⟨_,_,_,_,rfl,h6,fun w7 X7 a7=>SA.ext ⟨z,s3,E,rfl,hh⟩ X7⟩
  ·exact ⟨by have:=of_decide_eq_true hlt;omega,c,a,(rc.ahead h2).ext X3,(ra.ahead h2).ext X3,lc,la,fc,fa,fun Z E h=>hs Z E h.swap⟩
  ·exact ⟨by have:=of_decide_eq_false hlt;omega,a,c,ra.ahead h2,rc.ahead h2,la,lc,fa,fc,hs⟩
 ·rintro n2 s2 e2 n3 s3 e3 _ _ _ w1 a1 ⟨hge,a,c,ra,rc,la,lc,fa,fc,hs⟩
  rw [zp (x:=e2 -e3) (by omega) (by omega)]
  refine zm (fun hg=>fun w2 X2 a2=> ?_) (fun hg=>fun w2 X2 a2=> ?_)
  ·refine Calls.mono (uy (nm (ra.ext X2) (by omega)) (by omega)) ?_
   rintro en w3 ⟨h3,rfl⟩
   refine ⟨_,rfl,h3,Calls.mono (uy (nm ((rc.ext X2).ahead h3) (by omega)) (by omega)) ?_⟩
   rintro en w4 ⟨h4,rfl⟩
   refine ⟨_,rfl,h4, ?_⟩
   try dsimp only
   rw [zp (x:=e3+(bl c:Int) -1+1) (by omega) (by omega),zp (x:=maxI _ _ -e3) (by unfold maxI;split<;>omega) (by unfold maxI;split<;>omega)]
   refine zt (decide_eq_false (by unfold maxI;split<;>omega)) ?_
   exact ⟨rfl,hge,a,c,((ra.ext X2).ahead h3).ahead h4,((rc.ext X2).ahead h3).ahead h4,la,lc,fa,fc,hs⟩
  ·exact ⟨rfl,hge,a,c,ra.ext X2,rc.ext X2,la,lc,fa,fc,hs⟩
 ·rintro g n2 s2 e2 n3 s3 e3 _ _ _ w1 a1 ⟨rfl,hge,a,c,ra,rc,la,lc,fa,fc,hs⟩
  intro w2 X2 a2
  obtain ⟨k,hk⟩:∃k:Nat,e2 -e3=(k:Int):=⟨(e2 -e3).toNat,by omega⟩
  have hk':(e2 -e3).toNat=k:=by omega
  have l1:=zw (N:=a) (m:=2^20) (by omega)
  have bsh:=ni (x:=a) (k:=k)
  rw [hk',hk]
  refine Calls.mono (jb (ra.ext X2) (by omega)) ?_
  rintro en w3 ⟨h3,u,rfl,ou⟩
  refine ⟨_,rfl,h3,fun w4 X4 a4=> ?_⟩
  refine Calls.mono (zbb (neg:=n2) (nm (ou.ext X4).rd (by omega))) ?_
  rw [zdw (by omega)]
  rintro en w5 ⟨h5,v,rfl,ov⟩
  refine ⟨_,_,_,rfl,h5,fun w6 X6 a6=> ?_⟩
  have XX:=(X2.trans h3.ext).trans (X4.trans (h5.ext.trans X6))
  rw [if_pos rfl] at ov
  rw [if_pos rfl]
  refine ⟨rfl,hge,a,c,rc.ext XX,la,lc,fa,fc,hs,(ov.ext X6).rd, ?_⟩
  generalize a*2^k=A
  by_cases h:A=0
  ·rw [h,qu,qu]
  ·rw [pw h]
 ·rintro cd n2 s2 e2 n3 s3 e3 _ _ _ n7 s7 w1 a1 ⟨rfl,hge,a,c,rc,la,lc,fa,fc,hs,r7,sg7⟩
  have bsh:=ni (x:=a) (k:=(e2 -e3).toNat)
  refine zt rfl (Calls.mono (zba (nm r7 (by omega)) (nm rc (by omega)) (by omega) (by omega)) ?_)
  rintro en w2 ⟨h2,u,rfl,ru⟩
  have hbz:bl (sg n7 (a*2^(e2 -e3).toNat)+sg n3 c).natAbs≤33554433:=by
   have h1:(sg n7 (a*2^(e2 -e3).toNat)+sg n3 c).natAbs≤a*2^(e2 -e3).toNat+c:=by
    have q1:=qa (neg:=n7) (n:=a*2^(e2 -e3).toNat)
    have q2:=qa (neg:=n3) (n:=c)
    omega
   exact Nat.le_trans (yw h1) (gh (by omega) (by omega))
  refine ⟨_,_,_,rfl,h2,zt rfl fun w3 X3 a3=> ?_⟩
  refine Calls.mono (df (P:=SumP (sg n x) e (sg m y) e') (hT.ahead a3) (nm (ru.ext X3) (by omega)) (by omega) (by omega) (hs _ _ ?_)) ?_
  ·intro b h0 h1 h2
   refine Vl.told' h2 h0 ?_
   rw [zfd,sg7,zf2 hge h2];rfl
  ·rintro en w6 ⟨h6,z,s3,E,rfl,hh⟩
   exact ⟨_,_,_,_,rfl,h6,fun w7 X7 a7=>SA.ext ⟨z,s3,E,rfl,hh⟩ X7⟩
structure Sd (w:World) (s:Slc) (x:Nat) (e:Int):Prop where
  num:Num w s x
  b:bl x≤1048576
  e0: -1048576≤e
  e1:e≤1048576
theorem Sd.tw {w} {w':World} {s} {t:Slc} {x y:Nat} {e e':Int} (h:Sd w s x e) (h':Sd w' t y e'):twC e e'=0:=by
 have:=h.e0;have:=h.e1;have:=h'.e0;have:=h'.e1
 rw [twC,if_pos (by unfold wi;omega),if_pos (by unfold wi;omega)]
theorem Sd.eD {w s} {x:Nat} {e:Int} (h:Sd w s x e): -1048576≤eD x e∧eD x e≤2097152:=by
 have:=h.e0;have:=h.e1;have:=h.b;have:=qv x
 unfold Dy.eD;split<;>omega
theorem Sd.od {w s} {x:Nat} {e:Int} (h:Sd w s x e):bl (od x)≤1048576:=Nat.le_trans (yw (ms x)) h.b
theorem zbe {w} {neg neg':Bool} {s} {s':Slc} {x x':Nat} {e e':Int} (hT:Tab w) (h:Sd w s x e) (h':Sd w s' x' e'):Calls pr dyadic_Add_id #[.agg (c3 neg s e), .agg (c3 neg' s' e')] w fun en w'=>Ahead w w'∧SA (SumP (vz neg x) (eD x e) (vz neg' x') (eD x' e')) en w':=by
 refine Pt neg s e neg' s' e' w _ fun w1 X1 a1=>Calls.mono (dg (hT.ahead a1) (h.num.ahead a1) (h'.num.ahead a1)) ?_
 rw [h.tw h']
 rintro en w2 ⟨h2,b1,s1,x1,b2,s2,x2,rfl,hh⟩
 refine ⟨_,_,_,_,_,_,_,rfl,h2,zt rfl fun w4 X4 a4=> ?_⟩
 obtain ⟨rfl,rfl,rfl,rfl,o1,o2⟩:=hh rfl
 have e1:=h.eD
 have e2:=h'.eD
 refine Calls.mono (zcn (hT.ahead a4) (o1.ext X4).rd (o2.ext X4).rd (by omega) (by omega) (Nat.le_trans h.od (by omega)) (Nat.le_trans h'.od (by omega))) ?_
 rintro en w6 ⟨h6,z,s3,E,rfl,hh⟩
 exact ⟨_,_,_,_,rfl,h6,fun w7 X7 a7=>SA.ext ⟨z,s3,E,rfl,hh⟩ X7⟩
theorem zaa {w} {neg neg':Bool} {s} {s':Slc} {x x':Nat} {e e':Int} (hT:Tab w) (h:Sd w s x e) (h':Sd w s' x' e'):Calls pr dyadic_Mul_id #[.agg (c3 neg s e), .agg (c3 neg' s' e')] w fun en w'=>Ahead w w'∧SA (MulP (vz neg x) (eD x e) (vz neg' x') (eD x' e')) en w':=by
 have nm:∀{w':World} {s:Slc} {x:Nat},Rd .u64 w' s (nn (digs B64 x))→bl x≤67108864→Num w' s x:=fun r h=>vd r (Nat.le_trans (zw (m:=2^20) (by omega)) (by omega))
 have b1:=h.od
 have b2:=h'.od
 have e1:=h.eD
 have e2:=h'.eD
 refine Pz neg s e neg' s' e' w _ fun w1 X1 a1=>Calls.mono (dg (hT.ahead a1) (h.num.ahead a1) (h'.num.ahead a1)) ?_
 rw [h.tw h']
 rintro en w2 ⟨h2,b1,s1,x1,b2,s2,x2,rfl,hh⟩
 refine ⟨_,_,_,_,_,_,_,rfl,h2,zt rfl fun w4 X4 a4=> ?_⟩
 obtain ⟨rfl,rfl,rfl,rfl,o1,o2⟩:=hh rfl
 rw [zp (by omega) (by omega)]
 refine Calls.mono (zbc (nm (o1.ext X4).rd (by omega)) (nm (o2.ext X4).rd (by omega)) (by omega) (by omega)) ?_
 rintro en w5 ⟨h5,u,rfl,ru⟩
 have hbz:bl (sg (nD neg x) (od x)*sg (nD neg' x') (od x')).natAbs≤2097152:=by
  rw [Int.natAbs_mul,qa,qa]
  exact Nat.le_trans nh (by omega)
 refine ⟨_,_,_,rfl,h5,zt rfl fun w7 X7 a7=> ?_⟩
 refine Calls.mono (df (P:=MulP (vz neg x) (eD x e) (vz neg' x') (eD x' e')) (hT.ahead a7) (nm (ru.ext X7) (by omega)) (by omega) (by omega) ?_) ?_
 ·intro b b' h0 h0' hb1 hb2
  refine Vl.told' (by omega) (by omega) ?_
  rw [Ce hb1 hb2];rfl
 ·rintro en w6 ⟨h6,z,s3,E,rfl,hh⟩
  exact ⟨_,_,_,_,rfl,h6,fun w7 X7 a7=>SA.ext ⟨z,s3,E,rfl,hh⟩ X7⟩
end Sm
end
section
open Go Go.RowKit Eng Sp Dg
namespace Dg
end Dg
namespace Nat
theorem Hf {x y:Nat} (hx:x<9223372036854775808) (hy:y<9223372036854775808):andI .i64 (x:Int) (y:Int)=((x&&&y:Nat):Int):=by
 unfold andI
 have e:(BitVec.ofInt IntKind.i64.bits (x:Int)&&&BitVec.ofInt IntKind.i64.bits (y:Int)).toNat=x&&&y:=by
  rw [BitVec.toNat_and,BitVec.ofInt_natCast,BitVec.ofInt_natCast,BitVec.toNat_ofNat,BitVec.toNat_ofNat]
  show x % 2^64&&&y % 2^64=_
  rw [Nat.mod_eq_of_lt (by omega),Nat.mod_eq_of_lt (by omega)]
 rw [e]
 have:x&&&y<2^63:=Nat.and_lt_two_pow _ (by omega)
 exact zp (by omega) (by omega)
theorem fdivN (x k:Nat):Int.fdiv (x:Int) (2^(k:Nat))=((x/2^k:Nat):Int):=by
 rw [Int.fdiv_eq_ediv_of_nonneg _ (Int.le_of_lt (Int.pow_pos (by omega)))]
 norm_cast
end Nat
end
section
open Go Go.RowKit Eng Sp Dg
namespace Nat
theorem binQuo {x y:Nat} {t:TypeId} (hx:x<B64) (hy:y≠0):binOp .quo t (.int .u64 (x:Int)) (.int .u64 (y:Int))=pure (.int .u64 ((x/y:Nat):Int)):=by
 have e:Int.tdiv (x:Int) (y:Int)=((x/y:Nat):Int):=by rw [Int.tdiv_eq_ediv_of_nonneg (by omega)];simp
 have hle:=Nat.div_le_self x y
 have hB:=B64v
 unfold binOp
 simp only [Op.intDiv]
 rw [if_neg (by simp),if_neg (by simpa using hy)]
 simp only [e]
 generalize x/y=q at*
 rw [yd (by omega) (by omega)]
theorem binRem {x y:Nat} {t:TypeId} (hx:x<B64) (hy:y≠0):binOp .rem t (.int .u64 (x:Int)) (.int .u64 (y:Int))=pure (.int .u64 ((x % y:Nat):Int)):=by
 have e:Int.tmod (x:Int) (y:Int)=((x % y:Nat):Int):=by rw [Int.tmod_eq_emod_of_nonneg (by omega)];simp
 have hle:=Nat.mod_le x y
 have hB:=B64v
 unfold binOp
 simp only [Op.intDiv]
 rw [if_neg (by simp),if_neg (by simpa using hy)]
 simp only [e]
theorem semQuo {x y:Nat} {t:TypeId} {w:World} {K:Int→World→Prop} (hx:x<B64) (hy:y≠0) (h:K ((x/y:Nat):Int) w):semI pr .u64 (binOp .quo t (.int .u64 (x:Int)) (.int .u64 (y:Int))) w K:=by
 unfold semI
 rw [binQuo hx hy,Sem.wp_iff_run]
 exact ⟨_,rfl,h⟩
theorem fixQuo {x y:Nat} {t:TypeId} {w:World} {K:Int→Prop} (hx:x<B64) (hy:y≠0) (h:K ((x/y:Nat):Int)):fixI pr .u64 (binOp .quo t (.int .u64 (x:Int)) (.int .u64 (y:Int))) w K:=by
 rw [fixI,binQuo hx hy]
 exact ⟨_,fun _ _=>rfl,h⟩
theorem fixRem {x y:Nat} {t:TypeId} {w:World} {K:Int→Prop} (hx:x<B64) (hy:y≠0) (h:K ((x % y:Nat):Int)):fixI pr .u64 (binOp .rem t (.int .u64 (x:Int)) (.int .u64 (y:Int))) w K:=by
 rw [fixI,binRem hx hy]
 exact ⟨_,fun _ _=>rfl,h⟩
structure Guess (U u y y1 y0 q r:Nat):Prop where
  eq:q*y1+r=U
  ge:(U*4294967296+u)/y≤q
theorem Guess.over {U u y y1 y0 q r:Nat} (h:Guess U u y y1 y0 q r) (hy:y=y1*4294967296+y0):q*y0>4294967296*r+u↔q*y>U*4294967296+u:=by
 have e1:q*y=q*y1*4294967296+q*y0:=by rw [hy,Nat.mul_add,Nat.mul_assoc]
 have:=h.eq
 generalize q*y1=A at*
 generalize q*y0=B at*
 generalize q*y=C at*
 omega
theorem Guess.less {U u y y1 y0 q r:Nat} (h:Guess U u y y1 y0 q r) (hq:0<q) (hl:(U*4294967296+u)/y<q):Guess U u y y1 y0 (q -1) (r+y1):=by
 refine ⟨?_,by omega⟩
 have:=h.eq
 obtain ⟨k,rfl⟩:∃k,q=k+1:=⟨q -1,by omega⟩
 rw [Nat.add_sub_cancel]
 rw [Nat.succ_mul] at this
 omega
theorem Guess.done {U u y y1 y0 q r:Nat} (h:Guess U u y y1 y0 q r) (hy0:0<y) (hl:q*y≤U*4294967296+u):q=(U*4294967296+u)/y:=
 Nat.le_antisymm ((Nat.le_div_iff_mul_le hy0).2 hl) h.ge
theorem Guess.far {U u y y1 y0 q r:Nat} (h:Guess U u y y1 y0 q r) (hy:y=y1*4294967296+y0) (h0:y0<4294967296) (hq:q≤4294967296) (hr:4294967296≤r):q*y≤U*4294967296+u:=by
 have e1:q*y=q*y1*4294967296+q*y0:=by rw [hy,Nat.mul_add,Nat.mul_assoc]
 have:=h.eq
 have h2:q*y0≤4294967296*4294967295:=Nat.mul_le_mul hq (by omega)
 generalize q*y1=A at*
 generalize q*y0=B at*
 generalize q*y=C at*
 omega
theorem Guess.first {U u y y1 y0:Nat} (hy:y=y1*4294967296+y0) (h1:2147483648≤y1) (h0:y0<4294967296) (hu:u<4294967296) (hU:U<y):Guess U u y y1 y0 (U/y1) (U -U/y1*y1)∧U/y1≤4294967297∧U -U/y1*y1<4294967296+y1:=by
 have hd:=Nat.div_add_mod U y1
 have hm:=Nat.mod_lt U (show y1>0 by omega)
 have hc:y1*(U/y1)=U/y1*y1:=Nat.mul_comm _ _
 refine ⟨⟨by omega, ?_⟩, ?_,by omega⟩
 ·rw [←Nat.lt_succ_iff,Nat.div_lt_iff_lt_mul (by omega)]
  have e1:(U/y1).succ*y=(U/y1*y1+y1)*4294967296+(U/y1).succ*y0:=by
   rw [hy,Nat.mul_add,←Nat.mul_assoc,Nat.succ_mul]
  rw [e1]
  have:U+1≤U/y1*y1+y1:=by omega
  generalize U/y1*y1=A at*
  generalize (U/y1).succ*y0=B at*
  omega
 ·rw [←Nat.lt_succ_iff,Nat.div_lt_iff_lt_mul (by omega)]
  omega
theorem Cu {U u y:Nat} (hu:u<4294967296) (hU:U<y):(U*4294967296+u)/y<4294967296:=by
 rw [Nat.div_lt_iff_lt_mul (by omega)];omega
theorem Pg {U u y q:Nat} (hy:y<18446744073709551616) (hy0:0<y) (hq:q=(U*4294967296+u)/y):IntKind.u64.wrap (IntKind.u64.wrap (IntKind.u64.wrap ((U:Int)*4294967296)+(u:Int)) -IntKind.u64.wrap ((q:Int)*(y:Int)))=(((U*4294967296+u) % y:Nat):Int):=by
 have hd:=Nat.div_add_mod (U*4294967296+u) y
 have hm:=Nat.mod_lt (U*4294967296+u) hy0
 rw [←hq,Nat.mul_comm] at hd
 have e:(q:Int)*(y:Int)=((q*y:Nat):Int):=by push_cast;rfl
 rw [e,xt,xt,xt,xt]
 generalize (U*4294967296+u) % y=m at*
 generalize q*y=C at*
 omega
def J0r (w:World) (Y s y1 y0 U u1 u0:Nat) (t2 t8 t9 t10 t11 t13 t14 t15 t16:Int) (w':World):Prop:=
 w'=w∧t2=(Y:Int)∧t8=(s:Int)∧t9=(y1:Int)∧t10=(y0:Int)∧t11=(U:Int)∧t13=(u1:Int)∧t14=(u0:Int)∧∃q r:Nat,t15=(q:Int)∧t16=(r:Int)∧Guess U u1 Y y1 y0 q r∧r<4294967296∧q≤4294967297
def J2r (w:World) (Y s y1 y0 u0 Q1 R1:Nat) (t2 t8 t9 t10 t14 t15 t16 t17 t18:Int) (w':World):Prop:=
 w'=w∧t2=(Y:Int)∧t8=(s:Int)∧t9=(y1:Int)∧t10=(y0:Int)∧t14=(u0:Int)∧t15=(Q1:Int)∧t17=(R1:Int)∧∃q r:Nat,t18=(q:Int)∧t16=(r:Int)∧Guess R1 u0 Y y1 y0 q r∧r<4294967296∧q≤4294967297
theorem Uh {U y1:Nat} (hU:U<B64) (h1:0<y1):IntKind.u64.wrap ((U:Int) -IntKind.u64.wrap (((U/y1:Nat):Int)*(y1:Int)))=((U -U/y1*y1:Nat):Int)∧U -U/y1*y1<y1:=by
 have hB:=B64v
 have hd:=Nat.div_mul_le_self U y1
 have h2:=Nat.div_add_mod U y1
 have h3:=Nat.mod_lt U h1
 have h4:y1*(U/y1)=U/y1*y1:=Nat.mul_comm _ _
 have e:((U/y1:Nat):Int)*(y1:Int)=((U/y1*y1:Nat):Int):=by push_cast;rfl
 rw [e]
 generalize U/y1*y1=A at*
 refine ⟨?_,by omega⟩
 rw [yd (x:=(A:Int)) (by omega) (by omega),yd (by omega) (by omega)]
 omega
theorem exit1 {w:World} {Y s y1 y0 u0 Q1 R1:Nat} (eY:Y=y1*4294967296+y0) (hy1lo:2147483648≤y1) (hy1hi:y1<4294967296) (hy0lt:y0<4294967296) (hu0lt:u0<4294967296) (hR:R1<Y):semI pr .u64 (binOp .quo tU64 (.int .u64 (R1:Int)) (.int .u64 (y1:Int))) w fun x9 w8=>J2r w Y s y1 y0 u0 Q1 R1 Y s y1 y0 u0 Q1 (IntKind.u64.wrap ((R1:Int) -IntKind.u64.wrap (x9*(y1:Int)))) R1 x9 w8:=by
 have hB:=B64v
 obtain ⟨k1,k2,k3⟩:=Guess.first (u:=u0) eY hy1lo hy0lt hu0lt hR
 obtain ⟨e6,hm⟩:=Uh (U:=R1) (y1:=y1) (by omega) (by omega)
 refine semQuo (by omega) (by omega) ?_
 rw [e6]
 exact ⟨rfl,rfl,rfl,rfl,rfl,rfl,rfl,rfl,_,_,rfl,rfl,k1,by omega,k2⟩
theorem pk {w:World} {hi lo y:Nat} (hh:hi<y) (hl:lo<B64) (hy:y<B64):Calls pr bits_Div64_id #[.int .u64 (hi:Int), .int .u64 (lo:Int), .int .u64 (y:Int)] w fun e w'=>Ahead w w'∧e= .returned (.tuple #[.int .u64 (((hi*B64+lo)/y:Nat):Int), .int .u64 (((hi*B64+lo) % y:Nat):Int)]):=by
 have hB:=B64v
 obtain ⟨s,hs⟩:∃s,s=64 -bl y:=⟨_,rfl⟩
 have hbl:bl y≤64:=qc.2 hy
 have hbp:0<bl y:=vf (by omega)
 obtain ⟨Y,hY⟩:∃Y,Y=y*2^s:=⟨_,rfl⟩
 obtain ⟨M,hM⟩:∃M,M=(hi*B64+lo)*2^s:=⟨_,rfl⟩
 have hp:0<2^s:=Nat.pow_pos (by omega)
 have hYlo:9223372036854775808≤Y:=by
  have h1:2^(bl y -1)≤y:=by
   rcases Nat.lt_or_ge y (2^(bl y -1)) with h|h
   ·have:=vw h;omega
   ·exact h
  have h2:(2:Nat)^(bl y -1)*2^s=9223372036854775808:=by rw [←Nat.pow_add,show bl y -1+s=63 by omega]
  rw [hY,←h2]
  exact Nat.mul_le_mul_right _ h1
 have hYhi:Y<18446744073709551616:=by
  have h1:=qc.1 (Nat.le_refl (bl y))
  have h2:(2:Nat)^bl y*2^s=18446744073709551616:=by rw [←Nat.pow_add,show bl y+s=64 by omega]
  rw [hY,←h2]
  exact Nat.mul_lt_mul_of_pos_right h1 hp
 obtain ⟨y1,hy1⟩:∃y1,y1=Y/4294967296:=⟨_,rfl⟩
 obtain ⟨y0,hy0⟩:∃y0,y0=Y % 4294967296:=⟨_,rfl⟩
 obtain ⟨U,hU⟩:∃U,U=M/18446744073709551616:=⟨_,rfl⟩
 obtain ⟨L,hL⟩:∃L,L=M % 18446744073709551616:=⟨_,rfl⟩
 obtain ⟨u1,hu1⟩:∃u1,u1=L/4294967296:=⟨_,rfl⟩
 obtain ⟨u0,hu0⟩:∃u0,u0=L % 4294967296:=⟨_,rfl⟩
 have eY:Y=y1*4294967296+y0:=by omega
 have hUY:U<Y:=by
  rw [hU,Nat.div_lt_iff_lt_mul (by omega),hM,hY,Nat.mul_right_comm]
  refine Nat.mul_lt_mul_of_pos_right ?_ hp
  rw [←hB]
  calc hi*B64+lo<hi*B64+B64:=by omega
   _=(hi+1)*B64:=by rw [Nat.succ_mul]
   _≤y*B64:=Nat.mul_le_mul_right _ hh
 have hu1lt:u1<4294967296:=by omega
 have hu0lt:u0<4294967296:=by omega
 have hy0lt:y0<4294967296:=by omega
 have hy1lo:2147483648≤y1:=by omega
 have hy1hi:y1<4294967296:=by omega
 obtain ⟨Q1,hQ1⟩:∃Q1,Q1=(U*4294967296+u1)/Y:=⟨_,rfl⟩
 obtain ⟨R1,hR1⟩:∃R1,R1=(U*4294967296+u1) % Y:=⟨_,rfl⟩
 have hR1lt:R1<Y:=by rw [hR1];exact Nat.mod_lt _ (by omega)
 have hQ1lt:=Cu hu1lt hUY
 rw [←hQ1] at hQ1lt
 obtain ⟨Q0,hQ0⟩:∃Q0,Q0=(R1*4294967296+u0)/Y:=⟨_,rfl⟩
 have hQ0lt:=Cu hu0lt hR1lt
 rw [←hQ0] at hQ0lt
 have eM:M=(U*4294967296+u1)*4294967296+u0:=by omega
 have hq:(hi*B64+lo)/y=Q1*4294967296+Q0:=by
  have e1:(hi*B64+lo)/y=M/Y:=by rw [hM,hY,Nat.mul_div_mul_right _ _ hp]
  have d1:=Nat.div_add_mod (U*4294967296+u1) Y
  have d0:=Nat.div_add_mod (R1*4294967296+u0) Y
  rw [←hQ1,←hR1] at d1
  have m0:=Nat.mod_lt (R1*4294967296+u0) (show Y>0 by omega)
  rw [←hQ0] at d0
  rw [e1]
  refine Nat.div_eq_of_lt_le ?_ ?_
  ·rw [eM,←d1,Nat.add_mul,Nat.add_mul,Nat.mul_comm Y Q1]
   have:Q1*4294967296*Y=Q1*Y*4294967296:=Nat.mul_right_comm _ _ _
   have e3:Y*Q0=Q0*Y:=Nat.mul_comm _ _
   omega
  ·rw [eM,←d1,Nat.add_mul,Nat.succ_mul,Nat.add_mul,Nat.mul_comm Y Q1]
   have:Q1*4294967296*Y=Q1*Y*4294967296:=Nat.mul_right_comm _ _ _
   have e3:Y*Q0=Q0*Y:=Nat.mul_comm _ _
   omega
 have hr:(R1*4294967296+u0) % Y/2^s=(hi*B64+lo) % y:=by
  have e2:(R1*4294967296+u0) % Y=M % Y:=by
   rw [eM,hR1]
   have d1:=Nat.div_add_mod (U*4294967296+u1) Y
   rw [←hQ1] at d1
   conv=>rhs;rw [←d1,Nat.add_mul,Nat.mul_assoc,Nat.add_assoc,Nat.mul_add_mod]
  rw [e2,hM,hY,Nat.mul_mod_mul_right,Nat.mul_div_cancel _ hp]
 refine Pq hi lo y w _ (J0r w Y s y1 y0 U u1 u0) (fun _ _ _ _ _ _ _ t15 _ _=>t15.toNat) (J2r w Y s y1 y0 u0 Q1 R1)
  (fun _ _ _ _ _ _ _ _ t18 _=>t18.toNat) ?_ ?_ ?_
 ·refine zt (by simp;omega) (zt (by simp;omega) (zm (fun h0=> ?_) (fun h0=> ?_)))
  ·have h0':hi=0:=by simpa using h0
   refine fixQuo hl (by omega) (fixRem hl (by omega) fun w1 ha=>⟨ha, ?_⟩)
   rw [h0',Nat.zero_mul,Nat.zero_add]
  ·have hlz:=Tryz.bits_LeadingZeros64 (y:Int) w (by omega) (by omega)
   refine Calls.mono hlz ?_
   rintro e w1 ⟨rfl,rfl⟩
   have e3:(64:Int) -(Lib.bitLen ((y:Int)).toNat:Int)=(s:Int):=by
    rw [Int.toNat_natCast,cn hy];omega
   rw [e3]
   have e4:IntKind.u64.wrap (s:Int)=(s:Int):=yd (by omega) (by omega)
   have e5:IntKind.u64.wrap (64 -(s:Int))=((64 -s:Nat):Int):=by rw [yd (by omega) (by omega)];omega
   refine ⟨_,rfl, ?_⟩
   try dsimp only
   rw [e4,e5]
   refine semShl (by omega) (semShl (by omega) (semShr (by omega) (semShl (by omega) ?_)))
   have f1:y*2^s % B64=Y:=by rw [←hY];exact Nat.mod_eq_of_lt (by omega)
   have hhi:hi*2^s<B64:=by
    have:hi*2^s<y*2^s:=Nat.mul_lt_mul_of_pos_right hh hp
    omega
   have eM2:M=hi*2^s*18446744073709551616+lo*2^s:=by rw [hM,Nat.add_mul,hB,Nat.mul_right_comm]
   have hlo2:lo*2^s/18446744073709551616=lo/2^(64 -s):=by
    rw [show (18446744073709551616:Nat)=2^(64 -s)*2^s by rw [←Nat.pow_add,show 64 -s+s=64 by omega],Nat.mul_div_mul_right _ _ hp]
   have hlos:lo/2^(64 -s)<2^s:=by
    rw [Nat.div_lt_iff_lt_mul (Nat.pow_pos (by omega)),←Nat.pow_add,show s+(64 -s)=64 by omega]
    omega
   have f2:(hi*2^s % B64)|||(lo/2^(64 -s))=U:=by
    rw [Nat.mod_eq_of_lt hhi,Nat.mul_comm,←Nat.two_pow_add_eq_or_of_lt hlos,hU,eM2]
    rw [Nat.mul_comm (hi*2^s),Nat.mul_add_div (by omega),hlo2,Nat.mul_comm]
   have f3:lo*2^s % B64=L:=by rw [hL,eM2,Nat.mul_comm (hi*2^s),Nat.mul_add_mod,hB]
   have hlo3:lo/2^(64 -s)<B64:=Nat.lt_of_le_of_lt (Nat.div_le_self _ _) hl
   rw [f1,uj (Nat.mod_lt _ (by omega)) hlo3,f2,f3,show (4294967295:Int)=((4294967295:Nat):Int) from rfl,m9 (by omega) (by omega),m9 (by omega) (by omega)]
   have g1:∀x:Nat,Int.fdiv (x:Int) (2^(32:Nat))=((x/4294967296:Nat):Int):=fun x=>by
    have:=fdivN x 32
    exact this
   have g2:∀x:Nat,x&&&4294967295=x % 4294967296:=fun x=>Nat.and_two_pow_sub_one_eq_mod x 32
   rw [g1,g1,g2,g2,←hy1,←hu1,←hy0,←hu0]
   obtain ⟨k1,k2,k3⟩:=Guess.first (u:=u1) eY hy1lo hy0lt hu1lt hUY
   obtain ⟨e6,hm⟩:=Uh (U:=U) (y1:=y1) (by omega) (by omega)
   refine semQuo (by omega) (by omega) ?_
   rw [e6]
   exact ⟨rfl,rfl,rfl,rfl,rfl,rfl,rfl,rfl,_,_,rfl,rfl,k1,by omega,k2⟩
 ·rintro t2 t8 t9 t10 t11 t13 t14 t15 t16 w' ⟨rfl,rfl,rfl,rfl,rfl,rfl,rfl,rfl,q,r,rfl,rfl,hg,hr',hqm⟩
  have out:∀{t:Int},t=(Q1:Int)→IntKind.u64.wrap (IntKind.u64.wrap (IntKind.u64.wrap ((U:Int)*4294967296)+(u1:Int)) -IntKind.u64.wrap (t*(Y:Int)))=(R1:Int):=by
   rintro t rfl
   rw [Pg (by omega) (by omega) hQ1,hR1]
  have e2:IntKind.u64.wrap ((r:Int)+(y1:Int))=((r+y1:Nat):Int):=by rw [yd (by omega) (by omega)];omega
  have dec:Q1<q→br (decide (IntKind.u64.wrap ((r:Int)+(y1:Int))≥4294967296))
    (semI pr .u64 (binOp .quo tU64 (.int .u64 (IntKind.u64.wrap (IntKind.u64.wrap (IntKind.u64.wrap ((U:Int)*4294967296)+(u1:Int)) -IntKind.u64.wrap (IntKind.u64.wrap ((q:Int) -1)*(Y:Int))))) (.int .u64 (y1:Int))) w' fun x9 w8=>
     J2r w' Y s y1 y0 u0 Q1 R1 Y s y1 y0 u0 (IntKind.u64.wrap ((q:Int) -1)) (IntKind.u64.wrap (IntKind.u64.wrap (IntKind.u64.wrap (IntKind.u64.wrap ((U:Int)*4294967296)+(u1:Int)) -IntKind.u64.wrap (IntKind.u64.wrap ((q:Int) -1)*(Y:Int))) -IntKind.u64.wrap (x9*(y1:Int))))
      (IntKind.u64.wrap (IntKind.u64.wrap (IntKind.u64.wrap ((U:Int)*4294967296)+(u1:Int)) -IntKind.u64.wrap (IntKind.u64.wrap ((q:Int) -1)*(Y:Int)))) x9 w8)
    (J0r w' Y s y1 y0 U u1 u0 Y s y1 y0 U u1 u0 (IntKind.u64.wrap ((q:Int) -1)) (IntKind.u64.wrap ((r:Int)+(y1:Int))) w'∧(IntKind.u64.wrap ((q:Int) -1)).toNat<((q:Int)).toNat):=by
   intro hlt
   have hg':=hg.less (by omega) (by omega)
   have e1:IntKind.u64.wrap ((q:Int) -1)=((q -1:Nat):Int):=by rw [yd (by omega) (by omega)];omega
   refine zm (fun h=> ?_) (fun h=> ?_)
   ·rw [e2] at h
    have hf:=hg'.done (by omega) (hg'.far eY hy0lt (by omega) (by simp at h;omega))
    rw [out (by rw [e1];omega),e1,show q -1=Q1 by omega]
    exact exit1 eY hy1lo hy1hi hy0lt hu0lt hR1lt
   ·rw [e2] at h⊢
    rw [e1]
    exact ⟨⟨rfl,rfl,rfl,rfl,rfl,rfl,rfl,rfl,_,_,rfl,rfl,hg',by simp at h;omega,by omega⟩,by omega⟩
  refine zm (fun h1=>dec (by simp at h1;omega)) (fun h1=> ?_)
  have h1':q<4294967296:=by simp at h1;omega
  have m1:q*y0≤4294967295*4294967295:=Nat.mul_le_mul (by omega) (by omega)
  have e3:IntKind.u64.wrap ((q:Int)*(y0:Int))=((q*y0:Nat):Int):=by
   have e:(q:Int)*(y0:Int)=((q*y0:Nat):Int):=by push_cast;rfl
   rw [e,yd (by omega) (by omega)]
  have e4:IntKind.u64.wrap (IntKind.u64.wrap (4294967296*(r:Int))+(u1:Int))=((4294967296*r+u1:Nat):Int):=by
   rw [yd (x:=4294967296*(r:Int)) (by omega) (by omega),yd (by omega) (by omega)];omega
  rw [e3,e4]
  have ho:=hg.over eY
  refine zm (fun h2=>dec ?_) (fun h2=> ?_)
  ·have:=ho.1 (by simp at h2;omega)
   rw [hQ1,Nat.div_lt_iff_lt_mul (by omega)]
   exact this
  ·have hle:q*Y≤U*4294967296+u1:=by
    rcases Nat.lt_or_ge (U*4294967296+u1) (q*Y) with h|h
    ·have:=ho.2 h;simp at h2;omega
    ·exact h
   have hf:=hg.done (by omega) hle
   rw [out (by omega),show q=Q1 by omega]
   exact exit1 eY hy1lo hy1hi hy0lt hu0lt hR1lt
 ·rintro t2 t8 t9 t10 t14 t15 t16 t17 t18 w' ⟨rfl,rfl,rfl,rfl,rfl,rfl,rfl,rfl,q,r,rfl,rfl,hg,hr',hqm⟩
  have out:∀{t:Int},t=(Q0:Int)→IntKind.u64.wrap (IntKind.u64.wrap (IntKind.u64.wrap ((R1:Int)*4294967296)+(u0:Int)) -IntKind.u64.wrap (t*(Y:Int)))=(((R1*4294967296+u0) % Y:Nat):Int):=by
   rintro t rfl
   rw [Pg (by omega) (by omega) hQ0]
  have e2:IntKind.u64.wrap ((r:Int)+(y1:Int))=((r+y1:Nat):Int):=by rw [yd (by omega) (by omega)];omega
  have eq:IntKind.u64.wrap (IntKind.u64.wrap ((Q1:Int)*4294967296)+(Q0:Int))=(((hi*B64+lo)/y:Nat):Int):=by
   rw [hq,yd (x:=(Q1:Int)*4294967296) (by omega) (by omega),yd (by omega) (by omega)];omega
  have fin:semI pr .u64 (binOp .shr tU64 (.int .u64 (((R1*4294967296+u0) % Y:Nat):Int)) (.int .u64 (s:Int))) w' fun x10 w9=>
    Ahead w' w9∧Ending.returned (.tuple #[.int .u64 (((hi*B64+lo)/y:Nat):Int), .int .u64 x10])= .returned (.tuple #[.int .u64 (((hi*B64+lo)/y:Nat):Int), .int .u64 (((hi*B64+lo) % y:Nat):Int)]):=by
   refine semShr (by omega) ⟨Ahead.refl _, ?_⟩
   rw [hr]
  have dec:Q0<q→br (decide (IntKind.u64.wrap ((r:Int)+(y1:Int))≥4294967296))
    (semI pr .u64 (binOp .shr tU64 (.int .u64 (IntKind.u64.wrap (IntKind.u64.wrap (IntKind.u64.wrap ((R1:Int)*4294967296)+(u0:Int)) -IntKind.u64.wrap (IntKind.u64.wrap ((q:Int) -1)*(Y:Int))))) (.int .u64 (s:Int))) w' fun x10 w9=>
     Ahead w' w9∧Ending.returned (.tuple #[.int .u64 (IntKind.u64.wrap (IntKind.u64.wrap ((Q1:Int)*4294967296)+IntKind.u64.wrap ((q:Int) -1))), .int .u64 x10])= .returned (.tuple #[.int .u64 (((hi*B64+lo)/y:Nat):Int), .int .u64 (((hi*B64+lo) % y:Nat):Int)]))
    (J2r w' Y s y1 y0 u0 Q1 R1 Y s y1 y0 u0 Q1 (IntKind.u64.wrap ((r:Int)+(y1:Int))) R1 (IntKind.u64.wrap ((q:Int) -1)) w'∧(IntKind.u64.wrap ((q:Int) -1)).toNat<((q:Int)).toNat):=by
   intro hlt
   have hg':=hg.less (by omega) (by omega)
   have e1:IntKind.u64.wrap ((q:Int) -1)=((q -1:Nat):Int):=by rw [yd (by omega) (by omega)];omega
   refine zm (fun h=> ?_) (fun h=> ?_)
   ·rw [e2] at h
    have hf:=hg'.done (by omega) (hg'.far eY hy0lt (by omega) (by simp at h;omega))
    rw [out (by rw [e1];omega),e1,show q -1=Q0 by omega,eq]
    exact fin
   ·rw [e2] at h⊢
    rw [e1]
    exact ⟨⟨rfl,rfl,rfl,rfl,rfl,rfl,rfl,rfl,_,_,rfl,rfl,hg',by simp at h;omega,by omega⟩,by omega⟩
  refine zm (fun h1=>dec (by simp at h1;omega)) (fun h1=> ?_)
  have h1':q<4294967296:=by simp at h1;omega
  have m1:q*y0≤4294967295*4294967295:=Nat.mul_le_mul (by omega) (by omega)
  have e3:IntKind.u64.wrap ((q:Int)*(y0:Int))=((q*y0:Nat):Int):=by
   have e:(q:Int)*(y0:Int)=((q*y0:Nat):Int):=by push_cast;rfl
   rw [e,yd (by omega) (by omega)]
  have e4:IntKind.u64.wrap (IntKind.u64.wrap (4294967296*(r:Int))+(u0:Int))=((4294967296*r+u0:Nat):Int):=by
   rw [yd (x:=4294967296*(r:Int)) (by omega) (by omega),yd (by omega) (by omega)];omega
  rw [e3,e4]
  have ho:=hg.over eY
  refine zm (fun h2=>dec ?_) (fun h2=> ?_)
  ·have:=ho.1 (by simp at h2;omega)
   rw [hQ0,Nat.div_lt_iff_lt_mul (by omega)]
   exact this
  ·have hle:q*Y≤R1*4294967296+u0:=by
    rcases Nat.lt_or_ge (R1*4294967296+u0) (q*Y) with h|h
    ·have:=ho.2 h;simp at h2;omega
    ·exact h
   have hf:=hg.done (by omega) hle
   rw [out (by omega),show q=Q0 by omega,eq]
   exact fin
end Nat
end
section
open Go Go.RowKit Eng Sp Dg
namespace Nat
theorem za7 {V P A x m c s c' B:Nat} (h:s+B*c'=x*m+c) (ih:V+c*P=A*m):V+P*s+c'*(P*B)=(A+P*x)*m:=by
 have e1:P*(s+B*c')=P*s+c'*(P*B):=by rw [Nat.mul_add];congr 1;ac_rfl
 have e2:P*(x*m+c)=P*x*m+c*P:=by rw [Nat.mul_add,Nat.mul_assoc,Nat.mul_comm c P]
 rw [Nat.add_mul,←ih,Nat.add_assoc,←e1,h,e2];omega
theorem Dt {x m c B:Nat} (hx:x<B) (hm:m<B) (hc:c<B):(x*m % B+c) % B+B*(x*m/B+(x*m % B+c)/B)=x*m+c∧x*m/B+(x*m % B+c)/B<B:=by
 have hB:0<B:=by omega
 have d1:=Nat.mod_add_div (x*m) B
 have d2:=Nat.mod_add_div (x*m % B+c) B
 have e:(x*m % B+c) % B+B*(x*m/B+(x*m % B+c)/B)=x*m+c:=by rw [Nat.mul_add];omega
 refine ⟨e, ?_⟩
 have h1:x*m≤(B -1)*(B -1):=Nat.mul_le_mul (by omega) (by omega)
 have h2:(B -1)*(B -1)+(B -1)=(B -1)*B:=by
  obtain ⟨k,rfl⟩:∃k,B=k+1:=⟨B -1,by omega⟩
  rw [Nat.add_sub_cancel,Nat.mul_succ]
 have h3:B*(x*m/B+(x*m % B+c)/B)≤B*(B -1):=by rw [Nat.mul_comm B (B -1)];omega
 have:=Nat.le_of_mul_le_mul_left h3 hB
 omega
theorem zaf {w p} {a:List Nat} {m:Nat} (hp:Rd .u64 w p (nn a)) (la:a.length≤2^44) (oa:ok B64 a) (hm:m<B64):Calls pr nat_Times_id #[p.v, .int .u64 (m:Int)] w (Ret w (bigC (val B64 a*m)) (val B64 a*m)):=by
 have hB:=B64v
 have hlen:=tr oa
 have hA0:val B64 (digs B64 (val B64 a))=val B64 a:=zu two64 _
 have hoA:=yb two64 (val B64 a)
 generalize hA:digs B64 (val B64 a)=A at*
 refine H4 p m w _ (fun t0 t1 c t7 t20 t21 t22 w'=>t0.n=A.length∧t1=(m:Int)∧t21=(A.length:Int)∧∃(l:List Nat) (j cr:Nat),t7=(cr:Int)∧cr<B64∧t22=(j:Int)∧j≤A.length∧
  Fill w w' c l (fun w'=>Rd .u64 w' t20 (nn A))∧l.length=A.length+1∧ok B64 l∧val B64 (l.take j)+cr*B64^j=val B64 (A.take j)*m) (fun _ _ _ _ _ n i _=>(n -i).toNat) ?_ ?_
 ·refine Calls.mono (Zx hp la oa) ?_
  rw [hA]
  rintro e w' ⟨rfl,s,rfl,hsn,hs⟩
  refine ⟨_,rfl, ?_⟩
  try dsimp only
  rw [hsn,zp (x:=(A.length:Int)+1) (by omega) (by omega)]
  refine mkF (w0:=w') (S:=fun w'=>Rd .u64 w' s (nn A)) (by omega) (by omega) (Ahead.refl _) hs ?_
  intro c w3 hcn hf ha
  exact ⟨by first|exact hsn|rfl,rfl,rfl,_,0,0,rfl,by omega,rfl,Nat.zero_le _,hf,by simp,yr (by omega) _,by simp [val]⟩
 ·rintro t0 t1 c t7 t20 t21 t22 w' ⟨htn,rfl,rfl,l,j,cr,rfl,hcr,rfl,hj,hf,hl,ol,hv⟩
  have hS:=hf.src (fun _ h hs=>Rd.ahead hs h)
  refine zm (fun hlt=> ?_) (fun hge=> ?_)
  ·have hj':j<A.length:=by simpa using hlt
   have hx:=yi hoA (by omega:0<B64) j
   refine ldN hS (by omega) (by omega) ?_
   rw [Int.toNat_natCast]
   refine Calls.mono (Tryz.bits_Mul64 _ _ (by omega) (by omega) _) ?_
   rintro e w4 ⟨rfl,rfl⟩
   refine ⟨_,_,rfl, ?_⟩
   try dsimp only
   rw [←B64v]
   refine add64 (c:=0) (by omega) ?_
   refine stF hf (by omega) (by omega) ?_
   intro w7 hf7
   rw [Int.toNat_natCast] at hf7
   simp only [Nat.add_zero] at hf7⊢
   obtain ⟨r1,r2⟩:=Dt hx hm hcr
   have hsB:(A.getD j 0*m % B64+cr) % B64<B64:=Nat.mod_lt _ (by omega)
   generalize (A.getD j 0*m % B64+cr) % B64=s at*
   generalize A.getD j 0*m/B64=hi' at*
   generalize (A.getD j 0*m % B64+cr)/B64=c1 at*
   have ec:IntKind.u64.wrap ((hi':Int)+(c1:Int))=((hi'+c1:Nat):Int):=by rw [yd (by omega) (by omega)];omega
   have e8:IntKind.i64.wrap ((j:Int)+1)=((j+1:Nat):Int):=by rw [zp (by omega) (by omega)];omega
   rw [ec,e8]
   refine ⟨⟨htn,by trivial,by trivial,_,j+1,_,rfl,r2,rfl,by omega,hf7,by simpa using hl,xb ol hsB, ?_⟩,by omega⟩
   rw [xu _ _ _ (by omega),yj,Nat.pow_succ]
   exact za7 r1 hv
  ·have hj':j=A.length:=by simp at hge;omega
   subst hj'
   rw [htn]
   refine stF hf (by omega) (by omega) ?_
   intro w8 hf8
   rw [Int.toNat_natCast] at hf8
   have hfin:val B64 (l.set A.length cr)=val B64 a*m:=by
    rw [←yx (l.set A.length cr) (m:=A.length+1) (by simp;omega),xu _ _ _ (by omega),Nat.mul_comm,hv,yx A (Nat.le_refl _),hA0]
   refine Calls.mono (hf8.told (by simp;omega) (xb ol hcr)) ?_
   rw [hfin]
   intro e w3 h
   obtain ⟨h1,s,rfl,h2⟩:=h.ret
   exact ⟨_,_,rfl,h1,_,rfl,h2⟩
def RetQ (w:World) (code:Int) (Q r:Nat) (e:Ending) (w':World):Prop:=
 Ahead w w'∧∃s,e= .returned (.tuple #[Slc.v s, .int .u64 (if code=0 then r else 0:Nat), .int .i64 code])∧OwnNil w.heap.size w' s (if code=0 then digs B64 Q else [])
def thC (x d:Nat):Int:=if d=0 then 1 else bigC (x/d)
theorem kx (l:List Nat) (i q:Nat) (h:i<l.length):(l.set i q).drop i=q::l.drop (i+1):=by
 apply List.ext_getElem?
 intro k
 rw [List.getElem?_drop]
 cases k with
 |zero=>simp [h]
 |succ k=>
  rw [List.getElem?_set_ne (by omega)]
  simp;congr 1;omega
theorem zcg {r x d B:Nat} (hr:r<d) (hx:x<B):(r*B+x)/d<B:=by
 rw [Nat.div_lt_iff_lt_mul (by omega)]
 have:(r+1)*B≤d*B:=Nat.mul_le_mul_right _ hr
 rw [Nat.succ_mul] at this
 rw [Nat.mul_comm B d];omega
theorem jn {w p} {a:List Nat} {d:Nat} (hp:Rd .u64 w p (nn a)) (la:a.length≤2^44) (oa:ok B64 a) (hd:d<B64):Calls pr nat_Through_id #[p.v, .int .u64 (d:Int)] w (RetQ w (thC (val B64 a) d) (val B64 a/d) (val B64 a % d)):=by
 have hB:=B64v
 have hlen:=tr oa
 have hA0:val B64 (digs B64 (val B64 a))=val B64 a:=zu two64 _
 have hoA:=yb two64 (val B64 a)
 generalize hA:digs B64 (val B64 a)=A at*
 refine T7 p d w _ (fun t0 t1 c t8 t9 w'=>0<d∧t1=(d:Int)∧∃(l:List Nat) (j r:Nat),t8=(r:Int)∧r<d∧t9=(j:Int) -1∧j≤A.length∧
  Fill w w' c l (fun w'=>Rd .u64 w' t0 (nn A))∧l.length=A.length∧ok B64 l∧val B64 (A.drop j)=val B64 (l.drop j)*d+r) (fun _ _ _ _ i _=>(i+1).toNat) ?_ ?_
 ·refine zm (fun h0=> ?_) (fun h0=> ?_)
  ·have h0':d=0:=by simpa using h0
   have hc:thC (val B64 a) d=1:=if_pos h0'
   rw [hc]
   exact ⟨Ahead.refl _,_,rfl,OwnNil.nil⟩
  ·have h0':0<d:=by simp at h0;omega
   refine Calls.mono (Zx hp la oa) ?_
   rw [hA]
   rintro e w' ⟨rfl,s,rfl,hsn,hs⟩
   refine ⟨_,rfl, ?_⟩
   try dsimp only
   rw [hsn,zp (x:=(A.length:Int) -1) (by omega) (by omega)]
   refine mkF (w0:=w') (S:=fun w'=>Rd .u64 w' s (nn A)) (by omega) (by omega) (Ahead.refl _) hs ?_
   intro c w3 hcn hf ha
   refine ⟨h0',rfl,_,A.length,0,rfl,h0',rfl,Nat.le_refl _,hf,by simp,yr (by omega) _, ?_⟩
   rw [List.drop_eq_nil_of_le (Nat.le_refl _),List.drop_eq_nil_of_le (by simp)];simp [val]
 ·rintro t0 t1 c t8 t9 w' ⟨h0,rfl,l,j,r,rfl,hr,rfl,hj,hf,hl,ol,hv⟩
  have hS:=hf.src (fun _ h hs=>Rd.ahead hs h)
  refine zm (fun hge=> ?_) (fun hlt=> ?_)
  ·have hj':1≤j:=by simp at hge;omega
   have e1:((j:Int) -1)=((j -1:Nat):Int):=by omega
   have hx:=yi hoA (by omega:0<B64) (j -1)
   rw [e1]
   refine ldN hS (by omega) (by omega) ?_
   rw [Int.toNat_natCast]
   refine Calls.mono (pk hr hx hd) ?_
   rintro e w4 ⟨h4,rfl⟩
   refine ⟨_,_,rfl, ?_⟩
   have hf4:=hf.ahead h4
   refine stF hf4 (by omega) (by omega) ?_
   intro w6 hf6
   rw [Int.toNat_natCast] at hf6
   have hq:=zcg hr hx
   have hm:=Nat.mod_lt (r*B64+A.getD (j -1) 0) h0
   have hdm:=Nat.mod_add_div (r*B64+A.getD (j -1) 0) d
   rw [zp (by omega) (by omega)]
   refine ⟨⟨h0,by trivial,_,j -1,_,rfl,hm,rfl,by omega,hf6,by simpa using hl,xb ol hq, ?_⟩,by omega⟩
   rw [kx _ _ _ (by omega),List.drop_eq_getElem_cons (by omega:j -1<A.length),←xx _ 0,show j -1+1=j by omega]
   simp only [val]
   rw [hv]
   generalize (r*B64+A.getD (j -1) 0)/d=q at*
   generalize (r*B64+A.getD (j -1) 0) % d=m at*
   generalize A.getD (j -1) 0=x at*
   generalize val B64 (l.drop j)=V at*
   rw [Nat.mul_add,Nat.add_mul,←Nat.mul_assoc,Nat.mul_comm B64 r,Nat.mul_comm q d]
   omega
  ·have hj':j=0:=by simp at hlt;omega
   subst hj'
   rw [List.drop_zero,List.drop_zero,hA0] at hv
   have hq:val B64 l=val B64 a/d:=by
    rw [hv,Nat.add_comm,Nat.add_mul_div_right _ _ h0,Nat.div_eq_of_lt hr];omega
   have hm:r=val B64 a % d:=by
    rw [hv,Nat.add_comm,Nat.add_mul_mod_self_right,Nat.mod_eq_of_lt hr]
   refine Calls.mono (hf.told (by omega) ol) ?_
   rw [hq]
   intro e w3 h
   obtain ⟨h1,s,rfl,h2⟩:=h.ret
   have hc:thC (val B64 a) d=bigC (val B64 a/d):=if_neg (by omega)
   rw [←hc] at h2⊢
   refine ⟨_,_,rfl,zm (fun hz=> ?_) (fun hz=> ?_)⟩
   ·have hz':¬thC (val B64 a) d=0:=by simpa using hz
    refine ⟨h1,_,by rw [if_neg hz'];rfl, ?_⟩
    rw [if_neg hz'];exact OwnNil.nil
   ·have hz':thC (val B64 a) d=0:=by simpa using hz
    rw [hz',if_pos rfl] at h2
    rw [hz',←hm]
    exact ⟨h1,_,rfl,h2⟩
theorem Zk {w p} {x m:Nat} (hp:Num w p x) (hm:m<B64):Calls pr nat_Times_id #[p.v, .int .u64 (m:Int)] w (Ret w (bigC (x*m)) (x*m)):=by
 obtain ⟨a,ra,la,oa,rfl⟩:=hp
 exact zaf ra la oa hm
theorem ga {w p} {x d:Nat} (hp:Num w p x) (hd:d<B64):Calls pr nat_Through_id #[p.v, .int .u64 (d:Int)] w (RetQ w (thC x d) (x/d) (x % d)):=by
 obtain ⟨a,ra,la,oa,rfl⟩:=hp
 exact jn ra la oa hd
end Nat
end
section
open Go Go.RowKit Eng
open _root_.Go.IntKind (wrap)
def Fj (J0:Slc→Int→Slc→Int→World→Prop) (m0:Slc→Int→Slc→Int→World→Nat):Nat→Option ((Act→World→Prop)×(Act→World→Nat))
 |0=>some (fun a_ w_=>atSz a_ 63 (atS a_ 0 fun t0_a=>atI .i64 a_ 1 fun t1_n=>atS a_ 7 fun t7_out=>atI .i64 a_ 8 fun t8_i=>J0 t0_a t1_n t7_out t8_i w_),fun a_ w_=>mS a_ 0 fun t0_a=>mI a_ 1 fun t1_n=>mS a_ 7 fun t7_out=>mI a_ 8 fun t8_i=>m0 t0_a t1_n t7_out t8_i w_)
 |_=>none
theorem fr (ag:Slc) (af:Int) (w:World) (R:Ending→World→Prop) (J0:Slc→Int→Slc→Int→World→Prop) (m0:Slc→Int→Slc→Int→World→Nat) (h:br (decide (af<0)) (R (.returned (.tuple #[nSl.v,vi 1])) w) (kS 85 #[ag.v] w fun w1 s1=>(br (af==0) (kS 84 #[.int .u64 1] w1 fun w2 s2=>(R (.returned (.tuple #[s2.v,vi 0])) w2)) (kI 46 #[s1.v] w1 fun w3 x1=>(br (decide (x1≤1)) (R (.returned (.tuple #[s1.v,vi 0])) w3) (br (decide (af>67108864)) (R (.returned (.tuple #[nSl.v,vi 3])) w3) (br (decide ((wrap .i64 ((wrap .i64 ((wrap .i64 (x1 -1))*af))+1))>67108864)) (R (.returned (.tuple #[nSl.v,vi 3])) w3) (kS 84 #[.int .u64 1] w3 fun w4 s3=>(J0 s1 af s3 62 w4))))))))) (h0:∀ac ad aa ab w_,J0 ac ad aa ab w_→br (decide (ab≥0)) (br (decide ((aa.n:Int)>0)) (Calls pr 147 #[aa.v] w_ fun e5 w5=>∃s4:Slc,∃x2:Int,e5= .returned (.tuple #[s4.v,vi x2])∧(br (x2 !=0) (R (.returned (.tuple #[nSl.v,vi x2])) w5) (semI pr .i64 (binOp .shr 3 (vi ad) (vi ab)) w5 fun x3 w6=>br ((andI .i64 x3 1)==1) (Calls pr 79 #[s4.v,ac.v] w6 fun e6 w7=>∃s5:Slc,∃x4:Int,e6= .returned (.tuple #[s5.v,vi x4])∧(br (x4 !=0) (R (.returned (.tuple #[nSl.v,vi x4])) w7) (J0 ac ad s5 (wrap .i64 (ab -1)) w7∧m0 ac ad s5 (wrap .i64 (ab -1)) w7<m0 ac ad aa ab w_))) (J0 ac ad s4 (wrap .i64 (ab -1)) w6∧m0 ac ad s4 (wrap .i64 (ab -1)) w6<m0 ac ad aa ab w_)))) (semI pr .i64 (binOp .shr 3 (vi ad) (vi ab)) w_ fun x5 w8=>br ((andI .i64 x5 1)==1) (Calls pr 79 #[aa.v,ac.v] w8 fun e7 w9=>∃s6:Slc,∃x6:Int,e7= .returned (.tuple #[s6.v,vi x6])∧(br (x6 !=0) (R (.returned (.tuple #[nSl.v,vi x6])) w9) (J0 ac ad s6 (wrap .i64 (ab -1)) w9∧m0 ac ad s6 (wrap .i64 (ab -1)) w9<m0 ac ad aa ab w_))) (J0 ac ad aa (wrap .i64 (ab -1)) w8∧m0 ac ad aa (wrap .i64 (ab -1)) w8<m0 ac ad aa ab w_))) (R (.returned (.tuple #[aa.v,vi 0])) w_)):Calls pr 125 #[ag.v,vi af] w R:=by
 refine zk (Fj J0 m0) (by kernel_rfl) Tryz.func125 rfl ?_ ?_
 ·refine kcast h ?_;kernel_rfl
 ·exact (za rfl (ze (za rfl (za rfl (ze (zh (za rfl (ze (zg (zi (za rfl (ze (za rfl (za rfl (ze (zh (za rfl (ze (zg (zi (za rfl (ze (za rfl (za rfl (ze (zh (za rfl (ze (zg (zi (za rfl (za rfl (ze (zh (za rfl (ze (zg (zi (za rfl (ze (za rfl (za rfl (ze (yg _ rfl (fun a_ w_ ae=>(by
  obtain ⟨ah,ai,ae⟩:=ya ae
  obtain ⟨ac,aj,ae⟩:=zr ae
  obtain ⟨ad,ak,ae⟩:=zq ae
  obtain ⟨aa,al,ae⟩:=zr ae
  obtain ⟨ab,am,ae⟩:=zq ae
  obtain ⟨g0,rfl⟩:∃g,a_=Fr 63 [(0,ac.v),(1,vi ad),(7,aa.v),(8,vi ab)] g:=⟨_,yp ah ai _ (zf aj (zf ak (zf al (zf am yc))))⟩
  clear ah ai aj ak al am
  have an:=ae
  refine ⟨(fun _=>none),kcast (h0 ac ad aa ab w_ an) ?_, ?_⟩
  ·kernel_rfl
  ·exact (za rfl (za rfl (ze (zh (zi (ye (za rfl (yh rfl (za rfl (ze (za rfl (za rfl (ze (zh (za rfl (ze (za rfl (ze (zh (za rfl (ze (zg (zi (zi (za rfl (ze (zh (za rfl (ze (za rfl (ze (zh (za rfl (ze (zg (zi (zi (ze trivial)))))))))))))))))))))))))))))))))))))))) (za rfl (ze (zg trivial)))))))))))))))))))))))))))))))))))))))))))))))
end
section
open Go Go.RowKit Eng Sp Dg
namespace Mul
open _root_.Go.Proofs.YtbeiopoejdkheaaGreatDoor.Nat (Num OwnNil OwnNil.nil OwnNil.rd OwnNil.mono OwnNil.ahead Ret bigC xc zw Yes xj xf yn xk Zk ga thC xe Hf)
theorem semShrI {x y:Nat} {t:TypeId} {w:World} {K:Int→World→Prop} (hy:y<64) (h:K ((x/2^y:Nat):Int) w):semI pr .i64 (binOp .shr t (.int .i64 (x:Int)) (.int .i64 (y:Int))) w K:=by
 have e:binOp .shr t (.int .i64 (x:Int)) (.int .i64 (y:Int))=pure (.int .i64 ((x/2^y:Nat):Int)):=by
  rw [binOp_shr,shift_shr_any .i64 .i64 _ _ (by omega)]
  have:min ((y:Int)).toNat IntKind.i64.bits=y:=by
   have:IntKind.i64.bits=64:=rfl
   rw [this];omega
  rw [this]
  congr 2
 unfold semI
 rw [e,Sem.wp_iff_run]
 exact ⟨_,rfl,h⟩
theorem zce {x n m:Nat} (h:m≤n) (hb:bl x*n≤67108864):bl (x^m)≤67108864:=by
 have h1:x^m<2^(bl x*m+1):=by
  refine Nat.lt_of_le_of_lt (Nat.pow_le_pow_left (Nat.le_of_lt (uv x)) m) ?_
  rw [←Nat.pow_mul]
  exact Nat.pow_lt_pow_right (by omega) (by omega)
 rcases Nat.eq_zero_or_pos m with h0|h0
 ·subst h0
  rw [Nat.pow_zero]
  exact Nat.le_trans (vw (k:=1) (by omega)) (by omega)
 ·have:x^m<2^(bl x*m):=by
   rw [Nat.pow_mul]
   exact Nat.pow_lt_pow_left (uv x) (by omega)
  exact Nat.le_trans (vw this) (Nat.le_trans (Nat.mul_le_mul_left _ h) hb)
theorem ff {w a} {x n:Nat} (ha:Num w a x) (hx:2≤bl x) (h0:1≤n) (hb:bl x*n≤67108864):Calls pr mul_Pow_id #[a.v, .int .i64 (n:Int)] w (Ret w 0 (x^n)):=by
 have hB:=B64v
 have hn:n≤67108864:=Nat.le_trans (Nat.le_mul_of_pos_left n (by omega)) hb
 have hxb:bl x≤67108864:=Nat.le_trans (Nat.le_mul_of_pos_right (bl x) h0) hb
 have hne:x≠0:=fun h=>by rw [h,xm] at hx;omega
 have lx:=zw (N:=x) (m:=2^20) (by omega)
 have lp:∀m,m≤n→bl (x^m)≤67108864∧(digs B64 (x^m)).length≤2^20:=fun m h=>⟨zce h hb,zw (m:=2^20) (by have:=zce h hb;omega)⟩
 refine fr a _ w _ (fun s t out i w'=>t=(n:Int)∧∃j:Nat,i=(j:Int) -1∧j≤63∧Ahead w w'∧OwnNil w.heap.size w' s (digs B64 x)∧OwnNil w.heap.size w' out (digs B64 (x^(n/2^j)))) (fun _ _ _ i _=>(i+1).toNat) ?_ ?_
 ·refine zt (decide_eq_false (by omega)) ?_
  obtain ⟨l,rl,ll,ol,vl⟩:=ha
  refine Calls.mono (yn rl ll ol) ?_
  rw [vl]
  rintro e w1 ⟨h1,s,rfl,os⟩
  refine ⟨_,rfl,zt (beq_eq_false_iff_ne.2 (by omega)) (Calls.mono (xe (xf os hxb)) ?_)⟩
  rintro e w2 ⟨rfl,rfl⟩
  refine ⟨_,rfl,zt (decide_eq_false (by omega)) (zt (decide_eq_false (by omega)) ?_)⟩
  have hm:(bl x -1)*n+1≤67108864:=by
   have:(bl x -1)*n+n=bl x*n:=by rw [←Nat.succ_mul];congr 1;omega
   omega
  have e1:((bl x:Int) -1)*(n:Int)=(((bl x -1)*n:Nat):Int):=by rw [Int.natCast_mul];congr 1;omega
  rw [zp (x:=(bl x:Int) -1) (by omega) (by omega),e1,zp (x:=(((bl x -1)*n:Nat):Int)) (by omega) (by omega),zp (by omega) (by omega)]
  refine zt (decide_eq_false (by omega)) ?_
  refine Calls.mono (xk (v:=1) (by omega)) ?_
  rintro e w3 ⟨h3,t,rfl,ot⟩
  refine ⟨_,rfl,rfl,63,rfl,Nat.le_refl _,h1.trans h3,os.ahead h3, ?_⟩
  try dsimp only
  rw [Nat.div_eq_of_lt (by omega),Nat.pow_zero]
  exact ot.mono h1.size
 ·rintro s t out i w1 ⟨rfl,j,rfl,hj,h1,os,oo⟩
  refine zm (fun hge=> ?_) (fun hlt=> ?_)
  ·have hj':1≤j:=by have:=of_decide_eq_true hge;omega
   have hle:n/2^j≤n:=Nat.div_le_self _ _
   have hle2:n/2^(j -1)≤n:=Nat.div_le_self _ _
   have hdd:n/2^(j -1)/2=n/2^j:=by
    rw [Nat.div_div_eq_div_mul,←Nat.pow_succ];congr 2;omega
   have hpos:0<x^(n/2^j):=Nat.pow_pos (by omega)
   have hlen:0<out.n:=by
    rw [oo.rd.n,nn_length]
    exact List.length_pos_iff.2 (xv two64 (by omega))
   have lo:=lp _ hle
   have l2:=lp _ hle2
   have hsq:x^(n/2^j)*x^(n/2^j)=x^(2*(n/2^j)):=by rw [←Nat.pow_add];congr 1;omega
   have lsq:=lp (2*(n/2^j)) (by omega)
   have no:Num w1 out (x^(n/2^j)):=xf oo lo.1
   refine yz (decide_eq_true (by omega)) (Ma out w1 _ (Calls.mono (m7 no no (by omega) (by omega)) ?_))
   rw [hsq]
   intro e w2 hr
   obtain ⟨h2,q,rfl,oq,nq⟩:=hr.num (xc lsq.1) lsq.1
   refine ⟨_,_,rfl,_,_,rfl,zt rfl ?_⟩
   try dsimp only
   rw [show (j:Int) -1=((j -1:Nat):Int) by omega]
   refine semShrI (by omega) ?_
   rw [show (1:Int)=((1:Nat):Int) from rfl,Hf (by omega) (by omega),Nat.and_one_is_mod,show ((j -1:Nat):Int) -((1:Nat):Int)=((j -1:Nat):Int) -1 from rfl,zp (x:=((j -1:Nat):Int) -1) (by omega) (by omega)]
   refine zm (fun hbit=> ?_) (fun hbit=> ?_)
   ·have hb1:n/2^(j -1) % 2=1:=by have:=eq_of_beq hbit;omega
    have ee:x^(2*(n/2^j))*x=x^(n/2^(j -1)):=by rw [←Nat.pow_succ];congr 1;omega
    refine Calls.mono (m7 nq (xf (os.ahead h2) hxb) (by omega) (by omega)) ?_
    rw [ee]
    intro e w3 hr
    obtain ⟨h3,u,rfl,ou,nu⟩:=hr.num (xc l2.1) l2.1
    refine ⟨_,_,rfl,zt rfl ⟨⟨rfl,j -1,rfl,by omega,(h1.trans h2).trans h3,(os.ahead h2).ahead h3,ou.mono (h1.trans h2).size⟩,by omega⟩⟩
   ·have hb0:n/2^(j -1) % 2=0:=by
     have:¬n/2^(j -1) % 2=1:=fun h=>by rw [h] at hbit;simp at hbit
     omega
    have ee:2*(n/2^j)=n/2^(j -1):=by omega
    rw [ee] at oq
    exact ⟨⟨rfl,j -1,rfl,by omega,h1.trans h2,os.ahead h2,oq.mono h1.size⟩,by omega⟩
  ·have hj':j=0:=by have:=of_decide_eq_false hlt;omega
   subst hj'
   rw [Nat.pow_zero,Nat.div_one] at oo
   exact ⟨h1,_,rfl,by rw [if_pos rfl];exact oo⟩
end Mul
end
section
open Go Go.RowKit Eng Dg
namespace Kd
theorem Q7 {b q v0 v1 r u1 u0:Nat} (h:q*v1+r=u1):b*r+u0<q*v0↔u0+b*u1<q*(v0+b*v1):=by
 have e:q*(v0+b*v1)=q*v0+b*(q*v1):=by rw [Nat.mul_add,←Nat.mul_assoc,←Nat.mul_assoc,Nat.mul_comm q b]
 have e2:b*u1=b*(q*v1)+b*r:=by rw [←h,Nat.mul_add]
 omega
theorem zbt {q v u:Nat} (h1:q*v≤u) (h2:u/v≤q) (hv:0<v):q=u/v:=by
 have:=(Nat.le_div_iff_mul_le hv).2 h1
 omega
theorem mn {q v u:Nat} (h:u<q*v) (hv:0<v):u/v<q:=(Nat.div_lt_iff_lt_mul hv).2 h
section
variable {B P x y u0 u1 u2 v1 v2 q r : Nat}
theorem f5 {B P x A:Nat} (hx:x<P):x+P*A<P*(A+1):=by rw [Nat.mul_add,Nat.mul_one];omega
theorem q9 {P a b:Nat} (h:P*a<P*b):a<b:=Nat.lt_of_mul_lt_mul_left h
theorem zda {Q:Nat} (hx:x<P) (hu:u2<B) (h:Q*(y+P*(v2+B*v1))≤x+P*(u2+B*(u1+B*u0))):Q*v1≤u1+B*u0:=by
 have h1:P*(Q*(v2+B*v1))≤Q*(y+P*(v2+B*v1)):=by
  rw [Nat.mul_add Q y,←Nat.mul_assoc,←Nat.mul_assoc,Nat.mul_comm P Q];omega
 have h2:=f5 (B:=B) (A:=u2+B*(u1+B*u0)) hx
 have h3:Q*(v2+B*v1)<u2+B*(u1+B*u0)+1:=q9 (Nat.lt_of_le_of_lt (Nat.le_trans h1 h) h2)
 have h4:B*(Q*v1)≤Q*(v2+B*v1):=by
  rw [Nat.mul_add Q v2,←Nat.mul_assoc,←Nat.mul_assoc,Nat.mul_comm B Q];omega
 have h5:=f5 (B:=B) (A:=u1+B*u0) hu
 have h6:Q*v1<u1+B*u0+1:=q9 (P:=B) (by omega)
 omega
theorem zdb (hx:x<P) (he:q*v1+r=u1+B*u0) (h:B*r+u2<q*v2):x+P*(u2+B*(u1+B*u0))<q*(y+P*(v2+B*v1)):=by
 have h1:=(Q7 (b:=B) (v0:=v2) (u0:=u2) he).1 h
 have h2:=f5 (B:=B) (A:=u2+B*(u1+B*u0)) hx
 have h3:P*(u2+B*(u1+B*u0)+1)≤P*(q*(v2+B*v1)):=Nat.mul_le_mul_left _ h1
 have h4:P*(q*(v2+B*v1))≤q*(y+P*(v2+B*v1)):=by
  rw [Nat.mul_add q y,←Nat.mul_assoc,←Nat.mul_assoc,Nat.mul_comm P q];omega
 omega
theorem zen (hy:y<P) (he:q*v1+r=u1+B*u0) (hq:q<B) (hv:1≤v1) (h:q*v2≤B*r+u2):q*(y+P*(v2+B*v1))<x+P*(u2+B*(u1+B*u0))+(y+P*(v2+B*v1)):=by
 have h1:q*(v2+B*v1)≤u2+B*(u1+B*u0):=Nat.le_of_not_lt fun h2=>by
  have:=(Q7 (b:=B) (v0:=v2) (u0:=u2) he).2 h2;omega
 have h2:P*(q*(v2+B*v1))≤P*(u2+B*(u1+B*u0)):=Nat.mul_le_mul_left _ h1
 have h3:q*(y+P*(v2+B*v1))=q*y+P*(q*(v2+B*v1)):=by
  rw [Nat.mul_add q y,←Nat.mul_assoc,←Nat.mul_assoc,Nat.mul_comm P q]
 have h4:B≤v2+B*v1:=by
  have:=Nat.mul_le_mul_left B hv;omega
 have h5:P*B≤P*(v2+B*v1):=Nat.mul_le_mul_left _ h4
 have h6:q*y≤B*y:=Nat.mul_le_mul_right _ (by omega)
 have h7:B*y<B*P:=(Nat.mul_lt_mul_left (by omega)).2 hy
 rw [Nat.mul_comm B P] at h7
 omega
end
theorem off0 {U U' V q:Nat} (h:U=U'+q*V) (hQ:U/V≤q) (hV:0<V):q=U/V∧U'=U % V:=by
 have h1:q=U/V:=zbt (by omega) hQ hV
 refine ⟨h1, ?_⟩
 have h2:=Nat.div_add_mod U V
 rw [←h1,Nat.mul_comm] at h2
 omega
theorem off1 {U U' V q W:Nat} (h:U+W=U'+q*V) (hU:U'<W) (hlt:q*V<U+V) (hV:0<V):1≤q∧q -1=U/V∧U'+V=U % V+W:=by
 have hq:1≤q:=by
  rcases Nat.eq_zero_or_pos q with h0|h0
  ·subst h0;rw [Nat.zero_mul] at h;omega
  ·exact h0
 have h1:q*V=(q -1)*V+V:=by
  conv=>lhs;rw [show q=(q -1)+1 by omega,Nat.add_mul,Nat.one_mul]
 have h2:U<q*V:=by omega
 have h3:q -1=U/V:=zbt (by omega) (by have:=mn h2 hV;omega) hV
 refine ⟨hq,h3, ?_⟩
 have h4:=Nat.div_add_mod U V
 rw [←h3,Nat.mul_comm] at h4
 omega
theorem ze8 {B hi lo r u t:Nat} (ht:t=B*hi+lo) (hlo:lo<B) (h:hi<r):t≤B*r+u:=by
 have:B*(hi+1)≤B*r:=Nat.mul_le_mul_left _ h
 rw [Nat.mul_add] at this
 omega
theorem ze7 {B hi lo r u t:Nat} (ht:t=B*hi+lo) (hu:u<B) (h:r<hi):B*r+u<t:=by
 have:B*(r+1)≤B*hi:=Nat.mul_le_mul_left _ h
 rw [Nat.mul_add] at this
 omega
theorem top3 {B m:Nat} {s:List Nat} (hs:s.length=m+3):val B s=val B (s.take m)+B^m*(s.getD m 0+B*(s.getD (m+1) 0+B*s.getD (m+2) 0)):=by
 have h0:=yx (B:=B) s (m:=m+3) (by omega)
 have e1:B^(m+1)=B^m*B:=Nat.pow_succ ..
 have e2:B^(m+2)=B^m*B*B:=by rw [Nat.pow_succ,Nat.pow_succ]
 rw [←h0,yj,yj,yj,e2,e1]
 simp only [Nat.mul_add,Nat.mul_assoc,Nat.add_assoc]
theorem top2 {B m:Nat} {s:List Nat} (hs:s.length=m+2):val B s=val B (s.take m)+B^m*(s.getD m 0+B*s.getD (m+1) 0):=by
 have h0:=yx (B:=B) s (m:=m+2) (by omega)
 rw [←h0,yj,yj,Nat.pow_succ,Nat.mul_add,Nat.mul_assoc]
 omega
theorem top1 {B m:Nat} {s:List Nat} (hs:s.length=m+1):val B s=val B (s.take m)+B^m*s.getD m 0:=by
 have h0:=yx (B:=B) s (m:=m+1) (by omega)
 rw [←h0,yj]
theorem zfw {B P x y u0 u1 u2 v1 v2:Nat} (hy:y<P) (hv2:v2<B) (h:x+P*(u2+B*(u1+B*u0))<(y+P*(v2+B*v1))*B):u0≤v1:=by
 have h1:=f5 (B:=B) (A:=v2+B*v1) hy
 have h2:v2+B*v1+1≤B*(v1+1):=by rw [Nat.mul_add];omega
 have h3:P*(v2+B*v1+1)≤P*(B*(v1+1)):=Nat.mul_le_mul_left _ h2
 have h4:(y+P*(v2+B*v1))*B≤P*(B*(v1+1))*B:=Nat.mul_le_mul_right _ (by omega)
 have h5:P*(B*(v1+1))*B=P*(B*(B*(v1+1))):=by ac_rfl
 have h6:P*(B*(B*u0))≤x+P*(u2+B*(u1+B*u0)):=by
  have:B*(B*u0)≤u2+B*(u1+B*u0):=by rw [Nat.mul_add B u1];omega
  have:=Nat.mul_le_mul_left P this
  omega
 have h7:P*(B*(B*u0))<P*(B*(B*(v1+1))):=by omega
 have:=q9 (q9 (q9 h7))
 omega
theorem zb3 {B P r x X:Nat} (hx:x<P) (hr:r<P) (hX:X≤B) (h:x+P*X=r+P*B):X=B∧x=r:=by
 have h1:X=B:=by
  rcases Nat.lt_or_ge X B with h2|h2
  ·have:P*(X+1)≤P*B:=Nat.mul_le_mul_left _ h2
   rw [Nat.mul_add] at this
   omega
  ·omega
 subst h1
 exact ⟨rfl,by omega⟩
theorem zdj {B P a x u y q cr bo s hi u' bo' W:Nat} (h1:y*q+cr=s+B*hi) (h2:u+B*bo'=u'+s+bo) (h:a+(bo+cr)*P=x+W):(a+P*u)+(bo'+hi)*(P*B)=(x+P*u')+(W+P*(y*q)):=by
 have e1:P*(u+B*bo')=P*(u'+s+bo):=by rw [h2]
 have e2:P*(y*q+cr)=P*(s+B*hi):=by rw [h1]
 have e3:(bo'+hi)*(P*B)=P*(B*bo')+P*(B*hi):=by rw [Nat.add_mul];congr 1<;>ac_rfl
 rw [Nat.mul_add,Nat.mul_add,Nat.mul_add] at e1
 rw [Nat.mul_add,Nat.mul_add] at e2
 rw [Nat.add_mul,Nat.mul_comm bo,Nat.mul_comm cr] at h
 omega
theorem Zf {B k pre U1 s' q V Qk T:Nat} (h:T=pre+B^k*U1+V*(B^(k+1)*Qk)) (hs:U1=q*V+s'):T=pre+B^k*s'+V*(B^k*(q+B*Qk)):=by
 rw [h,hs,Nat.mul_add,Nat.mul_add,Nat.mul_add,Nat.pow_succ]
 have e1:B^k*(q*V)=V*(B^k*q):=by ac_rfl
 have e2:V*(B^k*B*Qk)=V*(B^k*(B*Qk)):=by ac_rfl
 omega
theorem zep {A b S u Q:Nat} (hS:0<S) (hb:0<b) (h:A*S=u+b*S*Q) (hu:u<b*S):Q=A/b∧u/S=A % b:=by
 have h1:A*S=u+S*(b*Q):=by rw [h];congr 1;ac_rfl
 have h2:u % S=0:=by
  have:(u+S*(b*Q)) % S=0:=by rw [←h1];exact Nat.mul_mod_left _ _
  rwa [Nat.add_mul_mod_self_left] at this
 have h3:u=S*(u/S):=by have:=Nat.div_add_mod u S;omega
 have h4:A=u/S+b*Q:=by
  have:S*A=S*(u/S+b*Q):=by rw [Nat.mul_add,←h3,Nat.mul_comm S A,h1]
  exact Nat.eq_of_mul_eq_mul_left hS this
 have h5:u/S<b:=by
  rw [Nat.div_lt_iff_lt_mul hS];exact hu
 constructor
 ·rw [h4,Nat.add_mul_div_left _ _ hb,Nat.div_eq_of_lt h5,Nat.zero_add]
 ·conv=>rhs;rw [h4]
  rw [Nat.add_mul_mod_self_left,Nat.mod_eq_of_lt h5]
end Kd
end
section
open Go Go.RowKit Eng
open _root_.Go.IntKind (wrap)
def Tq (J0:Slc→Slc→Slc→Int→Int→World→Prop) (m0:Slc→Slc→Slc→Int→Int→World→Nat) (J2:Int→Slc→Slc→Int→Slc→Int→World→Prop) (m2:Int→Slc→Slc→Int→Slc→Int→World→Nat):Nat→Option ((Act→World→Prop)×(Act→World→Nat))
 |0=>some (fun a_ w_=>atSz a_ 104 (atS a_ 0 fun t0=>atS a_ 1 fun t1=>atS a_ 6 fun t6=>atI .u64 a_ 7 fun t7=>atI .i64 a_ 8 fun t8=>J0 t0 t1 t6 t7 t8 w_),fun a_ w_=>mS a_ 0 fun t0=>mS a_ 1 fun t1=>mS a_ 6 fun t6=>mI a_ 7 fun t7=>mI a_ 8 fun t8=>m0 t0 t1 t6 t7 t8 w_)
 |2=>some (fun a_ w_=>atSz a_ 104 (atI .u64 a_ 9 fun t9=>atS a_ 10 fun t10=>atS a_ 11 fun t11=>atI .i64 a_ 12 fun t12=>atS a_ 13 fun t13=>atI .i64 a_ 14 fun t14=>J2 t9 t10 t11 t12 t13 t14 w_),fun a_ w_=>mI a_ 9 fun t9=>mS a_ 10 fun t10=>mS a_ 11 fun t11=>mI a_ 12 fun t12=>mS a_ 13 fun t13=>mI a_ 14 fun t14=>m2 t9 t10 t11 t12 t13 t14 w_)
 |_=>none
theorem Pr (a0:Slc) (a1:Slc) (w:World) (R:Ending→World→Prop) (J0:Slc→Slc→Slc→Int→Int→World→Prop) (m0:Slc→Slc→Slc→Int→Int→World→Nat) (J2:Int→Slc→Slc→Int→Slc→Int→World→Prop) (m2:Int→Slc→Slc→Int→Slc→Int→World→Nat) (h:kI 81 #[a0.v,a1.v] w fun w1 x1=>(br (decide (x1<0)) (R (.returned (.tuple #[nSl.v,a0.v])) w1) (br ((a1.n:Int)==1) (semS pr (Instr.makeSlice 23 (vi (a0.n:Int)) (vi (a0.n:Int))) w1 fun s1 w2=>J0 a0 a1 s1 0 (wrap .i64 ((a0.n:Int) -1)) w2) (semA pr (Instr.indexAt 23 a1.v (vi (wrap .i64 ((a1.n:Int) -1)))) w1 fun ad4 w7=>ldI .u64 ad4 w7 fun x6=>kI 151 #[.int .u64 x6] w7 fun w8 x7=>(kS 152 #[a0.v,.int .u64 (wrap .u64 x7)] w8.drew fun w9 s4=>(Ahead w8.drew w9∧(kS 152 #[a1.v,.int .u64 (wrap .u64 x7)] w9 fun w10 s5=>(Ahead w9 w10∧(fixS pr (Instr.sliceAt 23 s5.v none (some (vi (a1.n:Int))) none) w10 fun s6=>semS pr (Instr.makeSlice 23 (vi (wrap .i64 ((wrap .i64 ((a0.n:Int) -(s6.n:Int)))+1))) (vi (wrap .i64 ((wrap .i64 ((a0.n:Int) -(s6.n:Int)))+1)))) w10 fun s7 w11=>J2 (wrap .u64 x7) s4 s6 (s6.n:Int) s7 (wrap .i64 ((a0.n:Int) -(s6.n:Int))) w11))))))))) (h0:∀t0 t1 t6 t7 t8 w_,J0 t0 t1 t6 t7 t8 w_→br (decide (t8≥0)) (∃V1:Nat→Nat→Prop,anyA pr (Instr.indexAt 23 t0.v (vi t8)) fun ad1=>Out (V1 6) ad1 (ldI .u64 ad1 w_.drew fun x2=>anyA pr (Instr.indexAt 23 t1.v (vi 0)) fun ad2=>Out (V1 9) ad2 (ldI .u64 ad2 w_.drew fun x3=>Calls pr 150 #[.int .u64 t7,.int .u64 x2,.int .u64 x3] w_.drew fun e2 w3=>∃x4:Int,∃x5:Int,e2= .returned (.tuple #[.int .u64 x4,.int .u64 x5])∧(anyA pr (Instr.indexAt 23 t6.v (vi t8)) fun ad3=>stC ad3 (.int .u64 x4) w3 fun w4=>J0 t0 t1 t6 x5 (wrap .i64 (t8 -1)) w4∧m0 t0 t1 t6 x5 (wrap .i64 (t8 -1)) w4<m0 t0 t1 t6 t7 t8 w_)))) (kS 85 #[t6.v] w_ fun w5 s2=>(kS 84 #[.int .u64 t7] w5 fun w6 s3=>(R (.returned (.tuple #[s2.v,s3.v])) w6)))) (h2:∀t9 t10 t11 t12 t13 t14 w_,J2 t9 t10 t11 t12 t13 t14 w_→br (decide (t14≥0)) (semS pr (Instr.sliceAt 23 t10.v (some (vi t14)) (some (vi (wrap .i64 ((wrap .i64 (t14+t12))+1)))) none) w_ fun s8 w12=>Calls pr 153 #[s8.v,t11.v] w12 fun e8 w13=>∃x8:Int,e8= .returned (.int .u64 x8)∧(semA pr (Instr.indexAt 23 t13.v (vi t14)) w13 fun ad5 w14=>stC ad5 (.int .u64 x8) w14 fun w15=>J2 t9 t10 t11 t12 t13 (wrap .i64 (t14 -1)) w15∧m2 t9 t10 t11 t12 t13 (wrap .i64 (t14 -1)) w15<m2 t9 t10 t11 t12 t13 t14 w_)) (fixS pr (Instr.sliceAt 23 t10.v none (some (vi t12)) none) w_.drew fun s9=>kS 85 #[t13.v] w_.drew fun w16 s10=>(Ahead w_.drew w16∧(kS 154 #[s9.v,.int .u64 t9] w16 fun w17 s11=>(Ahead w16 w17∧(R (.returned (.tuple #[s10.v,s11.v])) w17)))))):Calls pr 116 #[a0.v,a1.v] w R:=by
 refine zk (marks [2000008] (Tq J0 m0 J2 m2)) (by kernel_rfl) Tryz.func116 rfl ?_ ?_
 ·refine kcast h ?_;kernel_rfl
 ·exact (za rfl (ze (za rfl (za rfl (ze (zh (za rfl (ze (zg (zi (za rfl (za rfl (ze (zh (za rfl (ze (za rfl (za rfl (ze (yg _ rfl (fun a_ w_ aa=>(by
  obtain ⟨ab,ac,aa⟩:=ya aa
  obtain ⟨t0,ai,aa⟩:=zr aa
  obtain ⟨t1,aj,aa⟩:=zr aa
  obtain ⟨t6,ak,aa⟩:=zr aa
  obtain ⟨t7,al,aa⟩:=zq aa
  obtain ⟨t8,am,aa⟩:=zq aa
  obtain ⟨g0,rfl⟩:∃g,a_=Fr 104 [(0,t0.v),(1,t1.v),(6,t6.v),(7,Value.int .u64 t7),(8,vi t8)] g:=⟨_,yp ab ac _ (zf ai (zf aj (zf ak (zf al (zf am yc)))))⟩
  clear ab ac ai aj ak al am
  have ao:=aa
  refine ⟨(marks [2000008] (fun _=>none)),kcast (h0 t0 t1 t6 t7 t8 w_ ao) ?_, ?_⟩
  ·kernel_rfl
  ·exact (za rfl (za rfl (ze (zh (zi (ye (za rfl (yh rfl (xq _ rfl (by kernel_rfl) (ze trivial)))))))))))) (za rfl (ze (zg (zi (za rfl (ze (za rfl (yy (by kernel_rfl) (by kernel_rfl) (by kernel_rfl) (za rfl (ze (za rfl (ze (za rfl (za rfl (ze (yg _ rfl (fun a_ w_ aa=>(by
  obtain ⟨ab,ac,aa⟩:=ya aa
  obtain ⟨t9,an,aa⟩:=zq aa
  obtain ⟨t10,ad,aa⟩:=zr aa
  obtain ⟨t11,ae,aa⟩:=zr aa
  obtain ⟨t12,af,aa⟩:=zq aa
  obtain ⟨t13,ag,aa⟩:=zr aa
  obtain ⟨t14,ah,aa⟩:=zq aa
  obtain ⟨g2,rfl⟩:∃g,a_=Fr 104 [(9,Value.int .u64 t9),(10,t10.v),(11,t11.v),(12,vi t12),(13,t13.v),(14,vi t14)] g:=⟨_,yp ab ac _ (zf an (zf ad (zf ae (zf af (zf ag (zf ah yc))))))⟩
  clear ab ac an ad ae af ag ah
  have ap:=aa
  refine ⟨(marks [2000008] (fun _=>none)),kcast (h2 t9 t10 t11 t12 t13 t14 w_ ap) ?_, ?_⟩
  ·kernel_rfl
  ·exact (za rfl (za rfl (ze (zh (zi (ye (za rfl (yh rfl (ze (ze trivial)))))))))))) (za rfl (yy (by kernel_rfl) (by kernel_rfl) (by kernel_rfl) (zg trivial)))))))))))))))))))))))))))))))))))))))
def zai (J0:Int→Slc→Slc→Int→Int→World→Prop) (m0:Int→Slc→Slc→Int→Int→World→Nat):Nat→Option ((Act→World→Prop)×(Act→World→Nat))
 |0=>some (fun a_ w_=>atSz a_ 39 (atI .u64 a_ 1 fun t1_shift=>atS a_ 5 fun t5_c=>atS a_ 12 fun t12=>atI .i64 a_ 13 fun t13=>atI .i64 a_ 14 fun t14=>J0 t1_shift t5_c t12 t13 t14 w_),fun a_ w_=>mI a_ 1 fun t1_shift=>mS a_ 5 fun t5_c=>mS a_ 12 fun t12=>mI a_ 13 fun t13=>mI a_ 14 fun t14=>m0 t1_shift t5_c t12 t13 t14 w_)
 |_=>none
theorem zbu (ad:Slc) (ae:Int) (w:World) (R:Ending→World→Prop) (J0:Int→Slc→Slc→Int→Int→World→Prop) (m0:Int→Slc→Slc→Int→Int→World→Nat) (h:semS pr (Instr.makeSlice 23 (vi (wrap .i64 ((ad.n:Int)+1))) (vi (wrap .i64 ((ad.n:Int)+1)))) w fun s1 w1=>J0 ae s1 ad (ad.n:Int) 0 w1) (h0:∀aa ab t12 t13 t14 w_,J0 aa ab t12 t13 t14 w_→br (decide (t14<t13)) (semA pr (Instr.indexAt 23 t12.v (vi t14)) w_ fun ad1 w2=>ldI .u64 ad1 w2 fun x1=>semA pr (Instr.indexAt 23 ab.v (vi t14)) w2 fun ad2 w3=>ldI .u64 ad2 w3 fun x2=>semI pr .u64 (binOp .shl 65 (.int .u64 x1) (.int .u64 aa)) w3 fun x3 w4=>semA pr (Instr.indexAt 23 ab.v (vi t14)) w4 fun ad3 w5=>stC ad3 (.int .u64 (orI .u64 x2 x3)) w5 fun w6=>semI pr .u64 (binOp .shr 65 (.int .u64 (Int.fdiv x1 (2^(1:Nat)))) (.int .u64 (wrap .u64 (63 -aa)))) w6 fun x4 w7=>semA pr (Instr.indexAt 23 ab.v (vi (wrap .i64 (t14+1)))) w7 fun ad4 w8=>stC ad4 (.int .u64 x4) w8 fun w9=>J0 aa ab t12 t13 (wrap .i64 (t14+1)) w9∧m0 aa ab t12 t13 (wrap .i64 (t14+1)) w9<m0 aa ab t12 t13 t14 w_) (R (.returned ab.v) w_)):Calls pr 152 #[ad.v,.int .u64 ae] w R:=by
 refine zk (zai J0 m0) (by kernel_rfl) Tryz.func152 rfl ?_ ?_
 ·refine kcast h ?_;kernel_rfl
 ·exact (za rfl (ze (za rfl (ze (za rfl (za rfl (ze (yg _ rfl (fun a_ w_ ac=>(by
  obtain ⟨ai,aj,ac⟩:=ya ac
  obtain ⟨aa,ak,ac⟩:=zq ac
  obtain ⟨ab,al,ac⟩:=zr ac
  obtain ⟨t12,af,ac⟩:=zr ac
  obtain ⟨t13,ag,ac⟩:=zq ac
  obtain ⟨t14,ah,ac⟩:=zq ac
  obtain ⟨g0,rfl⟩:∃g,a_=Fr 39 [(1,Value.int .u64 aa),(5,ab.v),(12,t12.v),(13,vi t13),(14,vi t14)] g:=⟨_,yp ai aj _ (zf ak (zf al (zf af (zf ag (zf ah yc)))))⟩
  clear ai aj ak al af ag ah
  have am:=ac
  refine ⟨(fun _=>none),kcast (h0 aa ab t12 t13 t14 w_ am) ?_, ?_⟩
  ·kernel_rfl
  ·exact (za rfl (ze (za rfl (zh (zi (ye (za rfl (yh rfl (za rfl (ze (za rfl (ze (ze (ze trivial)))))))))))))))) (za rfl (ze (zg trivial)))))))))))
def Hm (J0:Slc→Int→Slc→Slc→Int→Int→World→Prop) (m0:Slc→Int→Slc→Slc→Int→Int→World→Nat):Nat→Option ((Act→World→Prop)×(Act→World→Nat))
 |0=>some (fun a_ w_=>atSz a_ 47 (atS a_ 0 fun t0_a=>atI .u64 a_ 1 fun t1_shift=>atS a_ 5 fun t5_c=>atS a_ 11 fun t11=>atI .i64 a_ 12 fun t12=>atI .i64 a_ 13 fun t13=>J0 t0_a t1_shift t5_c t11 t12 t13 w_),fun a_ w_=>mS a_ 0 fun t0_a=>mI a_ 1 fun t1_shift=>mS a_ 5 fun t5_c=>mS a_ 11 fun t11=>mI a_ 12 fun t12=>mI a_ 13 fun t13=>m0 t0_a t1_shift t5_c t11 t12 t13 w_)
 |_=>none
theorem Fg (ae:Slc) (af:Int) (w:World) (R:Ending→World→Prop) (J0:Slc→Int→Slc→Slc→Int→Int→World→Prop) (m0:Slc→Int→Slc→Slc→Int→Int→World→Nat) (h:semS pr (Instr.makeSlice 23 (vi (ae.n:Int)) (vi (ae.n:Int))) w fun s1 w1=>J0 ae af s1 ae (ae.n:Int) 0 w1) (h0:∀ac aa ab t11 t12 t13 w_,J0 ac aa ab t11 t12 t13 w_→br (decide (t13<t12)) (semA pr (Instr.indexAt 23 t11.v (vi t13)) w_ fun ad1 w2=>ldI .u64 ad1 w2 fun x1=>semI pr .u64 (binOp .shr 65 (.int .u64 x1) (.int .u64 aa)) w2 fun x2 w3=>semA pr (Instr.indexAt 23 ab.v (vi t13)) w3 fun ad2 w4=>stC ad2 (.int .u64 x2) w4 fun w5=>br (decide ((wrap .i64 (t13+1))<(ac.n:Int))) (fixA pr (Instr.indexAt 23 ab.v (vi t13)) w5 fun ad3=>ldI .u64 ad3 w5 fun x3=>fixA pr (Instr.indexAt 23 ac.v (vi (wrap .i64 (t13+1)))) w5 fun ad4=>ldI .u64 ad4 w5 fun x4=>fixI pr .u64 (binOp .shl 65 (.int .u64 (wrap .u64 (x4*2^(1:Nat)))) (.int .u64 (wrap .u64 (63 -aa)))) w5 fun x5=>fixA pr (Instr.indexAt 23 ab.v (vi t13)) w5 fun ad5=>stC ad5 (.int .u64 (orI .u64 x3 x5)) w5.drew fun w6=>J0 ac aa ab t11 t12 (wrap .i64 (t13+1)) w6∧m0 ac aa ab t11 t12 (wrap .i64 (t13+1)) w6<m0 ac aa ab t11 t12 t13 w_) (J0 ac aa ab t11 t12 (wrap .i64 (t13+1)) w5∧m0 ac aa ab t11 t12 (wrap .i64 (t13+1)) w5<m0 ac aa ab t11 t12 t13 w_)) (kS 85 #[ab.v] w_ fun w7 s2=>(R (.returned s2.v) w7))):Calls pr 154 #[ae.v,.int .u64 af] w R:=by
 refine zk (Hm J0 m0) (by kernel_rfl) Tryz.func154 rfl ?_ ?_
 ·refine kcast h ?_;kernel_rfl
 ·exact (za rfl (ze (za rfl (ze (za rfl (za rfl (ze (yg _ rfl (fun a_ w_ ad=>(by
  obtain ⟨aj,ak,ad⟩:=ya ad
  obtain ⟨ac,al,ad⟩:=zr ad
  obtain ⟨aa,am,ad⟩:=zq ad
  obtain ⟨ab,an,ad⟩:=zr ad
  obtain ⟨t11,ag,ad⟩:=zr ad
  obtain ⟨t12,ah,ad⟩:=zq ad
  obtain ⟨t13,ai,ad⟩:=zq ad
  obtain ⟨g0,rfl⟩:∃g,a_=Fr 47 [(0,ac.v),(1,Value.int .u64 aa),(5,ab.v),(11,t11.v),(12,vi t12),(13,vi t13)] g:=⟨_,yp aj ak _ (zf al (zf am (zf an (zf ag (zf ah (zf ai yc))))))⟩
  clear aj ak al am an ag ah ai
  have ao:=ad
  refine ⟨(fun _=>none),kcast (h0 ac aa ab t11 t12 t13 w_ ao) ?_, ?_⟩
  ·kernel_rfl
  ·exact (za rfl (ze (za rfl (zh (zi (ye (za rfl (yh rfl (za rfl (ze (za rfl (ze (za rfl (ze (zh (jq 15 (by kernel_rfl) (by kernel_rfl) (by kernel_rfl) (by kernel_rfl) (by kernel_rfl) (zi (ze trivial)))))))))))))))))))) (za rfl (ze (zg trivial)))))))))))
def Ps (J0:Slc→Slc→Int→Int→Int→Bool→World→Prop) (m0:Slc→Slc→Int→Int→Int→Bool→World→Nat) (J2:Slc→Slc→Int→Int→Int→Int→Slc→Int→Int→World→Prop) (m2:Slc→Slc→Int→Int→Int→Int→Slc→Int→Int→World→Nat) (J4:Slc→Int→Int→Int→Slc→Int→Int→World→Prop) (m4:Slc→Int→Int→Int→Slc→Int→Int→World→Nat):Nat→Option ((Act→World→Prop)×(Act→World→Nat))
 |0=>some (fun a_ w_=>atSz a_ 195 (atS a_ 0 fun t0=>atS a_ 1 fun t1=>atI .i64 a_ 5 fun t5=>atI .u64 a_ 6 fun t6=>atI .u64 a_ 7 fun t7=>atB a_ 8 fun t8=>J0 t0 t1 t5 t6 t7 t8 w_),fun a_ w_=>mS a_ 0 fun t0=>mS a_ 1 fun t1=>mI a_ 5 fun t5=>mI a_ 6 fun t6=>mI a_ 7 fun t7=>mB a_ 8 fun t8=>m0 t0 t1 t5 t6 t7 t8 w_)
 |2=>some (fun a_ w_=>atSz a_ 195 (atS a_ 0 fun t0=>atS a_ 1 fun t1=>atI .i64 a_ 5 fun t5=>atI .u64 a_ 6 fun t6=>atI .u64 a_ 13 fun t13=>atI .u64 a_ 14 fun t14=>atS a_ 113 fun t113=>atI .i64 a_ 114 fun t114=>atI .i64 a_ 115 fun t115=>J2 t0 t1 t5 t6 t13 t14 t113 t114 t115 w_),fun a_ w_=>mS a_ 0 fun t0=>mS a_ 1 fun t1=>mI a_ 5 fun t5=>mI a_ 6 fun t6=>mI a_ 13 fun t13=>mI a_ 14 fun t14=>mS a_ 113 fun t113=>mI a_ 114 fun t114=>mI a_ 115 fun t115=>m2 t0 t1 t5 t6 t13 t14 t113 t114 t115 w_)
 |4=>some (fun a_ w_=>atSz a_ 195 (atS a_ 0 fun t0=>atI .i64 a_ 5 fun t5=>atI .u64 a_ 6 fun t6=>atI .u64 a_ 21 fun t21=>atS a_ 166 fun t166=>atI .i64 a_ 167 fun t167=>atI .i64 a_ 168 fun t168=>J4 t0 t5 t6 t21 t166 t167 t168 w_),fun a_ w_=>mS a_ 0 fun t0=>mI a_ 5 fun t5=>mI a_ 6 fun t6=>mI a_ 21 fun t21=>mS a_ 166 fun t166=>mI a_ 167 fun t167=>mI a_ 168 fun t168=>m4 t0 t5 t6 t21 t166 t167 t168 w_)
 |_=>none
theorem Hn (a0:Slc) (a1:Slc) (w:World) (R:Ending→World→Prop) (J0:Slc→Slc→Int→Int→Int→Bool→World→Prop) (m0:Slc→Slc→Int→Int→Int→Bool→World→Nat) (J2:Slc→Slc→Int→Int→Int→Int→Slc→Int→Int→World→Prop) (m2:Slc→Slc→Int→Int→Int→Int→Slc→Int→Int→World→Nat) (J4:Slc→Int→Int→Int→Slc→Int→Int→World→Prop) (m4:Slc→Int→Int→Int→Slc→Int→Int→World→Nat) (h:fixA pr (Instr.indexAt 23 a0.v (vi (a1.n:Int))) w fun ad1=>ldI .u64 ad1 w fun x1=>fixA pr (Instr.indexAt 23 a1.v (vi (wrap .i64 ((a1.n:Int) -1)))) w fun ad2=>ldI .u64 ad2 w fun x2=>∀w1,Ahead w w1→(br (decide (x1≥x2)) (fixA pr (Instr.indexAt 23 a0.v (vi (wrap .i64 ((a1.n:Int) -1)))) w1.drew fun ad3=>ldI .u64 ad3 w1.drew fun x3=>fixA pr (Instr.indexAt 23 a1.v (vi (wrap .i64 ((a1.n:Int) -1)))) w1.drew fun ad4=>ldI .u64 ad4 w1.drew fun x4=>Sem.wp pr (callFunc 121 #[.int .u64 x3,.int .u64 x4,.int .u64 0]) (fun n1 w2=>∃x5:Int,∃x6:Int,n1= .value (.tuple #[.int .u64 x5,.int .u64 x6])∧(Ahead w1.drew w2∧(J0 a0 a1 (a1.n:Int) 18446744073709551615 x5 (x6 !=0) w2))) (fun _ _=>False) w1.drew) (fixA pr (Instr.indexAt 23 a0.v (vi (a1.n:Int))) w1.drew fun ad19=>ldI .u64 ad19 w1.drew fun x33=>fixA pr (Instr.indexAt 23 a0.v (vi (wrap .i64 ((a1.n:Int) -1)))) w1.drew fun ad20=>ldI .u64 ad20 w1.drew fun x34=>fixA pr (Instr.indexAt 23 a1.v (vi (wrap .i64 ((a1.n:Int) -1)))) w1.drew fun ad21=>ldI .u64 ad21 w1.drew fun x35=>Calls pr 150 #[.int .u64 x33,.int .u64 x34,.int .u64 x35] w1.drew fun e3 w29=>∃x36:Int,∃x37:Int,e3= .returned (.tuple #[.int .u64 x36,.int .u64 x37])∧(Ahead w1.drew w29∧(J0 a0 a1 (a1.n:Int) x36 x37 false w29))))) (h0:∀t0 t1 t5 t6 t7 t8 w_,J0 t0 t1 t5 t6 t7 t8 w_→br (!t8) (semA pr (Instr.indexAt 23 t1.v (vi (wrap .i64 (t5 -2)))) w_ fun ad5 w3=>ldI .u64 ad5 w3 fun x7=>Calls pr 167 #[.int .u64 t6,.int .u64 x7] w3 fun e1 w4=>∃x8:Int,∃x9:Int,e1= .returned (.tuple #[.int .u64 x8,.int .u64 x9])∧(br (decide (x8<t7)) (J2 t0 t1 t5 t6 0 0 t1 (t1.n:Int) 0 w4) (br (x8==t7) (semA pr (Instr.indexAt 23 t0.v (vi (wrap .i64 (t5 -2)))) w4 fun ad16 w24=>ldI .u64 ad16 w24 fun x26=>br (decide (x9≤x26)) (J2 t0 t1 t5 t6 0 0 t1 (t1.n:Int) 0 w24) (semA pr (Instr.indexAt 23 t1.v (vi (wrap .i64 (t5 -1)))) w24 fun ad17 w25=>ldI .u64 ad17 w25 fun x27=>Sem.wp pr (callFunc 121 #[.int .u64 t7,.int .u64 x27,.int .u64 0]) (fun n6 w26=>∃x28:Int,∃x29:Int,n6= .value (.tuple #[.int .u64 x28,.int .u64 x29])∧(br (x29 !=0) (J2 t0 t1 t5 (wrap .u64 (t6 -1)) 0 0 t1 (t1.n:Int) 0 w26) (J0 t0 t1 t5 (wrap .u64 (t6 -1)) x28 t8 w26∧m0 t0 t1 t5 (wrap .u64 (t6 -1)) x28 t8 w26<m0 t0 t1 t5 t6 t7 t8 w_))) (fun _ _=>False) w25)) (semA pr (Instr.indexAt 23 t1.v (vi (wrap .i64 (t5 -1)))) w4 fun ad18 w27=>ldI .u64 ad18 w27 fun x30=>Sem.wp pr (callFunc 121 #[.int .u64 t7,.int .u64 x30,.int .u64 0]) (fun n7 w28=>∃x31:Int,∃x32:Int,n7= .value (.tuple #[.int .u64 x31,.int .u64 x32])∧(br (x32 !=0) (J2 t0 t1 t5 (wrap .u64 (t6 -1)) 0 0 t1 (t1.n:Int) 0 w28) (J0 t0 t1 t5 (wrap .u64 (t6 -1)) x31 t8 w28∧m0 t0 t1 t5 (wrap .u64 (t6 -1)) x31 t8 w28<m0 t0 t1 t5 t6 t7 t8 w_))) (fun _ _=>False) w27)))) (J2 t0 t1 t5 t6 0 0 t1 (t1.n:Int) 0 w_)) (h2:∀t0 t1 t5 t6 t13 t14 t113 t114 t115 w_,J2 t0 t1 t5 t6 t13 t14 t113 t114 t115 w_→br (decide (t115<t114)) (semA pr (Instr.indexAt 23 t113.v (vi t115)) w_ fun ad6 w5=>ldI .u64 ad6 w5 fun x10=>Calls pr 167 #[.int .u64 x10,.int .u64 t6] w5 fun e2 w6=>∃x11:Int,∃x12:Int,e2= .returned (.tuple #[.int .u64 x11,.int .u64 x12])∧(Sem.wp pr (callFunc 121 #[.int .u64 x12,.int .u64 t13,.int .u64 0]) (fun n2 w7=>∃x13:Int,∃x14:Int,n2= .value (.tuple #[.int .u64 x13,.int .u64 x14])∧(semA pr (Instr.indexAt 23 t0.v (vi t115)) w7 fun ad7 w8=>ldI .u64 ad7 w8 fun x15=>Sem.wp pr (callFunc 168 #[.int .u64 x15,.int .u64 x13,.int .u64 t14]) (fun n3 w9=>∃x16:Int,∃x17:Int,n3= .value (.tuple #[.int .u64 x16,.int .u64 x17])∧(semA pr (Instr.indexAt 23 t0.v (vi t115)) w9 fun ad8 w10=>stC ad8 (.int .u64 x16) w10 fun w11=>J2 t0 t1 t5 t6 (wrap .u64 (x11+x14)) x17 t113 t114 (wrap .i64 (t115+1)) w11∧m2 t0 t1 t5 t6 (wrap .u64 (x11+x14)) x17 t113 t114 (wrap .i64 (t115+1)) w11<m2 t0 t1 t5 t6 t13 t14 t113 t114 t115 w_)) (fun _ _=>False) w8)) (fun _ _=>False) w6)) (semA pr (Instr.indexAt 23 t0.v (vi t5)) w_ fun ad9 w12=>ldI .u64 ad9 w12 fun x18=>Sem.wp pr (callFunc 168 #[.int .u64 x18,.int .u64 t13,.int .u64 t14]) (fun n4 w13=>∃x19:Int,∃x20:Int,n4= .value (.tuple #[.int .u64 x19,.int .u64 x20])∧(semA pr (Instr.indexAt 23 t0.v (vi t5)) w13 fun ad10 w14=>stC ad10 (.int .u64 x19) w14 fun w15=>br (x20 !=0) (J4 t0 t5 (wrap .u64 (t6 -1)) 0 t1 (t1.n:Int) 0 w15) (R (.returned (.int .u64 t6)) w15))) (fun _ _=>False) w12)) (h4:∀t0 t5 t6 t21 t166 t167 t168 w_,J4 t0 t5 t6 t21 t166 t167 t168 w_→br (decide (t168<t167)) (semA pr (Instr.indexAt 23 t166.v (vi t168)) w_ fun ad11 w16=>ldI .u64 ad11 w16 fun x21=>semA pr (Instr.indexAt 23 t0.v (vi t168)) w16 fun ad12 w17=>ldI .u64 ad12 w17 fun x22=>Sem.wp pr (callFunc 121 #[.int .u64 x22,.int .u64 x21,.int .u64 t21]) (fun n5 w18=>∃x23:Int,∃x24:Int,n5= .value (.tuple #[.int .u64 x23,.int .u64 x24])∧(semA pr (Instr.indexAt 23 t0.v (vi t168)) w18 fun ad13 w19=>stC ad13 (.int .u64 x23) w19 fun w20=>J4 t0 t5 t6 x24 t166 t167 (wrap .i64 (t168+1)) w20∧m4 t0 t5 t6 x24 t166 t167 (wrap .i64 (t168+1)) w20<m4 t0 t5 t6 t21 t166 t167 t168 w_)) (fun _ _=>False) w17) (semA pr (Instr.indexAt 23 t0.v (vi t5)) w_ fun ad14 w21=>ldI .u64 ad14 w21 fun x25=>semA pr (Instr.indexAt 23 t0.v (vi t5)) w21 fun ad15 w22=>stC ad15 (.int .u64 (wrap .u64 (x25+t21))) w22 fun w23=>R (.returned (.int .u64 t6)) w23)):Calls pr 153 #[a0.v,a1.v] w R:=by
 refine zk (Ps J0 m0 J2 m2 J4 m4) (by kernel_rfl) Tryz.func153 rfl ?_ ?_
 ·refine kcast h ?_;kernel_rfl
 ·exact (za rfl (ze (za rfl (ze (za rfl (ze (za rfl (ze (za rfl (za rfl (qd (by kernel_rfl) (by kernel_rfl) (by kernel_rfl) (by kernel_rfl) (zh (za rfl (ze (za rfl (ze (za rfl (yy (by kernel_rfl) (by kernel_rfl) (by kernel_rfl) (ze (yy (by kernel_rfl) (by kernel_rfl) (by kernel_rfl) (za rfl (yg _ rfl (fun a_ w_ aa=>(by
  obtain ⟨ab,ac,aa⟩:=ya aa
  obtain ⟨t0,ad,aa⟩:=zr aa
  obtain ⟨t1,ag,aa⟩:=zr aa
  obtain ⟨t5,ae,aa⟩:=zq aa
  obtain ⟨t6,af,aa⟩:=zq aa
  obtain ⟨t7,aq,aa⟩:=zq aa
  obtain ⟨t8,ar,aa⟩:=th aa
  obtain ⟨g0,rfl⟩:∃g,a_=Fr 195 [(0,t0.v),(1,t1.v),(5,vi t5),(6,Value.int .u64 t6),(7,Value.int .u64 t7),(8,Value.bool t8)] g:=⟨_,yp ab ac _ (zf ad (zf ag (zf ae (zf af (zf aq (zf ar yc))))))⟩
  clear ab ac ad ag ae af aq ar
  have au:=aa
  refine ⟨(fun _=>none),kcast (h0 t0 t1 t5 t6 t7 t8 w_ au) ?_, ?_⟩
  ·kernel_rfl
  ·exact (za rfl (za rfl (ze (zh (zi (ye (yh rfl (za rfl (ze (za rfl (za rfl (ze (zh (ye (zi (za rfl (ze (za rfl (ze (za rfl (ze (za rfl (ze (zh (ye (zi trivial)))))))))))))))))))))))))))) (za rfl (ze (za rfl (za rfl (ze (yg _ rfl (fun a_ w_ aa=>(by
  obtain ⟨ab,ac,aa⟩:=ya aa
  obtain ⟨t0,ad,aa⟩:=zr aa
  obtain ⟨t1,ag,aa⟩:=zr aa
  obtain ⟨t5,ae,aa⟩:=zq aa
  obtain ⟨t6,af,aa⟩:=zq aa
  obtain ⟨t13,an,aa⟩:=zq aa
  obtain ⟨t14,ao,aa⟩:=zq aa
  obtain ⟨t113,ah,aa⟩:=zr aa
  obtain ⟨t114,ai,aa⟩:=zq aa
  obtain ⟨t115,aj,aa⟩:=zq aa
  obtain ⟨g2,rfl⟩:∃g,a_=Fr 195 [(0,t0.v),(1,t1.v),(5,vi t5),(6,Value.int .u64 t6),(13,Value.int .u64 t13),(14,Value.int .u64 t14),(113,t113.v),(114,vi t114),(115,vi t115)] g:=⟨_,yp ab ac _ (zf ad (zf ag (zf ae (zf af (zf an (zf ao (zf ah (zf ai (zf aj yc)))))))))⟩
  clear ab ac ad ag ae af an ao ah ai aj
  have av:=aa
  refine ⟨(fun _=>none),kcast (h2 t0 t1 t5 t6 t13 t14 t113 t114 t115 w_ av) ?_, ?_⟩
  ·kernel_rfl
  ·exact (za rfl (ze (za rfl (zh (zi (ye (za rfl (yh rfl (za rfl (ze (za rfl (ze (za rfl (ze (za rfl (ze (ze (ze trivial)))))))))))))))))))) (za rfl (ze (za rfl (za rfl (ze (zh (za rfl (ze (za rfl (ze (za rfl (za rfl (ze (yg _ rfl (fun a_ w_ aa=>(by
  obtain ⟨ab,ac,aa⟩:=ya aa
  obtain ⟨t0,ad,aa⟩:=zr aa
  obtain ⟨t5,ae,aa⟩:=zq aa
  obtain ⟨t6,af,aa⟩:=zq aa
  obtain ⟨t21,ap,aa⟩:=zq aa
  obtain ⟨t166,ak,aa⟩:=zr aa
  obtain ⟨t167,al,aa⟩:=zq aa
  obtain ⟨t168,am,aa⟩:=zq aa
  obtain ⟨g4,rfl⟩:∃g,a_=Fr 195 [(0,t0.v),(5,vi t5),(6,Value.int .u64 t6),(21,Value.int .u64 t21),(166,t166.v),(167,vi t167),(168,vi t168)] g:=⟨_,yp ab ac _ (zf ad (zf ae (zf af (zf ap (zf ak (zf al (zf am yc)))))))⟩
  clear ab ac ad ae af ap ak al am
  have aw:=aa
  refine ⟨(fun _=>none),kcast (h4 t0 t5 t6 t21 t166 t167 t168 w_ aw) ?_, ?_⟩
  ·kernel_rfl
  ·exact (za rfl (ze (za rfl (zh (zi (ye (za rfl (yh rfl (za rfl (ze (ze (ze trivial)))))))))))))) (ze (zi (za rfl (ze (zg trivial)))))))))))))))))))))))))))))))))))))))))))))))
theorem zah (aa:Slc) (ab:Slc) (w:World) (R:Ending→World→Prop) (h:kS 85 #[aa.v] w fun w1 s1=>(kS 85 #[ab.v] w1 fun w2 s2=>(br ((s2.n:Int)==0) (R (.returned (.tuple #[nSl.v,vi 30])) w2) (Calls pr 116 #[s1.v,s2.v] w2 fun e3 w3=>∃s3:Slc,∃s4:Slc,e3= .returned (.tuple #[s3.v,s4.v])∧(kI 46 #[s3.v] w3 fun w4 x1=>(br (decide (x1>67108864)) (R (.returned (.tuple #[nSl.v,vi 3])) w4) (R (.returned (.tuple #[s3.v,vi 0])) w4))))))):Calls pr 86 #[aa.v,ab.v] w R:=by
 refine zk (fun _=>none) (by kernel_rfl) Tryz.func86 rfl ?_ ?_
 ·refine kcast h ?_;kernel_rfl
 ·exact (za rfl (ze (za rfl (ze (za rfl (za rfl (ze (zh (za rfl (ze (zg (zi (za rfl (ze (za rfl (za rfl (ze (zh (za rfl (ze (zg (zi (za rfl (ze (zg trivial)))))))))))))))))))))))))
end
section
open Go Go.RowKit Eng Sp Dg Kd
namespace Dq
open _root_.Go.Proofs.YtbeiopoejdkheaaGreatDoor.Nat (ldN ldNf add64 sub64 pk)
open _root_.Go.Proofs.YtbeiopoejdkheaaGreatDoor.Mul (Only Off)
theorem tj {b j i:Nat} :(⟨b,j,none⟩:Addr).add i=⟨b,j+i,none⟩:=by
 unfold Addr.add
 split
 ·rename_i h;subst h;simp
 ·simp
structure Win (w:World) (b:Nat) (U u:Slc) (pre s post:List Nat):Prop where
  own:Owr .u64 tU64 w U (nn (pre++(s++post))) b
  hu:∃c,s.length≤c∧u=⟨some ⟨b,pre.length,none⟩,s.length,c⟩
theorem Win.n {w} {b:Nat} {U u} {pre s post:List Nat} (h:Win w b U u pre s post):u.n=s.length:=by
 obtain ⟨c,_,rfl⟩:=h.hu;rfl
theorem Win.rd {w} {b:Nat} {U u} {pre s post:List Nat} (h:Win w b U u pre s post):Rd .u64 w u (nn s):=by
 obtain ⟨c,hc,rfl⟩:=h.hu
 refine ⟨by rw [nn_length],hc,fun i hi=>⟨_,rfl, ?_⟩⟩
 rw [nn_length] at hi
 rw [tj,h.own.cell (by rw [nn_length];simp;omega)]
 congr 2
 rw [gk,gk]
 congr 1
 simp [List.getD_eq_getElem?_getD,List.getElem?_append,hi,show ¬pre.length+i<pre.length by omega]
theorem Win.ahead {w w'} {b:Nat} {U u} {pre s post:List Nat} (h:Win w b U u pre s post) (a:Ahead w w'):Win w' b U u pre s post:=⟨h.own.ahead a,h.hu⟩
theorem Win.st {t:TypeId} {w} {b:Nat} {U u} {pre s post:List Nat} (h:Win w b U u pre s post) {i:Int} (h0:0≤i) (h1:i<s.length) {x:Nat} {K:World→Prop} (hk:∀w',Win w' b U u pre (s.set i.toNat x) post→Only b w w'→K w') (hT:isSl pr t .u64=some tU64:=by kernel_rfl):semA pr (Instr.indexAt t u.v (.int .i64 i)) w fun ad w1=>stC ad (.int .u64 (x:Int)) w1 fun w2=>K w2:=by
 obtain ⟨c,hc,hu⟩:=h.hu
 have hi:pre.length+i.toNat<(nn (pre++(s++post))).length:=by rw [nn_length];simp;omega
 unfold semA
 rw [Sem.wp_iff_run,vg hT w u i ⟨b,pre.length,none⟩ (by rw [hu]) h0 (by rw [h.n];exact h1)]
 refine ⟨_,rfl, ?_⟩
 try dsimp only
 rw [tj]
 have hs:=h.own.set hi (x:Int)
 rw [cz] at hs
 have e:(pre++(s++post)).set (pre.length+i.toNat) x=pre++(s.set i.toNat x++post):=by
  rw [List.set_append,if_neg (by omega),Nat.add_sub_cancel_left,List.set_append,if_pos (by omega)]
 rw [e] at hs
 exact ⟨⟨_,h.own.cell hi⟩,h.own.frozen _,hk _ ⟨hs,c,by simpa using hc,by rw [hu];simp⟩ (Only.setCell b _ w _)⟩
abbrev Bk1 (b:Nat) (w w':World):Prop:=Bar (fun k=>k=b) w w'
theorem Bk1.of_only {b:Nat} {w w'} (h:Only b w w'):Bk1 b w w':=⟨h.1,h.2.1,h.2.2.1,by rw [h.2.2.2.1];exact Nat.le_refl _,fun k _ hk=>h.2.2.2.2 k hk⟩
theorem Bk1.rd {b:Nat} {w w'} (h:Bk1 b w w') {k:IntKind} {s:Slc} {l:List Int} (hr:Rd k w s l) (ho:Off b s):Rd k w' s l:=
 ⟨hr.n,hr.c,fun i hi=>by
  obtain ⟨ad,e,hc⟩:=hr.get i hi
  exact ⟨ad,e,h.cell (by rw [Mul.ki];exact ho ad e (by rw [hr.n];omega)) hc⟩⟩
structure G2 (w:World) (b:Nat) (U u v:Slc) (pre s post vl:List Nat) (q:Nat) (w':World) (i:Nat) (cr bo:Nat) (s1:List Nat):Prop where
  bar:Bk1 b w w'
  win:Win w' b U u pre s1 post
  hi:i≤vl.length
  hcr:cr<B64
  hbo:bo≤1
  len:s1.length=s.length
  okk:ok B64 s1
  rest:∀k,i≤k→s1.getD k 0=s.getD k 0
  vv:val B64 (s.take i)+(bo+cr)*B64^i=val B64 (s1.take i)+q*val B64 (vl.take i)
  hq:val B64 s/val B64 vl≤q
  hq2:q*val B64 vl<val B64 s+val B64 vl
  hqB:q<B64
structure G4 (w:World) (b:Nat) (U u v:Slc) (pre s2 post vl:List Nat) (w':World) (i:Nat) (cr:Nat) (s3:List Nat):Prop where
  bar:Bk1 b w w'
  win:Win w' b U u pre s3 post
  hi:i≤vl.length
  hcr:cr≤1
  len:s3.length=s2.length
  okk:ok B64 s3
  rest:∀k,i≤k→s3.getD k 0=s2.getD k 0
  vv:val B64 (s3.take i)+cr*B64^i=val B64 (s2.take i)+val B64 (vl.take i)
def GJ0 (w:World) (u v:Slc) (s vl:List Nat) (t0 t1:Slc) (t5 t6 t7:Int) (t8:Bool) (w':World):Prop:=
 t0=u∧t1=v∧t5=(vl.length:Int)∧Ahead w w'∧∃q r:Nat,t6=(q:Int)∧q<B64∧val B64 s/val B64 vl≤q∧q*vl.getD (vl.length -1) 0+r=s.getD (vl.length -1) 0+B64*s.getD vl.length 0∧((t8=false∧t7=(r:Int)∧r<B64)∨(t8=true∧B64≤r))
def GJ2 (w:World) (b:Nat) (U u v:Slc) (pre s post vl:List Nat) (t0 t1:Slc) (t5 t6 t13 t14:Int) (t113:Slc) (t114 t115:Int) (w':World):Prop:=
 t0=u∧t1=v∧t5=(vl.length:Int)∧t113=v∧t114=(vl.length:Int)∧∃(q i cr bo:Nat) (s1:List Nat),t6=(q:Int)∧t13=(cr:Int)∧t14=(bo:Int)∧t115=(i:Int)∧G2 w b U u v pre s post vl q w' i cr bo s1
def GJ4 (w:World) (b:Nat) (U u v:Slc) (pre s post vl:List Nat) (t0:Slc) (t5 t6 t21:Int) (t166:Slc) (t167 t168:Int) (w':World):Prop:=
 t0=u∧t5=(vl.length:Int)∧t6=((val B64 s/val B64 vl:Nat):Int)∧t166=v∧t167=(vl.length:Int)∧∃(i cr:Nat) (s2 s3:List Nat),t21=(cr:Int)∧t168=(i:Int)∧s2.length=s.length∧val B64 s2+val B64 vl=val B64 s % val B64 vl+B64^(vl.length+1)∧ok B64 s2∧G4 w b U u v pre s2 post vl w' i cr s3
theorem zam {w} {b:Nat} {U u v} {pre s post vl:List Nat} (hW:Win w b U u pre s post) (hv:Rd .u64 w v (nn vl)) (ho:Off b v) (n2:2≤vl.length) (hn:s.length=vl.length+1) (hl:vl.length≤2^45) (os:ok B64 s) (ov:ok B64 vl) (htop:0<vl.getD (vl.length -1) 0) (hlt:val B64 s<val B64 vl*B64):Calls pr div_guess_id #[u.v,v.v] w fun e w'=>e= .returned (.int .u64 ((val B64 s/val B64 vl:Nat):Int))∧Bk1 b w w'∧∃s',Win w' b U u pre s' post∧s'.length=s.length∧ok B64 s'∧val B64 s'=val B64 s % val B64 vl:=by
  have hB:=B64v
  have hun:=hW.n
  have hvn:v.n=vl.length:=by rw [hv.n,nn_length]
  obtain ⟨m,hm⟩:∃m,vl.length=m+2:=⟨vl.length -2,by omega⟩
  have hs3:s.length=m+3:=by omega
  have ts:=top3 (B:=B64) hs3
  have tv:=top2 (B:=B64) hm
  have hx:val B64 (s.take m)<B64^m:=by
    have:=xa (vr os m);rwa [show (s.take m).length=m by simp;omega] at this
  have hy:val B64 (vl.take m)<B64^m:=by
    have:=xa (vr ov m);rwa [show (vl.take m).length=m by simp;omega] at this
  have hu0:=yi os (by omega) (m+2)
  have hu1:=yi os (by omega) (m+1)
  have hu2:=yi os (by omega) m
  have hv1:=yi ov (by omega) (m+1)
  have hv2:=yi ov (by omega) m
  have hm1:vl.length -1=m+1:=by omega
  rw [hm1] at htop
  have hVpos:0<val B64 vl:=by
    rw [tv]
    have h1:0<B64^m*(vl.getD m 0+B64*vl.getD (m+1) 0):=Nat.mul_pos (Nat.pow_pos (by omega)) (by
      have:=Nat.mul_le_mul_left B64 htop;omega)
    omega
  have hQlt:val B64 s/val B64 vl<B64:=mn (by rw [Nat.mul_comm];exact hlt) hVpos
  have hQmul:val B64 s/val B64 vl*val B64 vl≤val B64 s:=Nat.div_mul_le_self _ _
  have hinit:=zda (Q:=val B64 s/val B64 vl) (B:=B64) (y:=val B64 (vl.take m)) hx hu2 (by rw [←ts,←tv];exact hQmul)
  have htle:=zfw (B:=B64) (x:=val B64 (s.take m)) hy hv2 (by rw [←ts,←tv];exact hlt)
  refine Hn u v w _
    (GJ0 w u v s vl) (fun _ _ _ t6 _ _ _=>t6.toNat) (GJ2 w b U u v pre s post vl) (fun _ _ _ _ _ _ _ _ t115 _=>((vl.length:Int) -t115).toNat)
    (GJ4 w b U u v pre s post vl) (fun _ _ _ _ _ _ t168 _=>((vl.length:Int) -t168).toNat) ?_ ?_ ?_ ?_
  ·
    have e1:IntKind.i64.wrap ((v.n:Int) -1)=((m+1:Nat):Int):=by rw [hvn,hm,zp (by omega) (by omega)];omega
    have e0:((v.n:Nat):Int)=((m+2:Nat):Int):=by rw [hvn,hm]
    rw [e1,e0]
    refine ldNf hW.rd (by omega) (by omega) (ldNf hv (by omega) (by omega) ?_)
    repeat rw [Int.toNat_natCast]
    intro w1 h1
    have h1d:=h1.trans (Ahead.drew w1)
    refine zm (fun hge=> ?_) (fun hl0=> ?_)
    · have hge':=of_decide_eq_true hge
      have heq:s.getD (m+2) 0=vl.getD (m+1) 0:=by omega
      refine ldNf (hW.ahead h1d).rd (by omega) (by omega) (ldNf (hv.ahead h1d) (by omega) (by omega) ?_)
      repeat rw [Int.toNat_natCast]
      refine add64 (c:=0) (by omega) ?_
      refine ⟨Ahead.refl _,rfl,rfl,by rw [hm],h1d,B64 -1,s.getD (m+1) 0+vl.getD (m+1) 0,by rw [hB];rfl,by omega,by omega, ?_, ?_⟩
      · rw [hm1,hm,heq]
        have:(B64 -1)*vl.getD (m+1) 0+vl.getD (m+1) 0=B64*vl.getD (m+1) 0:=by
          conv=>rhs;rw [show B64=(B64 -1)+1 by omega,Nat.add_mul,Nat.one_mul]
        omega
      · rw [Nat.add_zero]
        rcases Nat.lt_or_ge (s.getD (m+1) 0+vl.getD (m+1) 0) B64 with h|h
        · left
          rw [Nat.div_eq_of_lt h,Nat.mod_eq_of_lt h]
          exact ⟨rfl,rfl,h⟩
        · right
          have:(s.getD (m+1) 0+vl.getD (m+1) 0)/B64=1:=by
            have h2:(s.getD (m+1) 0+vl.getD (m+1) 0)/B64<2:=(Nat.div_lt_iff_lt_mul (by omega)).2 (by omega)
            have h3:1≤(s.getD (m+1) 0+vl.getD (m+1) 0)/B64:=(Nat.le_div_iff_mul_le (by omega)).2 (by omega)
            omega
          rw [this]
          exact ⟨rfl,h⟩
    · have hl0':=of_decide_eq_false hl0
      have hlt0:s.getD (m+2) 0<vl.getD (m+1) 0:=by omega
      refine ldNf (hW.ahead h1d).rd (by omega) (by omega) (ldNf (hW.ahead h1d).rd (by omega) (by omega) (ldNf (hv.ahead h1d) (by omega) (by omega) ?_))
      repeat rw [Int.toNat_natCast]
      refine Calls.mono (pk hlt0 hu1 hv1) ?_
      rintro e w2 ⟨h2,rfl⟩
      have eT:s.getD (m+2) 0*B64+s.getD (m+1) 0=s.getD (m+1) 0+B64*s.getD (m+2) 0:=by rw [Nat.mul_comm];omega
      rw [eT]
      have hq:(s.getD (m+1) 0+B64*s.getD (m+2) 0)/vl.getD (m+1) 0<B64:=mn (by
        have:=Nat.mul_le_mul_left B64 hlt0
        rw [Nat.mul_succ] at this
        omega) htop
      refine ⟨_,_,rfl,h2,rfl,rfl,by rw [hm],h1d.trans h2,_,_,rfl,hq, ?_, ?_, .inl ⟨rfl,rfl, ?_⟩⟩
      · exact (Nat.le_div_iff_mul_le htop).2 hinit
      · rw [hm1,hm]
        have:=Nat.div_add_mod (s.getD (m+1) 0+B64*s.getD (m+2) 0) (vl.getD (m+1) 0)
        rw [Nat.mul_comm] at this
        exact this
      · exact Nat.lt_trans (Nat.mod_lt _ htop) hv1
  ·
    rintro t0 t1 t5 t6 t7 t8 w1 ⟨rfl,rfl,rfl,h1,q,r,rfl,hqB,hqQ,hqr,hsure⟩
    rw [hm1,hm] at hqr
    have start:∀w2,Ahead w w2→∀q' r':Nat,q'<B64→val B64 s/val B64 vl≤q'→q'*vl.getD (m+1) 0+r'=s.getD (m+1) 0+B64*s.getD (m+2) 0→q'*vl.getD m 0≤B64*r'+s.getD m 0→
        GJ2 w b U t0 t1 pre s post vl t0 t1 (vl.length:Int) (q':Int) 0 0 t1 (t1.n:Int) 0 w2:=by
      intro w2 h2 q' r' hb hQ he ht
      refine ⟨rfl,rfl,rfl,rfl,by rw [hvn],q',0,0,0,s,rfl,rfl,rfl,rfl,Bar.of_ahead h2,hW.ahead h2,Nat.zero_le _,by omega,by omega,rfl,os,fun _ _=>rfl,by simp [val],hQ, ?_,hb⟩
      rw [ts,tv]
      exact zen hy he hb htop ht
    have e2:IntKind.i64.wrap ((vl.length:Int) -2)=((m:Nat):Int):=by rw [hm,zp (by omega) (by omega)];omega
    have e1:IntKind.i64.wrap ((vl.length:Int) -1)=((m+1:Nat):Int):=by rw [hm,zp (by omega) (by omega)];omega
    rw [e1,e2]
    have hv1':=hv.ahead h1
    have hW1:=hW.ahead h1
    rcases hsure with ⟨rfl,rfl,hrB⟩|⟨rfl,hrB⟩
    · refine yz rfl (ldN hv1' (by omega) (by omega) ?_)
      repeat rw [Int.toNat_natCast]
      refine Calls.mono (Tryz.bits_Mul64 _ _ (by omega) (by omega) _) ?_
      rintro e w4 ⟨rfl,rfl⟩
      refine ⟨_,_,rfl, ?_⟩
      try dsimp only
      rw [←B64v]
      have hdm:q*vl.getD m 0=B64*(q*vl.getD m 0/B64)+q*vl.getD m 0 % B64:=(Nat.div_add_mod _ _).symm
      have hlo:q*vl.getD m 0 % B64<B64:=Nat.mod_lt _ (by omega)
      have down:B64*r+s.getD m 0<q*vl.getD m 0→∀w5,w5=w4→semA pr (Instr.indexAt 23 t1.v (.int .i64 ((m+1:Nat):Int))) w5 fun ad w25=>ldI .u64 ad w25 fun x27=>
          Sem.wp pr (callFunc bits_Add64_id #[.int .u64 (r:Int), .int .u64 x27, .int .u64 0]) (fun n6 w26=>∃x28:Int,∃x29:Int,n6= .value (.tuple #[.int .u64 x28, .int .u64 x29])∧
            (br (x29 !=0)
             (GJ2 w b U t0 t1 pre s post vl t0 t1 (vl.length:Int) (IntKind.u64.wrap ((q:Int) -1)) 0 0 t1 (t1.n:Int) 0 w26)
             (GJ0 w t0 t1 s vl t0 t1 (vl.length:Int) (IntKind.u64.wrap ((q:Int) -1)) x28 false w26∧(IntKind.u64.wrap ((q:Int) -1)).toNat<q))) (fun _ _=>False) w25:=by
        rintro hgt w5 rfl
        refine ldN hv1' (by omega) (by omega) ?_
        repeat rw [Int.toNat_natCast]
        refine add64 (c:=0) (by omega) ?_
        have hbig:val B64 s<q*val B64 vl:=by rw [ts,tv];exact zdb hx hqr hgt
        have hQq:=mn hbig hVpos
        have hq1:1≤q:=Nat.lt_of_le_of_lt (Nat.zero_le _) hQq
        have ew:IntKind.u64.wrap ((q:Int) -1)=((q -1:Nat):Int):=by rw [yd (by omega) (by omega)];omega
        have he':(q -1)*vl.getD (m+1) 0+(r+vl.getD (m+1) 0)=s.getD (m+1) 0+B64*s.getD (m+2) 0:=by
          rw [←hqr]
          conv=>rhs;rw [show q=(q -1)+1 by omega,Nat.add_mul,Nat.one_mul]
          omega
        rw [ew,Nat.add_zero]
        rcases Nat.lt_or_ge (r+vl.getD (m+1) 0) B64 with h|h
        · rw [Nat.div_eq_of_lt h,Nat.mod_eq_of_lt h]
          exact zt rfl ⟨⟨rfl,rfl,rfl,h1,q -1,_,rfl,by omega,by omega,by rw [hm1,hm];exact he', .inl ⟨rfl,rfl,h⟩⟩,by omega⟩
        · have h3:1≤(r+vl.getD (m+1) 0)/B64:=(Nat.le_div_iff_mul_le (by omega)).2 (by omega)
          refine yz (by generalize (r+vl.getD (m+1) 0)/B64=c at h3;simp;omega) (start w5 h1 (q -1) _ (by omega) (by omega) he' ?_)
          have h4:(q -1)*vl.getD m 0≤B64*vl.getD m 0:=Nat.mul_le_mul_right _ (by omega)
          have h5:B64*vl.getD m 0≤B64*(r+vl.getD (m+1) 0):=Nat.mul_le_mul_left _ (by omega)
          omega
      refine zm (fun q1=>start _ h1 q r hqB hqQ hqr (ze8 hdm hlo (by have:=of_decide_eq_true q1;omega))) (fun q1=>zm (fun q2=> ?_) (fun q2=> ?_))
      · have q2':q*vl.getD m 0/B64=r:=by have:=eq_of_beq q2;omega
        refine ldN hW1.rd (by omega) (by omega) ?_
        repeat rw [Int.toNat_natCast]
        rw [q2'] at hdm
        refine zm (fun q3=>start _ h1 q r hqB hqQ hqr (by have:=of_decide_eq_true q3;omega)) (fun q3=>down (by have:=of_decide_eq_false q3;omega) _ rfl)
      · have q1':=of_decide_eq_false q1
        have q2':¬q*vl.getD m 0/B64=r:=fun h=>by rw [h] at q2;simp at q2
        exact down (ze7 hdm hu2 (by omega)) _ rfl
    · refine zt rfl (start _ h1 q r hqB hqQ hqr ?_)
      have h4:q*vl.getD m 0≤B64*vl.getD m 0:=Nat.mul_le_mul_right _ (by omega)
      have h5:B64*vl.getD m 0≤B64*r:=Nat.mul_le_mul_left _ (by omega)
      omega
  ·
    rintro t0 t1 t5 t6 t13 t14 t113 t114 t115 w1 ⟨rfl,rfl,rfl,rfl,rfl,q,i,cr,bo,s1,rfl,rfl,rfl,rfl,G⟩
    have hx1:=yi G.okk (by omega) i
    have hy1:=yi ov (by omega) i
    refine zm (fun hlt2=> ?_) (fun hge=> ?_)
    · have hi':i<vl.length:=by have:=of_decide_eq_true hlt2;omega
      refine ldN (G.bar.rd hv ho) (by omega) (by omega) ?_
      repeat rw [Int.toNat_natCast]
      have:=G.hqB
      refine Calls.mono (Tryz.bits_Mul64 _ _ (by omega) (by omega) _) ?_
      rintro e w4 ⟨rfl,rfl⟩
      refine ⟨_,_,rfl, ?_⟩
      try dsimp only
      rw [←B64v]
      refine add64 (c:=0) (by omega) ?_
      refine ldN G.win.rd (by omega) (by rw [G.len];omega) ?_
      repeat rw [Int.toNat_natCast]
      refine sub64 G.hbo ?_
      refine G.win.st (by omega) (by rw [G.len];omega) ?_
      intro w9 W9 on9
      rw [Int.toNat_natCast] at W9
      have hcr:=G.hcr
      have hbo:=G.hbo
      have hlen:=G.len
      obtain ⟨sm,c2,hh,k1,k2,k3,k4⟩:∃sm c2 hh:Nat,sm=(vl.getD i 0*q % B64+cr+0) % B64∧c2=(vl.getD i 0*q % B64+cr+0)/B64∧hh=vl.getD i 0*q/B64∧vl.getD i 0*q+cr=sm+B64*(hh+c2):=by
        refine ⟨_,_,_,rfl,rfl,rfl, ?_⟩
        have d1:=Nat.div_add_mod (vl.getD i 0*q) B64
        have d2:=Nat.div_add_mod (vl.getD i 0*q % B64+cr+0) B64
        rw [Nat.mul_add];omega
      rw [←k1] at W9⊢
      rw [←k2,←k3]
      have hsm:sm<B64:=by rw [k1];exact Nat.mod_lt _ (by omega)
      have hhc:hh+c2<B64:=by
        have h2:vl.getD i 0*q≤(B64 -1)*(B64 -1):=Nat.mul_le_mul (by omega) (by omega)
        have h3:(B64 -1)*(B64 -1)+(B64 -1)<B64*B64:=by rw [hB];omega
        have h4:B64*(hh+c2)<B64*B64:=by omega
        exact q9 h4
      have ew:IntKind.u64.wrap ((hh:Int)+(c2:Int))=((hh+c2:Nat):Int):=by rw [yd (by omega) (by omega)];omega
      have e8:IntKind.i64.wrap ((i:Int)+1)=((i+1:Nat):Int):=by rw [zp (by omega) (by omega)];omega
      rw [ew,e8]
      have hsub:s1.getD i 0+B64*(if s1.getD i 0<sm+bo then 1 else 0)=(s1.getD i 0+B64 -sm -bo) % B64+sm+bo:=by
        split
        · rw [Nat.mod_eq_of_lt (by omega)];omega
        · have:s1.getD i 0+B64 -sm -bo=(s1.getD i 0 -sm -bo)+B64:=by omega
          rw [this,Nat.add_mod_right,Nat.mod_eq_of_lt (by omega)];omega
      refine ⟨⟨rfl,rfl,rfl,rfl,rfl,q,i+1,hh+c2,_,_,rfl,rfl,rfl,rfl,G.bar.trans (Bk1.of_only on9),W9,hi',hhc,by split<;>omega,by simpa using G.len,xb G.okk (Nat.mod_lt _ (by omega)),fun k hk=> ?_, ?_,G.hq,G.hq2,G.hqB⟩,by omega⟩
      · rw [xd _ _ _ _ (by omega),if_neg (by omega)]
        exact G.rest k (by omega)
      · rw [xu _ _ _ (by omega),yj,yj,←G.rest i (Nat.le_refl _),Nat.pow_succ,Nat.mul_add q]
        have:=zdj (P:=B64^i) (W:=q*val B64 (vl.take i)) k4 hsub G.vv
        rw [this]
        congr 1
        congr 1
        ac_rfl
    · have hi':i=vl.length:=by have:=of_decide_eq_false hge;have:=G.hi;omega
      subst hi'
      have hlen:=G.len
      refine ldN G.win.rd (by omega) (by rw [G.len];omega) ?_
      repeat rw [Int.toNat_natCast]
      have hcr:=G.hcr
      have hbo:=G.hbo
      refine sub64 G.hbo ?_
      refine G.win.st (by omega) (by rw [G.len];omega) ?_
      intro w9 W9 on9
      rw [Int.toNat_natCast] at W9
      have bar9:=G.bar.trans (Bk1.of_only on9)
      have hlast:=yi G.okk (by omega) vl.length
      obtain ⟨un,bf,k1,k2⟩:∃un bf:Nat,un=(s1.getD vl.length 0+B64 -cr -bo) % B64∧bf=(if s1.getD vl.length 0<cr+bo then 1 else 0):=⟨_,_,rfl,rfl⟩
      rw [←k1] at W9
      rw [←k2]
      have hsub:s1.getD vl.length 0+B64*bf=un+cr+bo:=by
        rw [k1,k2]
        split
        · rw [Nat.mod_eq_of_lt (by omega)];omega
        · have:s1.getD vl.length 0+B64 -cr -bo=(s1.getD vl.length 0 -cr -bo)+B64:=by omega
          rw [this,Nat.add_mod_right,Nat.mod_eq_of_lt (by omega)];omega
      have hbf:bf=0∨bf=1:=by rw [k2];split<;>simp
      have hun2:un<B64:=by rw [k1];exact Nat.mod_lt _ (by omega)
      have hval:val B64 s+bf*B64^(m+3)=val B64 (s1.set vl.length un)+q*val B64 vl:=by
        have g:=G.vv
        rw [List.take_of_length_le (Nat.le_refl vl.length)] at g
        have t1:=top1 (B:=B64) (m:=vl.length) hn
        have t2:=top1 (B:=B64) (m:=vl.length) (s:=s1.set vl.length un) (by simp;omega)
        rw [ny,xd _ _ _ _ (by omega),if_pos rfl] at t2
        rw [t1,t2,←G.rest _ (Nat.le_refl _),show m+3=vl.length+1 by omega,Nat.pow_succ]
        have e1:B64^vl.length*(s1.getD vl.length 0+B64*bf)=B64^vl.length*(un+cr+bo):=by rw [hsub]
        rw [Nat.mul_add,Nat.mul_add,Nat.mul_add] at e1
        have e2:bf*(B64^vl.length*B64)=B64^vl.length*(B64*bf):=by ac_rfl
        rw [Nat.add_mul,Nat.mul_comm bo,Nat.mul_comm cr] at g
        omega
      have oks:ok B64 (s1.set vl.length un):=xb G.okk hun2
      have hlt2:val B64 (s1.set vl.length un)<B64^(m+3):=by
        have:=xa oks;rwa [show (s1.set vl.length un).length=m+3 by simp;omega] at this
      rcases hbf with h0|h0
      · rw [h0,Nat.zero_mul,Nat.add_zero] at hval
        obtain ⟨r1,r2⟩:=off0 hval G.hq hVpos
        rw [h0]
        exact zt rfl ⟨by rw [r1],bar9,_,W9,by simpa using G.len,oks,r2⟩
      · rw [h0,Nat.one_mul] at hval
        obtain ⟨r0,r1,r2⟩:=off1 hval hlt2 G.hq2 hVpos
        rw [h0]
        have hqB:=G.hqB
        have ew:IntKind.u64.wrap ((q:Int) -1)=((val B64 s/val B64 vl:Nat):Int):=by rw [yd (by omega) (by omega),←r1];omega
        refine yz rfl ⟨rfl,rfl,ew,rfl,by rw [hvn],0,0,_,_,rfl,rfl,by simpa using G.len,by rw [show vl.length+1=m+3 by omega];exact r2,oks,bar9,W9,Nat.zero_le _,by omega,rfl,oks,fun _ _=>rfl,by simp [val]⟩
  ·
    rintro t0 t5 t6 t21 t166 t167 t168 w1 ⟨rfl,rfl,rfl,rfl,rfl,i,cr,s2,s3,rfl,rfl,hl2,hv2',ok2,G⟩
    have hx1:=yi G.okk (by omega) i
    have hy1:=yi ov (by omega) i
    have hcr:=G.hcr
    have hlen:=G.len
    refine zm (fun hlt2=> ?_) (fun hge=> ?_)
    · have hi':i<vl.length:=by have:=of_decide_eq_true hlt2;omega
      refine ldN (G.bar.rd hv ho) (by omega) (by omega) ?_
      repeat rw [Int.toNat_natCast]
      refine ldN G.win.rd (by omega) (by omega) ?_
      repeat rw [Int.toNat_natCast]
      refine add64 hcr ?_
      refine G.win.st (by omega) (by omega) ?_
      intro w9 W9 on9
      rw [Int.toNat_natCast] at W9
      have e8:IntKind.i64.wrap ((i:Int)+1)=((i+1:Nat):Int):=by rw [zp (by omega) (by omega)];omega
      rw [e8]
      have hq1:(s3.getD i 0+vl.getD i 0+cr)/B64≤1:=by
        have:(s3.getD i 0+vl.getD i 0+cr)/B64<2:=(Nat.div_lt_iff_lt_mul (by omega)).2 (by omega)
        omega
      refine ⟨⟨rfl,rfl,rfl,rfl,rfl,i+1,_,s2,_,rfl,rfl,hl2,hv2',ok2,G.bar.trans (Bk1.of_only on9),W9,hi',hq1,by simpa using G.len,xb G.okk (Nat.mod_lt _ (by omega)),fun k hk=> ?_, ?_⟩,by omega⟩
      · rw [xd _ _ _ _ (by omega),if_neg (by omega)]
        exact G.rest k (by omega)
      · rw [xu _ _ _ (by omega),yj,yj,←G.rest i (Nat.le_refl _),Nat.pow_succ]
        have d:=Nat.mod_add_div (s3.getD i 0+vl.getD i 0+cr) B64
        exact fh d G.vv
    · have hi':i=vl.length:=by have:=of_decide_eq_false hge;have:=G.hi;omega
      subst hi'
      refine ldN G.win.rd (by omega) (by omega) ?_
      repeat rw [Int.toNat_natCast]
      have hX:=yi G.okk (by omega) vl.length
      have hXc:IntKind.u64.wrap (((s3.getD vl.length 0:Nat):Int)+(cr:Int))=(((s3.getD vl.length 0+cr) % B64:Nat):Int):=by
        rw [xt,hB];omega
      rw [hXc]
      refine G.win.st (by omega) (by omega) ?_
      intro w9 W9 on9
      rw [Int.toNat_natCast] at W9
      have g:=G.vv
      rw [List.take_of_length_le (Nat.le_refl vl.length)] at g
      have t1:=top1 (B:=B64) (m:=vl.length) (s:=s2) (by omega)
      have hr:val B64 s % val B64 vl<B64^vl.length:=Nat.lt_trans (Nat.mod_lt _ hVpos) (xa ov)
      have hx3:val B64 (s3.take vl.length)<B64^vl.length:=by
        have:=xa (vr G.okk vl.length);rwa [show (s3.take vl.length).length=vl.length by simp;omega] at this
      have key:val B64 (s3.take vl.length)+B64^vl.length*(s3.getD vl.length 0+cr)=val B64 s % val B64 vl+B64^vl.length*B64:=by
        rw [Nat.pow_succ] at hv2'
        rw [G.rest _ (Nat.le_refl _),Nat.mul_add,Nat.mul_comm _ cr]
        omega
      obtain ⟨l1,l2⟩:=zb3 hx3 hr (by omega) key
      refine ⟨rfl,G.bar.trans (Bk1.of_only on9),_,W9,by rw [List.length_set,G.len,hl2],xb G.okk (Nat.mod_lt _ (by omega)), ?_⟩
      have t2:=top1 (B:=B64) (m:=vl.length) (s:=s3.set vl.length ((s3.getD vl.length 0+cr) % B64)) (by simp;omega)
      rw [ny,xd _ _ _ _ (by omega),if_pos rfl,l1,Nat.mod_self,Nat.mul_zero,Nat.add_zero] at t2
      rw [←l2,←t2,l1,Nat.mod_self]
end Dq
end
section
open Go Go.RowKit Eng Sp Dg Kd
namespace Dq
open _root_.Go.Proofs.YtbeiopoejdkheaaGreatDoor.Nat (ldN ldNf stF stFf mkF mkN Fill Fill.rd Fill.base Fill.src OwnNil OwnNil.rd OwnNil.ahead OwnNil.mono OwnNil.nil Num Num.bl ti yn xk us semShl semShr fixShl uj pk bigC xc zw cutHi)
open _root_.Go.Proofs.YtbeiopoejdkheaaGreatDoor.Mul (Only Off)
theorem rdig {A:List Nat} (oA:ok B64 A) {m s i:Nat} (hs:s<64):val B64 A/(B64^m*2^s)/B64^i % B64=A.getD (m+i) 0/2^s+2^(64 -s)*(A.getD (m+i+1) 0 % 2^s):=by
 have hB:=B64v
 have h64:B64=2^64:=rfl
 rw [digit (by omega:0<B64) A oA (m+i),digit (by omega:0<B64) A oA (m+i+1)]
 rw [h64,kf,j8 _ _ _ _ hs]
 congr 2
 generalize val (2^64) A/(2^64)^(m+i+1)=U
 rw [show 2^64=2^s*2^(64 -s) by rw [←Nat.pow_add];congr 1;omega,Nat.mod_mul_right_mod]
theorem rhigh {x s:Nat} (hs:s<64):x*2 % B64*2^(63 -s) % B64=2^(64 -s)*(x % 2^s):=by
 have h64:B64=2^64:=rfl
 have h1:=kv x (64 -s) 64 (by omega)
 rw [show 64 -(64 -s)=s by omega] at h1
 rw [h64,←h1,Nat.mul_mod,Nat.mod_mod,←Nat.mul_mod,Nat.mul_assoc,←Nat.pow_succ',show (63 -s).succ=64 -s by omega]
theorem rlow {x s:Nat} (hx:x<B64) (hs:s<64):x/2^s<2^(64 -s):=by
 rw [Nat.div_lt_iff_lt_mul (Nat.pow_pos (by omega)),←Nat.pow_add,show 64 -s+s=64 by omega]
 exact hx
theorem C7 {w a} {A:List Nat} {s:Nat} (ra:Rd .u64 w a (nn A)) (na:A.length≤2^44) (oA:ok B64 A) (hs:s<64):Calls pr div_up_id #[a.v, .int .u64 (s:Int)] w fun e w'=>∃c l,e= .returned (Slc.v c)∧Fill w w' c l (fun _=>True)∧l.length=A.length+1∧ok B64 l∧val B64 l=val B64 A*2^s:=by
 have hB:=B64v
 have h64:B64=2^64:=rfl
 have hna:a.n=A.length:=by rw [ra.n,nn_length]
 refine zbu a (s:Int) w _ (fun t1 t5 t12 t13 t14 w'=>t1=(s:Int)∧t12=a∧t13=(A.length:Int)∧∃(l:List Nat) (j:Nat),t14=(j:Int)∧j≤A.length∧
  Fill w w' t5 l (fun w'=>Rd .u64 w' a (nn A))∧l.length=A.length+1∧ok B64 l∧val B64 l=val B64 (A.take j)*(B64^0*2^s)) (fun _ _ _ n i _=>(n -i).toNat) ?_ ?_
 ·rw [hna,zp (by omega) (by omega)]
  refine mkF (w0:=w) (S:=fun w'=>Rd .u64 w' a (nn A)) (by omega) (by omega) (Ahead.refl _) ra ?_
  intro c w3 hcn hf ha
  refine ⟨rfl,rfl,rfl,_,0,rfl,Nat.zero_le _,hf,by rw [List.length_replicate];omega,yr (by omega) _, ?_⟩
  rw [xn];simp [val]
 ·rintro t1 c t12 t13 t14 w' ⟨rfl,rfl,rfl,l,j,rfl,hj,hf,hl,ol,hv⟩
  have hS:=hf.src (fun _ h hs=>Rd.ahead hs h)
  refine zm (fun hlt=> ?_) (fun hge=> ?_)
  ·have hj':j<A.length:=by have:=of_decide_eq_true hlt;omega
   have hfacts:=pv (w:=64) (l:=l) (A:=A) (j:=j) (wd:=0) (s:=s) hs (by omega) oA hj' hv
   have stp:=fun lo hi=>kp (w:=64) (l:=l) (A:=A) (j:=j) (wd:=0) (s:=s) (lo:=lo) (hi:=hi) hs (by omega) oA hj' hv
   simp only [Nat.zero_add] at hfacts stp
   refine ldN hS (by omega) (by omega) ?_
   refine ldN hf.rd (by omega) (by omega) ?_
   refine semShl (by omega) ?_
   have hx:=yi oA (by omega:0<B64) j
   have hlk:=yi ol (by omega:0<B64) j
   repeat rw [Int.toNat_natCast]
   rw [uj hlk (Nat.mod_lt _ (by omega))]
   refine stF hf (by omega) (by omega) ?_
   intro w7 hf7
   rw [Int.toNat_natCast] at hf7
   have e8:IntKind.i64.wrap ((j:Int)+1)=((j+1:Nat):Int):=by rw [zp (by omega) (by omega)];omega
   have hlo:l.getD j 0|||A.getD j 0*2^s % B64=l.getD j 0+A.getD j 0*2^s % 2^64:=by
    have h2:=kv (A.getD j 0) s 64 (by omega)
    have h2':A.getD j 0*2^s % B64=_:=h2
    rw [h2',h2,kr hfacts.1]
   have hlolt:l.getD j 0|||A.getD j 0*2^s % B64<B64:=Nat.or_lt_two_pow (n:=64) hlk (Nat.mod_lt _ (by omega))
   have hhi:A.getD j 0*2^s/2^64<B64:=by
    rw [my _ _ _ (by omega)]
    exact Nat.lt_of_le_of_lt (Nat.div_le_self _ _) hx
   have e3:Int.fdiv (A.getD j 0:Int) (2^(1:Nat))=((A.getD j 0/2:Nat):Int):=by rw [Int.fdiv_eq_ediv_of_nonneg _ (by decide)];norm_cast
   have e4:IntKind.u64.wrap (63 -(s:Int))=((63 -s:Nat):Int):=by rw [yd (by omega) (by omega)];omega
   rw [e3,e4,e8]
   refine semShr (by omega) ?_
   have e6:A.getD j 0/2/2^(63 -s)=A.getD j 0*2^s/2^64:=by
    rw [my _ _ _ (by omega),Nat.div_div_eq_div_mul]
    congr 1
    rw [show 64 -s=63 -s+1 by omega,Nat.pow_succ];omega
   rw [e6]
   refine stF hf7 (by omega) (by simp;omega) ?_
   intro w10 hf10
   rw [Int.toNat_natCast] at hf10
   exact ⟨⟨rfl,rfl,rfl,_,j+1,rfl,by omega,hf10,by simpa using hl,xb (xb ol hlolt) hhi,stp _ _ hlo rfl⟩,by omega⟩
  ·have hj':j=A.length:=by have:=of_decide_eq_false hge;omega
   subst hj'
   rw [List.take_length,Nat.pow_zero,Nat.one_mul] at hv
   obtain ⟨b,w1,q1,q2,q3,q4,q5,q6,_⟩:=hf
   exact ⟨c,l,rfl,⟨b,w1,q1,q2,q3,q4,q5,q6,trivial⟩,hl,ol,hv⟩
theorem zbv {w a} {A:List Nat} {s:Nat} (ra:Rd .u64 w a (nn A)) (na:A.length≤2^44) (oA:ok B64 A) (hs:s<64):Calls pr div_down_id #[a.v, .int .u64 (s:Int)] w fun e w'=>Ahead w w'∧∃c,e= .returned (Slc.v c)∧OwnNil w.heap.size w' c (digs B64 (val B64 A/2^s)):=by
 have hB:=B64v
 have h64:B64=2^64:=rfl
 have hna:a.n=A.length:=by rw [ra.n,nn_length]
 have hN:∀i,val B64 A/2^s/B64^i % B64=A.getD i 0/2^s+2^(64 -s)*(A.getD (i+1) 0 % 2^s):=fun i=>by
  have:=rdig (m:=0) (i:=i) oA hs
  rwa [Nat.pow_zero,Nat.one_mul,Nat.zero_add] at this
 refine Fg a (s:Int) w _ (fun t0 t1 t5 t11 t12 t13 w'=>t0=a∧t1=(s:Int)∧t11=a∧t12=(A.length:Int)∧∃(l:List Nat) (j:Nat),t13=(j:Int)∧j≤A.length∧
  Fill w w' t5 l (fun w'=>Rd .u64 w' a (nn A))∧l.length=A.length∧ok B64 l∧∀i,i<j→l.getD i 0=val B64 A/2^s/B64^i % B64) (fun _ _ _ _ n i _=>(n -i).toNat) ?_ ?_
 ·rw [hna]
  refine mkF (w0:=w) (S:=fun w'=>Rd .u64 w' a (nn A)) (by omega) (by omega) (Ahead.refl _) ra ?_
  intro c w3 hcn hf ha
  exact ⟨rfl,rfl,rfl,rfl,_,0,rfl,Nat.zero_le _,hf,by rw [List.length_replicate];omega,yr (by omega) _,fun i hi=>by omega⟩
 ·rintro t0 t1 c t11 t12 t13 w' ⟨h00,rfl,h11,rfl,l,j,rfl,hj,hf,hl,ol,hd⟩
  subst h00;subst h11
  have hS:=hf.src (fun _ h hs=>Rd.ahead hs h)
  refine zm (fun hlt=> ?_) (fun hge=> ?_)
  ·have hj':j<A.length:=by have:=of_decide_eq_true hlt;omega
   have hx:=yi oA (by omega:0<B64) j
   have hN':=hN j
   have e8:IntKind.i64.wrap ((j:Int)+1)=((j+1:Nat):Int):=by rw [zp (by omega) (by omega)];omega
   rw [e8]
   refine ldN hS (by omega) (by omega) ?_
   refine semShr (by omega) ?_
   repeat rw [Int.toNat_natCast]
   have hq:A.getD j 0/2^s<B64:=Nat.lt_of_le_of_lt (Nat.div_le_self _ _) hx
   have hvlt:val B64 A/2^s/B64^j % B64<B64:=Nat.mod_lt _ (by omega)
   refine stF hf (by omega) (by omega) ?_
   intro w6 hf6
   rw [Int.toNat_natCast] at hf6
   have fin:∀{w7:World},Fill w w7 c (l.set j (val B64 A/2^s/B64^j % B64)) (fun w'=>Rd .u64 w' t11 (nn A))→
     (∃(l:List Nat) (j':Nat),((j+1:Nat):Int)=(j':Int)∧j'≤A.length∧Fill w w7 c l (fun w'=>Rd .u64 w' t11 (nn A))∧l.length=A.length∧ok B64 l∧∀i,i<j'→l.getD i 0=val B64 A/2^s/B64^i % B64):=by
    intro w7 hf7
    refine ⟨_,j+1,rfl,by omega,hf7,by simpa using hl,xb ol hvlt,fun i hi=> ?_⟩
    rw [xd _ _ _ _ (by omega)]
    split
    ·rename_i h;subst h;rfl
    ·exact hd i (by omega)
   refine zm (fun hin=> ?_) (fun hin=> ?_)
   ·have hin':j+1<A.length:=by have:=of_decide_eq_true hin;omega
    have hS6:=hf6.src (fun _ h hs=>Rd.ahead hs h)
    refine ldNf hf6.rd (by omega) (by simp;omega) ?_
    refine ldNf hS6 (by omega) (by omega) ?_
    repeat rw [Int.toNat_natCast]
    have hx1:=yi oA (by omega:0<B64) (j+1)
    have ew:IntKind.u64.wrap ((A.getD (j+1) 0:Int)*2^(1:Nat))=((A.getD (j+1) 0*2 % B64:Nat):Int):=by rw [xt,hB];omega
    have e4:IntKind.u64.wrap (63 -(s:Int))=((63 -s:Nat):Int):=by rw [yd (by omega) (by omega)];omega
    rw [ew,e4]
    refine fixShl (by omega) ?_
    rw [rhigh hs,xd _ _ _ _ (by omega),if_pos rfl,uj hq (by
     have h1:A.getD (j+1) 0 % 2^s<2^s:=Nat.mod_lt _ (Nat.pow_pos (by omega))
     have h2:=(Nat.mul_lt_mul_left (a:=2^(64 -s)) (Nat.pow_pos (by omega))).2 h1
     rwa [←Nat.pow_add,show 64 -s+s=64 by omega] at h2),kr (rlow hx hs),←hN']
    refine stFf hf6 (Ahead.drew _) (by omega) (by simp;omega) ?_
    intro w7 hf7
    rw [Int.toNat_natCast,List.set_set] at hf7
    exact ⟨⟨rfl,rfl,rfl,rfl,fin hf7⟩,by omega⟩
   ·have hin':A.length≤j+1:=by have:=of_decide_eq_false hin;omega
    rw [ui A 0 hin',Nat.zero_mod,Nat.mul_zero,Nat.add_zero] at hN'
    rw [←hN'] at hf6
    exact ⟨⟨rfl,rfl,rfl,rfl,fin hf6⟩,by omega⟩
  ·have hj':j=A.length:=by have:=of_decide_eq_false hge;omega
   subst hj'
   have hv:val B64 l=val B64 A/2^s:=by
    refine tq (by omega) l _ ?_ (fun i hi=>hd i (by omega))
    rw [hl]
    exact Nat.lt_of_le_of_lt (Nat.div_le_self _ _) (xa oA)
   refine Calls.mono (yn hf.rd (by omega) ol) ?_
   rw [hv]
   rintro e w3 ⟨h3,s,rfl,os⟩
   exact ⟨_,rfl,hf.base.trans h3,_,rfl,os.mono hf.base.size⟩
theorem stFa {t:TypeId} {w0 w s} {l:List Nat} {S:World→Prop} (h:Fill w0 w s l S) {i:Int} (h0:0≤i) (h1:i<l.length) {x:Nat} {K:World→Prop} (hk:∀w',Fill w0 w' s (l.set i.toNat x) S→K w') (hT:isSl pr t .u64=some tU64:=by kernel_rfl):anyA pr (Instr.indexAt t s.v (.int .i64 i)) fun ad=>stC ad (.int .u64 (x:Int)) w fun w2=>K w2:=by
 obtain ⟨b,w1,ho,h2,h3,h4,h5,h6,h7⟩:=h
 have hA:s.A=some ⟨b,0,none⟩:=ho.A
 refine ⟨⟨b,i.toNat,none⟩,fun w'=> ?_, ?_⟩
 ·rw [vg hT w' s i ⟨b,0,none⟩ hA h0 (by rw [ho.n];simpa using h1),zz]
 ·have hl:i.toNat<l.length:=by omega
  refine ⟨⟨_,ho.cell (by simpa using hl)⟩,ho.frozen _, ?_⟩
  refine hk _ ⟨b,w1, ?_,h2,h3,Ahead.setCell h4 h3,Ahead.setCell h5 h6,h6,h7⟩
  have:=ho.set (i:=i.toNat) (by simpa using hl) (x:Int)
  rw [cz] at this
  exact this
theorem ldNa {t:TypeId} {w s} {l:List Nat} (h:Rd .u64 w s (nn l)) {i:Int} (h0:0≤i) (h1:i<l.length) {V:Nat→Prop} (hV:∀k,¬V k) {K:Int→Prop} (hk:K ((l.getD i.toNat 0:Nat):Int)) (hT:isSl pr t .u64=some tU64:=by kernel_rfl):anyA pr (Instr.indexAt t s.v (.int .i64 i)) fun ad=>Out V ad (ldI .u64 ad w fun x=>K x):=by
 obtain ⟨ad,hA,hc⟩:=h.get i.toNat (by rw [nn_length];omega)
 refine ⟨ad.add i.toNat,fun w'=>vg hT w' s i ad hA h0 (by rw [h.n,nn_length];exact h1),hV _,_,hc, ?_⟩
 rw [gk];exact hk
structure LD (w:World) (u v q:Slc) (bu bq:Nat) (U V Q:List Nat) (T k:Nat):Prop where
  ou:Owr .u64 tU64 w u (nn U) bu
  oq:Owr .u64 tU64 w q (nn Q) bq
  rv:Rd .u64 w v (nn V)
  ne:bu≠bq
  offu:Off bu v
  offq:Off bq v
  okU:ok B64 U
  okQ:ok B64 Q
  len:U.length=Q.length+V.length
  hk:k≤Q.length
  low:val B64 (U.drop k)<val B64 V
  tot:T=val B64 U+val B64 V*(B64^k*val B64 (Q.drop k))
theorem Y8 {w0 w1 w2} {w3:World} {c} {d:Slc} {l m:List Nat} {S S':World→Prop} (h:Fill w0 w1 c l S) (h12:Ahead w1 w2) (h':Fill w2 w3 d m S'):∃bc bd,Owr .u64 tU64 w3 c (nn l) bc∧Owr .u64 tU64 w3 d (nn m) bd∧bc≠bd∧w0.heap.size≤bc∧w2.heap.size≤bd∧Off bd c∧Off bc d:=by
 obtain ⟨bc,x1,q1,q2,q3,q4,_⟩:=h
 obtain ⟨bd,y1,r1,r2,r3,r4,_⟩:=h'
 have:=q1.lt
 have:=h12.size
 have hne:bc≠bd:=by omega
 refine ⟨bc,bd,(q1.ahead h12).ahead r4,r1,hne,q3,r3,fun ad e _=> ?_,fun ad e _=> ?_⟩
 ·rw [q1.A] at e;obtain rfl:=Option.some.inj e;exact hne
 ·rw [r1.A] at e;obtain rfl:=Option.some.inj e;exact hne.symm
end Dq
end
section
open Go Go.RowKit Eng Sp Dg Kd
namespace Dq
open _root_.Go.Proofs.YtbeiopoejdkheaaGreatDoor.Nat (ldN ldNf stF stFf mkF mkN Fill Fill.rd Fill.base Fill.src Fill.ahead OwnNil OwnNil.rd OwnNil.ahead OwnNil.mono OwnNil.nil Num Num.bl xj ti yn xk us xe xf pk bigC xc zw cutHi)
open _root_.Go.Proofs.YtbeiopoejdkheaaGreatDoor.Mul (Only Off stO)
theorem He {w0 w w'} {m:Nat} (h:Ahead w0 w) (a:Bk1 m w w') (hm:w0.heap.size≤m):Ahead w0 w':=
 ⟨a.os.trans h.os,a.tape.trans h.tape,a.output.trans h.output,Nat.le_trans h.size a.size,fun k hk=>(a.block k (Nat.lt_of_lt_of_le hk h.size) (by omega)).trans (h.block k hk)⟩
theorem Bk1.own {b k:Nat} {w w' s} {l:List Int} {kd:IntKind} {t:TypeId} (h:Bk1 b w w') (hr:Owr kd t w s l k) (hne:k≠b):Owr kd t w' s l k:=by
 have hlt:=hr.lt
 obtain ⟨sp,hc,hm⟩:=hr.mem
 exact ⟨hr.hd,sp,hc,by rw [h.block k hlt hne];exact hm⟩
theorem lead {y:Nat} (hy:y≠0) {n:Nat} (hn:(digs B64 y).length=n+1):∃s:Nat,s<64∧(64:Int) -(Lib.bitLen (((digs B64 y).getD n 0:Nat):Int).toNat:Int)=(s:Int)∧(digs B64 (y*2^s)).length=n+1∧2^63≤(digs B64 (y*2^s)).getD n 0:=by
 have hB:=B64v
 have h64:B64=2^64:=rfl
 have hlast:=jv two64 hy
 rw [hn,Nat.add_sub_cancel] at hlast
 have ht:=yi (yb two64 y) (by omega:0<B64) n
 have hb1:=vf hlast
 have hb2:bl ((digs B64 y).getD n 0)≤64:=vw ht
 refine ⟨64 -bl ((digs B64 y).getD n 0),by omega,by rw [Int.toNat_natCast,cn ht];omega, ?_⟩
 generalize hs:64 -bl ((digs B64 y).getD n 0)=s
 have hbl:=Hg hn
 have hbb:=tc (n:=y*2^s) (by have:=Nat.mul_pos (Nat.pos_of_ne_zero hy) (Nat.pow_pos (n:=s) (show 0<2 by omega));omega)
 have hblS:bl (y*2^s)=64*(n+1):=by
  have h1:=tc hy
  have e:64*(n+1)=(64*(n+1) -1)+1:=by omega
  rw [e]
  refine V6 ?_ ?_
  ·have:=Nat.mul_le_mul_right (2^s) h1.1
   rw [←Nat.pow_add] at this
   rwa [show bl y -1+s=64*(n+1) -1 by omega] at this
  ·have:=Nat.mul_lt_mul_of_pos_right h1.2 (Nat.pow_pos (n:=s) (show 0<2 by omega))
   rw [←Nat.pow_add] at this
   rwa [show bl y+s=64*(n+1) -1+1 by omega] at this
 have hlen:(digs B64 (y*2^s)).length=n+1:=by
  have h1:=zw (N:=y*2^s) (m:=n+1) (by omega)
  have h2:=kj (yb two64 (y*2^s))
  rw [zu two64,hblS] at h2
  omega
 refine ⟨hlen, ?_⟩
 have h3:=Hg hlen
 rw [hblS] at h3
 have h4:bl ((digs B64 (y*2^s)).getD n 0)=64:=by omega
 have h5:(digs B64 (y*2^s)).getD n 0≠0:=fun h=>by rw [h,xm] at h4;omega
 have:=(tc h5).1
 rw [h4] at this
 exact this
def SJ (w:World) (a b:Slc) (x y:Nat) (t0 t1 t6:Slc) (t7 t8:Int) (w':World):Prop:=
 t0=a∧t1=b∧(digs B64 y).length=1∧∃(l:List Nat) (j r:Nat),t7=(r:Int)∧r<y∧t8=(j:Int) -1∧j≤(digs B64 x).length∧Fill w w' t6 l (fun w'=>Rd .u64 w' a (nn (digs B64 x))∧Rd .u64 w' b (nn (digs B64 y)))∧l.length=(digs B64 x).length∧ok B64 l∧
  val B64 ((digs B64 x).drop j)=val B64 (l.drop j)*y+r
def LJ (w:World) (s n T:Nat) (V:List Nat) (t9:Int) (t10 t11:Slc) (t12:Int) (t13:Slc) (t14:Int) (w':World):Prop:=
 t9=(s:Int)∧t12=(n:Int)∧2≤n∧Ahead w w'∧∃(bu bq:Nat) (U Q:List Nat) (k:Nat),t14=(k:Int) -1∧w.heap.size≤bu∧w.heap.size≤bq∧U.length≤2^44+1∧LD w' t10 t11 t13 bu bq U V Q T k
theorem nk {B:Nat} {l:List Nat} {j:Nat} (h:j<l.length):val B (l.drop j)=l.getD j 0+B*val B (l.drop (j+1)):=by
 rw [List.drop_eq_getElem_cons h,xx _ 0 h];rfl
theorem Yu (l:List Nat) (i q:Nat):(l.set i q).drop (i+1)=l.drop (i+1):=by
 rw [List.drop_set_of_lt (by omega)]
theorem Gm {k:IntKind} {t:TypeId} {w s} {l:List Int} {b c:Nat} (h:Owr k t w s l b) (h':Owr k t w s l c):b=c:=by
 have:=h.A;rw [h'.A] at this;injection this with this;injection this with this;exact this.symm
theorem zdg {w8 w9 w10 w11 u v q} {U V0:List Nat} {x y s n:Nat} {S1 S2 S3:World→Prop} (fu:Fill w8 w9 u U S1) (fv:Fill w9 w10 v V0 S2) (fq:Fill w10 w11 q (List.replicate ((digs B64 x).length -n) 0) S3) (hn:(digs B64 y).length=n+1) (hnx:n<(digs B64 x).length) (lu:U.length=(digs B64 x).length+1) (lv:V0.length=(digs B64 y).length+1) (oku:ok B64 U) (okv:ok B64 V0) (vu:val B64 U=x*2^s) (vv:val B64 V0=y*2^s) (hvl:(digs B64 (y*2^s)).length=n+1) (hvt:2^63≤(digs B64 (y*2^s)).getD n 0) (hxlt:x<B64^(digs B64 x).length) (hyge:B64^n≤y):∃bu bq,w8.heap.size≤bu∧w10.heap.size≤bq∧LD w11 u ⟨v.A,n+1,v.c⟩ q bu bq U (digs B64 (y*2^s)) (List.replicate ((digs B64 x).length -n) 0) (x*2^s) ((digs B64 x).length -n):=by
 have hB:=B64v
 have h10:=fv.base
 have h11:=fq.base
 have hV:V0.take (n+1)=digs B64 (y*2^s):=by
  have hlt:y*2^s<B64^(n+1):=by
   have:=xa (yb two64 (y*2^s));rwa [zu two64,hvl] at this
  have h1:val B64 (V0.take (n+1))=y*2^s:=by
   have h2:=top1 (B:=B64) (m:=n+1) (s:=V0) (by omega)
   rw [vv] at h2
   rcases Nat.eq_zero_or_pos (V0.getD (n+1) 0) with h0|h0
   ·rw [h0] at h2;omega
   ·have:=Nat.mul_le_mul_left (B64^(n+1)) h0
    omega
  rw [←h1,Hk two64 (vr okv _)]
  right
  rw [show (V0.take (n+1)).length=n+1 by rw [List.length_take];omega,Nat.add_sub_cancel]
  have h3:(V0.take (n+1)).getD n 0=(digs B64 (y*2^s)).getD n 0:=by
   rw [digit (by omega:0<B64) _ (vr okv _) n,digit (by omega:0<B64) _ (yb two64 (y*2^s)) n,h1,zu two64]
  rw [h3];omega
 have rv:=fv.rd.take (m:=n+1) (c:=v.c) (by rw [nn_length];omega) (by have:=fv.rd.c;have:=fv.rd.n;rw [nn_length] at this;omega)
 rw [vm,hV] at rv
 obtain ⟨bu,bq,ou,oq,hne,hbu,hbq,_,_⟩:=Y8 fu h10 fq
 obtain ⟨bu2,bv,ou2,ov,hne2,_,hbv,offu,_⟩:=Y8 fu (Ahead.refl _) fv
 obtain ⟨bv2,bq2,ov2,oq2,hne3,_,_,_,_⟩:=Y8 fv (Ahead.refl _) fq
 obtain rfl:=Gm (ou2.ahead h11) ou
 obtain rfl:=Gm (ov.ahead h11) ov2
 obtain rfl:=Gm oq oq2
 refine ⟨bu2,bq,hbu,hbq,ou,oq,rv.ahead h11,hne,fun ad e _=> ?_,fun ad e _=> ?_,oku,yr (by omega) _, ?_, ?_, ?_, ?_⟩
 ·rw [show (⟨v.A,n+1,v.c⟩:Slc).A=v.A from rfl,ov.A] at e;obtain rfl:=Option.some.inj e;exact hne2.symm
 ·rw [show (⟨v.A,n+1,v.c⟩:Slc).A=v.A from rfl,ov.A] at e;obtain rfl:=Option.some.inj e;exact hne3
 ·rw [List.length_replicate,lu,hvl];omega
 ·rw [List.length_replicate];exact Nat.le_refl _
 ·rw [zu two64]
  have h1:=xi (B:=B64) U ((digs B64 x).length -n) (by omega)
  have h2:x*2^s<y*2^s*B64^((digs B64 x).length -n):=by
   have h3:x<y*B64^((digs B64 x).length -n):=by
    refine Nat.lt_of_lt_of_le hxlt ?_
    have:=Nat.mul_le_mul_right (B64^((digs B64 x).length -n)) hyge
    rwa [←Nat.pow_add,show n+((digs B64 x).length -n)=(digs B64 x).length by omega] at this
   have:=Nat.mul_lt_mul_of_pos_right h3 (Nat.pow_pos (n:=s) (show 0<2 by omega))
   rwa [Nat.mul_right_comm] at this
  rw [←vu,h1,Nat.mul_comm (y*2^s)] at h2
  exact q9 (Nat.lt_of_le_of_lt (Nat.le_add_left _ _) h2)
 ·rw [List.drop_eq_nil_of_le (by rw [List.length_replicate];exact Nat.le_refl _),vu];simp [val]
theorem Fh {w a b} {x y base:Nat} (oa:OwnNil base w a (digs B64 x)) (hbase:base≤w.heap.size) (rb:Rd .u64 w b (nn (digs B64 y))) (na:(digs B64 x).length≤2^44) (nb:(digs B64 y).length≤2^44) (hy:y≠0):Calls pr div_divide_id #[a.v,b.v] w fun e w'=>Ahead w w'∧∃s t,e= .returned (.tuple #[Slc.v s,Slc.v t])∧OwnNil w.heap.size w' s (digs B64 (x/y))∧OwnNil base w' t (digs B64 (x % y)):=by
 have hB:=B64v
 have ra:=oa.rd
 have hna:a.n=(digs B64 x).length:=by rw [ra.n,nn_length]
 have hnb:b.n=(digs B64 y).length:=by rw [rb.n,nn_length]
 have vx:=zu two64 x
 have vy:=zu two64 y
 have okx:=yb two64 x
 have oky:=yb two64 y
 have hyl:=List.length_pos_iff.2 (xv two64 hy)
 obtain ⟨n,hn⟩:∃n,(digs B64 y).length=n+1:=⟨(digs B64 y).length -1,by omega⟩
 obtain ⟨s,hs,hlz,hvl,hvt⟩:=lead hy hn
 have hxlt:x<B64^(digs B64 x).length:=by have:=xa okx;rwa [vx] at this
 have hyge:B64^n≤y:=by have:=(q7 two64 hy).1;rwa [hn,Nat.add_sub_cancel] at this
 refine Pr a b w _ (SJ w a b x y) (fun _ _ _ _ t8 _=>(t8+1).toNat) (LJ w s (n+1) (x*2^s) (digs B64 (y*2^s))) (fun _ _ _ _ _ t14 _=>(t14+1).toNat) ?_ ?_ ?_
 ·refine Calls.mono (ti ra rb (by omega) (by omega) okx oky) ?_
  rw [vx,vy]
  rintro e w1 ⟨h1,rfl⟩
  refine ⟨_,rfl,zm (fun hc=> ?_) (fun hc=> ?_)⟩
  ·have hlt:x<y:=ta.1 (of_decide_eq_true hc)
   rw [Nat.div_eq_of_lt hlt,Nat.mod_eq_of_lt hlt,yq]
   exact ⟨h1,_,_,rfl,OwnNil.nil,oa.ahead h1⟩
  ·have hge:y≤x:=by
    have:=of_decide_eq_false hc
    exact Nat.le_of_not_lt fun h=>this (ta.2 h)
   have hlen:(digs B64 y).length≤(digs B64 x).length:=Nat.le_of_not_lt fun h=>by have:=td two64 h;omega
   refine zm (fun h1'=> ?_) (fun h1'=> ?_)
   ·have hn0:n=0:=by have:=eq_of_beq h1';omega
    rw [hna,zp (by omega) (by omega)]
    refine mkF (w0:=w) (S:=fun w'=>Rd .u64 w' a (nn (digs B64 x))∧Rd .u64 w' b (nn (digs B64 y))) (by omega) (by omega) h1 ⟨ra.ahead h1,rb.ahead h1⟩ ?_
    intro c w3 hcn hf ha
    refine ⟨rfl,rfl,by omega,_,_,0,rfl,by omega,rfl,Nat.le_refl _,hf,by rw [List.length_replicate];omega,yr (by omega) _, ?_⟩
    rw [List.drop_eq_nil_of_le (Nat.le_refl _),List.drop_eq_nil_of_le (by rw [List.length_replicate];omega)]
    simp [val]
   ·have hn1:1≤n:=by
     rcases Nat.eq_zero_or_pos n with h|h
     ·rw [hnb,hn,h] at h1';simp at h1'
     ·exact h
    have e1:IntKind.i64.wrap ((b.n:Int) -1)=(n:Int):=by rw [hnb,hn,zp (by omega) (by omega)];omega
    rw [e1]
    refine ldN (rb.ahead h1) (by omega) (by omega) ?_
    repeat rw [Int.toNat_natCast]
    have ht:=yi oky (by omega:0<B64) n
    refine Calls.mono (Tryz.bits_LeadingZeros64 (((digs B64 y).getD n 0:Nat):Int) w1 (by omega) (by omega)) ?_
    rintro e w8 ⟨rfl,rfl⟩
    rw [hlz]
    refine ⟨_,rfl, ?_⟩
    try dsimp only
    rw [yd (x:=(s:Int)) (by omega) (by omega)]
    have h8:=h1.trans (Ahead.drew w8)
    refine Calls.mono (C7 (ra.ahead h8) na okx hs) ?_
    rintro e w9 ⟨u,U,rfl,fu,lu,oku,vu⟩
    have h9:=fu.base
    refine ⟨_,rfl,h9,Calls.mono (C7 ((rb.ahead h8).ahead h9) nb oky hs) ?_⟩
    rintro e w10 ⟨v,V0,rfl,fv,lv,okv,vv⟩
    have h10:=fv.base
    rw [vy] at vv
    rw [vx] at vu
    refine ⟨_,rfl,h10, ?_⟩
    have hvn:v.n=n+2:=by rw [fv.rd.n,nn_length,lv,hn]
    have hvc:=fv.rd.c
    have hun:u.n=(digs B64 x).length+1:=by rw [fu.rd.n,nn_length,lu]
    have hcut:∀w',(Instr.sliceAt 23 v.v none (some (Value.int .i64 (b.n:Int))) none).run pr w'= .ok (Slc.v ⟨v.A,n+1,v.c⟩) w':=fun w'=>by
     have:=mw (P:=pr) (t:=23) (k:= .u64) (e:=tU64) (by kernel_rfl) w' v (h:=(b.n:Int)) (by omega) (by omega)
     rw [Int.toNat_natCast] at this
     rw [this,hnb,hn]
    refine ⟨⟨v.A,n+1,v.c⟩,fun w' _=>hcut w', ?_⟩
    have e2:IntKind.i64.wrap (IntKind.i64.wrap ((a.n:Int) -((n+1:Nat):Int))+1)=(((digs B64 x).length -n:Nat):Int):=by
     rw [hna,zp (x:=((digs B64 x).length:Int) -_) (by omega) (by omega),zp (by omega) (by omega)];omega
    have e3:IntKind.i64.wrap ((a.n:Int) -((n+1:Nat):Int))=(((digs B64 x).length -n:Nat):Int) -1:=by
     rw [hna,zp (by omega) (by omega)];omega
    show semS pr (Instr.makeSlice 23 (Value.int .i64 (IntKind.i64.wrap (IntKind.i64.wrap ((a.n:Int) -((n+1:Nat):Int))+1))) (Value.int .i64 (IntKind.i64.wrap (IntKind.i64.wrap ((a.n:Int) -((n+1:Nat):Int))+1)))) w10 fun s7 w11=>
     LJ w s (n+1) (x*2^s) (digs B64 (y*2^s)) (s:Int) u ⟨v.A,n+1,v.c⟩ ((n+1:Nat):Int) s7 (IntKind.i64.wrap ((a.n:Int) -((n+1:Nat):Int))) w11
    rw [e2,e3]
    refine mkF (w0:=w10) (S:=fun _=>True) (by omega) (by omega) (Ahead.refl _) trivial ?_
    intro q w11 hqn fq h11
    rw [Int.toNat_natCast] at fq
    obtain ⟨bu,bq,hbu,hbq,L⟩:=zdg fu fv fq hn (by omega) lu lv oku okv vu vv hvl hvt hxlt hyge
    exact ⟨rfl,rfl,by omega,(h8.trans h9).trans (h10.trans h11),bu,bq,U,_,(digs B64 x).length -n,rfl,Nat.le_trans h8.size hbu,Nat.le_trans ((h8.trans h9).trans h10).size hbq,by omega,L⟩
 ·
  rintro t0 t1 q t7 t8 w1 ⟨rfl,rfl,hone,l,j,r,rfl,hr,rfl,hj,hf,hl,okl,hv⟩
  have hS:=hf.src (fun _ h hs=>⟨Rd.ahead hs.1 h,Rd.ahead hs.2 h⟩)
  have hyv:y=(digs B64 y).getD 0 0:=by
   have h1:=top1 (B:=B64) (m:=0) hone
   rw [vy] at h1
   simpa [val] using h1
  have hyB:=yi oky (by omega:0<B64) 0
  refine zm (fun hge=> ?_) (fun hlt=> ?_)
  ·have hj':1≤j:=by have:=of_decide_eq_true hge;omega
   have e1:(j:Int) -1=((j -1:Nat):Int):=by omega
   have ad:=Ahead.drew w1
   rw [e1]
   refine ⟨fun _ _=>False,ldNa (hS.1.ahead ad) (by omega) (by omega) (fun _ h=>h) (ldNa (hS.2.ahead ad) (by omega) (by omega) (fun _ h=>h) ?_)⟩
   repeat rw [Int.toNat_natCast]
   rw [show (0:Int).toNat=0 from rfl,←hyv]
   have hx1:=yi okx (by omega:0<B64) (j -1)
   refine Calls.mono (pk hr hx1 (by omega)) ?_
   rintro e w3 ⟨h3,rfl⟩
   refine ⟨_,_,rfl, ?_⟩
   have hq:(r*B64+(digs B64 x).getD (j -1) 0)/y<B64:=mn (by
    have:=Nat.mul_le_mul_right B64 hr
    rw [Nat.succ_mul] at this
    rw [Nat.mul_comm B64 y];omega) (by omega)
   refine stFa ((hf.ahead ad).ahead h3) (by omega) (by omega) ?_
   intro w4 hf4
   rw [Int.toNat_natCast] at hf4
   rw [zp (by omega) (by omega)]
   refine ⟨⟨rfl,rfl,hone,_,j -1,_,rfl,Nat.mod_lt _ (by omega),rfl,by omega,hf4,by simpa using hl,xb okl hq, ?_⟩,by omega⟩
   rw [nk (show j -1<(digs B64 x).length by omega),nk (show j -1<(l.set (j -1) ((r*B64+(digs B64 x).getD (j -1) 0)/y)).length by simp;omega),xd _ _ _ _ (by omega),if_pos rfl,Yu,show j -1+1=j by omega,hv]
   have d:=Nat.div_add_mod (r*B64+(digs B64 x).getD (j -1) 0) y
   generalize (r*B64+(digs B64 x).getD (j -1) 0)/y=Q at*
   generalize (r*B64+(digs B64 x).getD (j -1) 0) % y=R at*
   rw [Nat.mul_add,Nat.add_mul,Nat.mul_comm B64 r,Nat.mul_comm Q y,←Nat.mul_assoc]
   omega
  ·have hj':j=0:=by have:=of_decide_eq_false hlt;omega
   subst hj'
   rw [List.drop_zero,List.drop_zero,vx] at hv
   have hdv:x/y=val B64 l:=by rw [hv,Nat.mul_comm,Nat.mul_add_div (by omega),Nat.div_eq_of_lt hr,Nat.add_zero]
   have hmd:x % y=r:=by rw [hv,Nat.mul_comm,Nat.mul_add_mod,Nat.mod_eq_of_lt hr]
   refine Calls.mono (yn hf.rd (by omega) okl) ?_
   rw [←hdv]
   rintro e w5 ⟨h5,s5,rfl,os⟩
   refine ⟨_,rfl,Calls.mono (xk (v:=r) (by omega)) ?_⟩
   rintro e w6 ⟨h6,s6,rfl,or⟩
   have hb1:=hf.base
   exact ⟨_,rfl,(hb1.trans h5).trans h6,_,_,rfl,(os.ahead h6).mono hb1.size,by rw [hmd];exact or.mono (Nat.le_trans hbase (hb1.trans h5).size)⟩
 ·
  rintro t9 u v t12 q t14 w1 ⟨rfl,rfl,hn2,h1,bu,bq,U,Q,k,rfl,hbu,hbq,hUl,L⟩
  have hun:u.n=U.length:=by rw [L.ou.rd.n,nn_length]
  have huc:=L.ou.rd.c
  have hlen:=L.len
  have hk:=L.hk
  have hvl':=hvl
  generalize hVV:digs B64 (y*2^s)=V at*
  have okV:ok B64 V:=by rw [←hVV];exact yb two64 _
  have vV:val B64 V=y*2^s:=by rw [←hVV];exact zu two64 _
  have hVlt:val B64 V<B64^(n+1):=by have:=xa okV;rwa [hvl'] at this
  refine zm (fun hge=> ?_) (fun hlt=> ?_)
  ·obtain ⟨k',rfl⟩:∃k',k=k'+1:=⟨k -1,by have:=of_decide_eq_true hge;omega⟩
   have e0:((k'+1:Nat):Int) -1=(k':Int):=by omega
   have e1:IntKind.i64.wrap (IntKind.i64.wrap ((k':Int)+((n+1:Nat):Int))+1)=((k'+(n+2):Nat):Int):=by rw [zp (x:=(k':Int)+_) (by omega) (by omega),zp (by omega) (by omega)];omega
   rw [e0,e1]
   have hcut:(Instr.sliceAt 23 u.v (some (Value.int .i64 (k':Int))) (some (Value.int .i64 ((k'+(n+2):Nat):Int))) none).run pr w1= .ok (Slc.v ⟨some ⟨bu,k',none⟩,n+2,u.c -k'⟩) w1:=by
    rw [gp (k:= .u64) (e:=tU64) (by kernel_rfl) w1 u (by omega) (by omega) (by omega)]
    repeat rw [Int.toNat_natCast]
    rw [if_neg (by omega),L.ou.A,Option.map_some,zz,Nat.add_sub_cancel_left]
   unfold semS
   rw [Sem.wp_iff_run,hcut]
   refine ⟨_,rfl, ?_⟩
   have hsl:((U.drop k').take (n+2)).length=n+2:=by rw [List.length_take,List.length_drop];omega
   have hpl:(U.take k').length=k':=by rw [List.length_take];omega
   have hsplit:U=U.take k'++((U.drop k').take (n+2)++U.drop (k'+(n+2))):=by
    rw [←List.drop_drop,List.take_append_drop,List.take_append_drop]
   have W:Win w1 bu u ⟨some ⟨bu,k',none⟩,n+2,u.c -k'⟩ (U.take k') ((U.drop k').take (n+2)) (U.drop (k'+(n+2))):=by
    refine ⟨by rw [←hsplit];exact L.ou,u.c -k',by omega, ?_⟩
    rw [hpl,hsl]
   have hlow:=L.low
   have hpost:val B64 (U.drop (k'+(n+2)))=0:=by
    have h2:=xi (B:=B64) (U.drop (k'+1)) (n+1) (by rw [List.length_drop];omega)
    rw [List.drop_drop,show k'+1+(n+1)=k'+(n+2) by omega] at h2
    rcases Nat.eq_zero_or_pos (val B64 (U.drop (k'+(n+2)))) with h0|h0
    ·exact h0
    ·have:=Nat.mul_le_mul_left (B64^(n+1)) h0
     omega
   have hval:val B64 (U.drop k')=val B64 ((U.drop k').take (n+2)):=by
    have h2:=xi (B:=B64) (U.drop k') (n+2) (by rw [List.length_drop];omega)
    rwa [List.drop_drop,hpost,Nat.mul_zero,Nat.add_zero] at h2
   have hlt:val B64 ((U.drop k').take (n+2))<val B64 V*B64:=by
    rw [←hval,nk (by omega)]
    have h3:=yi L.okU (by omega:0<B64) k'
    have h4:=Nat.mul_le_mul_left B64 hlow
    rw [Nat.mul_succ] at h4
    rw [Nat.mul_comm (val B64 V)];omega
   have hokw:ok B64 ((U.drop k').take (n+2)):=vr (jj L.okU _) _
   refine Calls.mono (zam W L.rv L.offu (by omega) (by omega) (by omega) hokw okV (by rw [hvl',Nat.add_sub_cancel];omega) hlt) ?_
   rintro e w13 ⟨rfl,b13,s',W',ls',oks',vs'⟩
   refine ⟨_,rfl, ?_⟩
   have oq13:=b13.own L.oq L.ne.symm
   refine stO oq13 (by omega) (by omega) ?_
   intro w15 oq15 on15
   rw [Int.toNat_natCast] at oq15
   have b15:Bk1 bq w13 w15:=Bk1.of_only on15
   have hVpos:0<val B64 V:=by omega
   have hqB:val B64 ((U.drop k').take (n+2))/val B64 V<B64:=mn (by rw [Nat.mul_comm];exact hlt) hVpos
   have hd2:(U.take k'++(s'++U.drop (k'+(n+2)))).drop k'=s'++U.drop (k'+(n+2)):=List.drop_left' hpl
   have hvd:val B64 ((U.take k'++(s'++U.drop (k'+(n+2)))).drop k')=val B64 s':=by rw [hd2,p7,hpost,Nat.mul_zero,Nat.add_zero]
   rw [zp (by omega) (by omega)]
   refine ⟨⟨rfl,rfl,hn2,He (He h1 b13 hbu) b15 hbq,bu,bq,_,_,k',rfl,hbu,hbq,by rw [List.length_append,List.length_append,hpl,ls',hsl,List.length_drop];omega,on15.own W'.own L.ne,oq15,b15.rd (b13.rd L.rv L.offu) L.offq,L.ne,L.offu,L.offq, ?_,xb L.okQ hqB, ?_, ?_, ?_, ?_⟩,by omega⟩
   ·rw [Za,Za]
    exact ⟨vr L.okU _,oks',jj L.okU _⟩
   ·rw [List.length_append,List.length_append,hpl,ls',hsl,List.length_drop,List.length_set];omega
   ·rw [List.length_set];omega
   ·rw [hvd,vs'];exact Nat.mod_lt _ hVpos
   ·have ht:=L.tot
    have h5:=xi (B:=B64) U k' (by omega)
    rw [h5,hval] at ht
    have h6:=Nat.div_add_mod (val B64 ((U.drop k').take (n+2))) (val B64 V)
    rw [←vs',Nat.mul_comm] at h6
    have h7:=Zf ht h6.symm
    rw [p7,hpl,p7,hpost,Nat.mul_zero,Nat.add_zero,nk (show k'<(Q.set k' _).length by rw [List.length_set];omega),xd _ _ _ _ (by omega),if_pos rfl,Yu]
    exact h7
  ·have hk0:k=0:=by have:=of_decide_eq_false hlt;omega
   subst hk0
   have hlow:=L.low
   have ht:=L.tot
   rw [List.drop_zero] at hlow
   rw [List.drop_zero,Nat.pow_zero,Nat.one_mul,vV] at ht
   rw [vV] at hlow
   have hp2:0<2^s:=Nat.pow_pos (by omega)
   obtain ⟨f1,f2⟩:=zep hp2 (by omega) ht hlow
   have hU:val B64 (U.take (n+1))=val B64 U:=by
    have h2:=xi (B:=B64) U (n+1) (by omega)
    rcases Nat.eq_zero_or_pos (val B64 (U.drop (n+1))) with h0|h0
    ·rw [h0] at h2;omega
    ·have:=Nat.mul_le_mul_left (B64^(n+1)) h0
     omega
   have hcut:∀w',(Instr.sliceAt 23 u.v none (some (Value.int .i64 ((n+1:Nat):Int))) none).run pr w'= .ok (Slc.v ⟨u.A,n+1,u.c⟩) w':=fun w'=>by
    have:=mw (P:=pr) (t:=23) (k:= .u64) (e:=tU64) (by kernel_rfl) w' u (h:=((n+1:Nat):Int)) (by omega) (by omega)
    rwa [Int.toNat_natCast] at this
   refine ⟨_,fun w' _=>hcut w', ?_⟩
   have ad:=Ahead.drew w1
   have ru:=(L.ou.ahead ad).rd.take (m:=n+1) (c:=u.c) (by rw [nn_length];omega) (by omega)
   rw [vm] at ru
   refine Calls.mono (yn (L.oq.ahead ad).rd (by omega) L.okQ) ?_
   rintro e w16 ⟨h16,s10,rfl,os⟩
   refine ⟨_,rfl,h16, ?_⟩
   refine Calls.mono (zbv (ru.ahead h16) (by rw [List.length_take];omega) (vr L.okU _) hs) ?_
   rw [hU,f2]
   rintro e w17 ⟨h17,s11,rfl,ot⟩
   have h1d:=h1.trans ad
   refine ⟨_,rfl,h17,(h1d.trans h16).trans h17,_,_,rfl, ?_,ot.mono (Nat.le_trans hbase (h1d.trans h16).size)⟩
   rw [←f1]
   exact (os.ahead h17).mono h1d.size
def quoC (x y:Nat):Int:=if y=0 then 30 else bigC (x/y)
theorem jm {w a b} {x y:Nat} (ha:Num w a x) (hb:Num w b y):Calls pr div_Quo_id #[a.v,b.v] w (Nat.Ret w (quoC x y) (x/y)):=by
 have lx:=Num.bl ha
 have ly:=Num.bl hb
 have dx:=zw (N:=x) (m:=2^44) (by omega)
 have dy:=zw (N:=y) (m:=2^44) (by omega)
 obtain ⟨la,ra,na,oka,va⟩:=ha
 obtain ⟨lb,rb,nb,okb,vb⟩:=hb
 refine zah a b w _ (Calls.mono (yn ra na oka) ?_)
 rw [va]
 rintro e w1 ⟨h1,s,rfl,os⟩
 refine ⟨_,rfl,Calls.mono (yn (rb.ahead h1) nb okb) ?_⟩
 try dsimp only
 rw [vb]
 rintro e w2 ⟨h2,t,rfl,ot⟩
 have hn:t.n=(digs B64 y).length:=by rw [ot.rd.n,nn_length]
 have h02:=h1.trans h2
 refine ⟨_,rfl,zm (fun h0=> ?_) (fun h0=> ?_)⟩
 ·have hy:y=0:=by
   have h3:=eq_of_beq h0
   rcases Nat.eq_zero_or_pos y with h|h
   ·exact h
   ·have:=List.length_pos_iff.2 (xv two64 (show y≠0 by omega));omega
  have hc:quoC x y=30:=by rw [quoC,if_pos hy]
  rw [hc]
  exact ⟨h02,_,rfl,OwnNil.nil⟩
 ·have hy:y≠0:=fun h=>by rw [hn,h,yq] at h0;simp at h0
  have hc:quoC x y=bigC (x/y):=by rw [quoC,if_neg hy]
  rw [hc]
  refine Calls.mono (Fh (os.ahead h2) h02.size ot.rd dx dy hy) ?_
  rintro e w3 ⟨h3,q,r,rfl,oq,or⟩
  have hle:(digs B64 (x/y)).length≤2^44:=Nat.le_trans (zw (m:=2^44) (Nat.le_trans (yw (Nat.div_le_self _ _)) (by omega))) (Nat.le_refl _)
  refine ⟨_,_,rfl,Calls.mono (xe ⟨_,oq.rd,hle,yb two64 _,zu two64 _⟩) ?_⟩
  rintro e w4 ⟨rfl,rfl⟩
  refine ⟨_,rfl,zm (fun hg=> ?_) (fun hg=> ?_)⟩
  ·have hc:bigC (x/y)=3:=by have:=of_decide_eq_true hg;rw [bigC,if_neg (by omega)]
   rw [hc]
   exact ⟨h02.trans h3,_,rfl,OwnNil.nil⟩
  ·have hc:bigC (x/y)=0:=by have:=of_decide_eq_false hg;rw [bigC,if_pos (by omega)]
   rw [hc]
   exact ⟨h02.trans h3,_,rfl,by rw [if_pos rfl];exact oq.mono h02.size⟩
end Dq
end
end Go.Proofs.YtbeiopoejdkheaaGreatDoor
