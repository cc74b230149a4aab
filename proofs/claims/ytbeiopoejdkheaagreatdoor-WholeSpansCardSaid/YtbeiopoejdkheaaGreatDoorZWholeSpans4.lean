/- What the law leans on, part 4. No condition. -/
import Derived.Test.YtbeiopoejdkheaaGreatDoorZWholeSpans3
set_option linter.unusedVariables false
set_option linter.unusedSimpArgs false
set_option maxRecDepth 100000
set_option maxHeartbeats 4000000
namespace Go.Proofs.YtbeiopoejdkheaaGreatDoor
section
open Go Go.RowKit Eng
open _root_.Go.IntKind (wrap)
theorem Mj (aa:Slc) (w:World) (R:Ending→World→Prop) (h:Calls pr 96 #[aa.v,vi 2] w fun e1 w1=>∃s1:Slc,∃s2:Slc,∃x1:Int,e1= .returned (.tuple #[s1.v,s2.v,vi x1])∧(R (.returned (.tuple #[s1.v,s2.v,vi x1])) w1)):Calls pr 51 #[aa.v] w R:=by
 refine zk (fun _=>none) (by kernel_rfl) Tryz.func51 rfl ?_ ?_
 ·refine kcast h ?_;kernel_rfl
 ·exact (za rfl (ze (za rfl (ze (zg trivial)))))
theorem Mi (ab:Slc) (aa:Int) (w:World) (R:Ending→World→Prop) (h:br (decide (aa<1)) (R (.returned (.tuple #[nSl.v,nSl.v,vi 40])) w) (Calls pr 123 #[ab.v] w fun e1 w1=>∃s1:Slc,∃x1:Int,e1= .returned (.tuple #[s1.v,vi x1])∧(br (x1 !=0) (R (.returned (.tuple #[nSl.v,nSl.v,vi x1])) w1) (br (aa==1) (R (.returned (.tuple #[s1.v,nSl.v,vi 0])) w1) (kI 46 #[s1.v] w1 fun w2 x2=>(br (x2==0) (R (.returned (.tuple #[s1.v,nSl.v,vi 0])) w2) (kS 124 #[s1.v,vi aa] w2 fun w3 s2=>(Calls pr 125 #[s2.v,vi aa] w3 fun e4 w4=>∃s3:Slc,∃x3:Int,e4= .returned (.tuple #[s3.v,vi x3])∧(kS 126 #[s1.v,s3.v] w4 fun w5 s4=>(R (.returned (.tuple #[s2.v,s4.v,vi 0])) w5)))))))))):Calls pr 96 #[ab.v,vi aa] w R:=by
 refine zk (fun _=>none) (by kernel_rfl) Tryz.func96 rfl ?_ ?_
 ·refine kcast h ?_;kernel_rfl
 ·exact (za rfl (ze (za rfl (za rfl (ze (zh (za rfl (ze (zg (zi (za rfl (ze (za rfl (za rfl (ze (zh (za rfl (ze (zg (zi (za rfl (za rfl (ze (zh (za rfl (ze (zg (zi (za rfl (ze (za rfl (ze (za rfl (ze (zg trivial)))))))))))))))))))))))))))))))))))
theorem Mk (aa:Slc) (w:World) (R:Ending→World→Prop) (h:kI 46 #[aa.v] w fun w1 x1=>(br (decide (x1>67108864)) (R (.returned (.tuple #[nSl.v,vi 3])) w1) (kS 85 #[aa.v] w1 fun w2 s1=>(R (.returned (.tuple #[s1.v,vi 0])) w2)))):Calls pr 123 #[aa.v] w R:=by
 refine zk (fun _=>none) (by kernel_rfl) Tryz.func123 rfl ?_ ?_
 ·refine kcast h ?_;kernel_rfl
 ·exact (za rfl (ze (za rfl (za rfl (ze (zh (za rfl (ze (zg (zi (za rfl (ze (zg trivial)))))))))))))
def Xa (J0:Slc→Int→Slc→World→Prop) (m0:Slc→Int→Slc→World→Nat):Nat→Option ((Act→World→Prop)×(Act→World→Nat))
 |0=>some (fun a_ w_=>atSz a_ 72 (atS a_ 0 fun t0=>atI .i64 a_ 1 fun t1=>atS a_ 6 fun t6=>J0 t0 t1 t6 w_),fun a_ w_=>mS a_ 0 fun t0=>mI a_ 1 fun t1=>mS a_ 6 fun t6=>m0 t0 t1 t6 w_)
 |_=>none
theorem Uv (a0:Slc) (a1:Int) (w:World) (R:Ending→World→Prop) (J0:Slc→Int→Slc→World→Prop) (m0:Slc→Int→Slc→World→Nat) (h:kI 46 #[a0.v] w fun w1 x1=>(br (decide (a1≥x1)) (kS 84 #[.int .u64 1] w1 fun w2 s1=>(R (.returned s1.v) w2)) (semI pr .i64 (binOp .quo 3 (vi (wrap .i64 ((wrap .i64 (x1+a1)) -1))) (vi a1)) w1 fun x2 w3=>kS 155 #[vi x2] w3 fun w4 s2=>(J0 a0 a1 s2 w4)))) (h0:∀t0 t1 t6 w_,J0 t0 t1 t6 w_→Calls pr 125 #[t6.v,vi (wrap .i64 (t1 -1))] w_ fun e4 w5=>∃s3:Slc,∃x3:Int,e4= .returned (.tuple #[s3.v,vi x3])∧(Calls pr 86 #[t0.v,s3.v] w5 fun e5 w6=>∃s4:Slc,∃x4:Int,e5= .returned (.tuple #[s4.v,vi x4])∧(Calls pr 156 #[t6.v,.int .u64 (wrap .u64 (wrap .i64 (t1 -1)))] w6 fun e6 w7=>∃s5:Slc,∃x5:Int,e6= .returned (.tuple #[s5.v,vi x5])∧(Calls pr 94 #[s5.v,s4.v] w7 fun e7 w8=>∃s6:Slc,∃x6:Int,e7= .returned (.tuple #[s6.v,vi x6])∧(Calls pr 157 #[s6.v,.int .u64 (wrap .u64 t1)] w8 fun e8 w9=>∃s7:Slc,∃x7:Int,∃x8:Int,e8= .returned (.tuple #[s7.v,.int .u64 x7,vi x8])∧(kI 81 #[s7.v,t6.v] w9 fun w10 x9=>(br (decide (x9≥0)) (R (.returned t6.v) w10) (J0 t0 t1 s7 w10∧m0 t0 t1 s7 w10<m0 t0 t1 t6 w_)))))))):Calls pr 124 #[a0.v,vi a1] w R:=by
 refine zk (Xa J0 m0) (by kernel_rfl) Tryz.func124 rfl ?_ ?_
 ·refine kcast h ?_;kernel_rfl
 ·exact (za rfl (ze (za rfl (ze (za rfl (za rfl (ze (zh (za rfl (ze (zg (zi (za rfl (ze (yg _ rfl (fun a_ w_ aa=>(by
  obtain ⟨ab,ac,aa⟩:=ya aa
  obtain ⟨t0,ad,aa⟩:=zr aa
  obtain ⟨t1,ae,aa⟩:=zq aa
  obtain ⟨t6,af,aa⟩:=zr aa
  obtain ⟨g0,rfl⟩:∃g,a_=Fr 72 [(0,t0.v),(1,vi t1),(6,t6.v)] g:=⟨_,yp ab ac _ (zf ad (zf ae (zf af yc)))⟩
  clear ab ac ad ae af
  have ag:=aa
  refine ⟨(fun _=>none),kcast (h0 t0 t1 t6 w_ ag) ?_, ?_⟩
  ·kernel_rfl
  ·exact (yh rfl (za rfl (ze (za rfl (ze (za rfl (ze (za rfl (ze (za rfl (ze (za rfl (za rfl (ze (zh (za rfl (ze (zg (zi (ze trivial)))))))))))))))))))))) trivial)))))))))))))))
theorem Mn (aa:Slc) (ab:Slc) (w:World) (R:Ending→World→Prop) (h:Calls pr 158 #[aa.v,ab.v] w fun e1 w1=>∃s1:Slc,∃x1:Int,e1= .returned (.tuple #[s1.v,vi x1])∧(R (.returned s1.v) w1)):Calls pr 126 #[aa.v,ab.v] w R:=by
 refine zk (fun _=>none) (by kernel_rfl) Tryz.func126 rfl ?_ ?_
 ·refine kcast h ?_;kernel_rfl
 ·exact (za rfl (ze (za rfl (ze (za rfl (ze (zg trivial)))))))
theorem Qc (aa:Int) (w:World) (R:Ending→World→Prop) (h:kS 84 #[.int .u64 1] w fun w1 s1=>(Calls pr 159 #[s1.v,vi aa] w1 fun e2 w2=>∃s2:Slc,∃x1:Int,e2= .returned (.tuple #[s2.v,vi x1])∧(R (.returned s2.v) w2))):Calls pr 155 #[vi aa] w R:=by
 refine zk (fun _=>none) (by kernel_rfl) Tryz.func155 rfl ?_ ?_
 ·refine kcast h ?_;kernel_rfl
 ·exact (za rfl (ze (za rfl (ze (za rfl (ze (zg trivial)))))))
end
section
open Go Go.RowKit Eng Sp Dg Kd
namespace Rt
open _root_.Go.Proofs.YtbeiopoejdkheaaGreatDoor.Nat (Num Num.ahead Num.bl OwnNil OwnNil.nil OwnNil.rd OwnNil.mono OwnNil.ahead Ret Ret.num bigC xc zw yn xk pq ka subC uf xe jp leftC xf Zk ga thC RetQ)
open _root_.Go.Proofs.YtbeiopoejdkheaaGreatDoor.Mul (ff)
open _root_.Go.Proofs.YtbeiopoejdkheaaGreatDoor.Dq (jm quoC)
def isR (a r:Nat):Prop:=r*r≤a∧a<(r+1)*(r+1)
theorem Uj {a r s:Nat} (h:isR a r) (h':isR a s):r=s:=by
 have h1:r<s+1:=Nat.lt_of_not_le fun hle=>by
  have:=Nat.mul_le_mul hle hle
  have:=h.1;have:=h'.2;omega
 have h2:s<r+1:=Nat.lt_of_not_le fun hle=>by
  have:=Nat.mul_le_mul hle hle
  have:=h'.1;have:=h.2;omega
 omega
theorem F0 {a x:Nat} (hx:0<x):a<((x+a/x)/2+1)*((x+a/x)/2+1):=by
 have h1:a<x*(a/x+1):=by
  have:=Nat.div_add_mod a x
  have:=Nat.mod_lt a hx
  rw [Nat.mul_add];omega
 generalize a/x=q at*
 have h2:x+q+1≤2*((x+q)/2+1):=by omega
 generalize (x+q)/2+1=z at*
 have h3:4*(x*(q+1))≤(x+q+1)*(x+q+1):=by
  rcases Nat.le_total x (q+1) with h|h
  ·obtain ⟨d,hd⟩:=Nat.exists_eq_add_of_le h
   rw [show x+q+1=x+(q+1) by omega,hd]
   have e1:(x+(x+d))*(x+(x+d))=4*(x*(x+d))+d*d:=by
    simp only [Nat.mul_add,Nat.add_mul,Nat.mul_comm d x];omega
   omega
  ·obtain ⟨d,hd⟩:=Nat.exists_eq_add_of_le h
   rw [show x+q+1=x+(q+1) by omega,hd]
   generalize q+1=y
   have e1:(y+d+y)*(y+d+y)=4*((y+d)*y)+d*d:=by
    simp only [Nat.mul_add,Nat.add_mul,Nat.mul_comm d y];omega
   omega
 have h4:(x+q+1)*(x+q+1)≤(2*z)*(2*z):=Nat.mul_le_mul h2 h2
 have h5:(2*z)*(2*z)=4*(z*z):=by
  rw [Nat.mul_mul_mul_comm]
 omega
theorem F1 {a x:Nat} (hx:0<x) (h:a<(x+1)*(x+1)) (hs:x≤(x+a/x)/2):isR a x:=by
 refine ⟨?_,h⟩
 have h1:x≤a/x:=by omega
 exact (Nat.le_div_iff_mul_le hx).1 h1
noncomputable def nv (w:World) (s:Slc):Nat:=by
  classical
  exact if h:∃m,Num w s m then Classical.choose h else 0
theorem Zd {k:IntKind} {w:World} {s:Slc} {l m:List Int} (h1:Rd k w s l) (h2:Rd k w s m):l=m:=by
  have hl:l.length=m.length:=by rw [←h1.n,h2.n]
  refine List.ext_getElem hl fun i q1 q2=> ?_
  obtain ⟨a,e1,c1⟩:=h1.get i q1
  obtain ⟨b,e2,c2⟩:=h2.get i q2
  rw [e1] at e2
  obtain rfl:=Option.some.inj e2
  rw [c1] at c2
  injection c2 with c2
  injection c2 with _ c2
  rw [xx _ _ q1,xx _ _ q2] at c2
  exact c2
theorem zdz {w s} {m:Nat} (h:Num w s m):nv w s=m:=by
 have hx:∃m,Num w s m:=⟨m,h⟩
 unfold nv
 rw [dif_pos hx]
 obtain ⟨l,q1,_,_,q2⟩:=h
 obtain ⟨l',r1,_,_,r2⟩:=Classical.choose_spec hx
 rw [←r2,←q2,zb8 (Zd r1 q1)]
theorem semQuoI {x y:Nat} {t:TypeId} {w:World} {K:Int→World→Prop} (hy:0<y) (hx:x≤9223372036854775807) (h:K ((x/y:Nat):Int) w):semI pr .i64 (binOp .quo t (.int .i64 (x:Int)) (.int .i64 (y:Int))) w K:=by
 have hle:x/y≤x:=Nat.div_le_self _ _
 have hq:((x:Int)/(y:Int))=((x/y:Nat):Int):=by norm_cast
 have e:binOp .quo t (.int .i64 (x:Int)) (.int .i64 (y:Int))=pure (.int .i64 ((x/y:Nat):Int)):=by
  unfold binOp
  simp only [Op.intDiv]
  rw [if_neg (by simp),if_neg (by omega),Int.tdiv_eq_ediv_of_nonneg (by omega),hq]
  generalize x/y=q at*
  rw [zp (by omega) (by omega)]
 unfold semI
 rw [e,Sem.wp_iff_run]
 exact ⟨_,rfl,h⟩
theorem qx {a b k:Nat} (ha:bl a≤k) (hb:bl b≤k):bl (a+b)≤k+1:=by
 refine vw ?_
 have h1:=qc.1 ha
 have h2:=qc.1 hb
 rw [Nat.pow_succ];omega
theorem qn:bl 1=1:=V6 (k:=0) (by omega) (by omega)
theorem zcr {x:Nat} (h:2≤x):2≤bl x:=by
 have:=uv x
 rcases Nat.lt_or_ge (bl x) 2 with h1|h1
 ·have h2:2^bl x≤2^1:=Nat.pow_le_pow_right (by omega) (by omega)
  omega
 ·exact h1
theorem px {w a} {n:Nat} (ha:Num w a 1) (h0:1≤n) (hn:n≤67108864):Calls pr mul_Pow_id #[a.v, .int .i64 (n:Int)] w (Ret w 0 1):=by
 refine fr a _ w _ (fun _ _ _ _ _=>False) (fun _ _ _ _ _=>0) (zt (decide_eq_false (by omega)) ?_) (fun _ _ _ _ _ h=>h.elim)
 obtain ⟨l,rl,ll,ol,vl⟩:=ha
 refine Calls.mono (yn rl ll ol) ?_
 rw [vl]
 rintro e w1 ⟨h1,s,rfl,os⟩
 refine ⟨_,rfl,zt (beq_eq_false_iff_ne.2 (by omega)) (Calls.mono (xe (xf os (by rw [qn];omega))) ?_)⟩
 rintro e w2 ⟨rfl,rfl⟩
 rw [qn]
 exact ⟨_,rfl,yz rfl ⟨h1,s,rfl,by rw [if_pos rfl];exact os⟩⟩
theorem zez {w a} {x n:Nat} (ha:Num w a x) (hx:1≤x) (h0:1≤n) (hn:n≤67108864) (hb:bl x*n≤67108864):Calls pr mul_Pow_id #[a.v, .int .i64 (n:Int)] w (Ret w 0 (x^n)):=by
 rcases Nat.lt_or_ge x 2 with h|h
 ·have:x=1:=by omega
  subst this
  rw [Nat.one_pow]
  exact px ha h0 hn
 ·exact ff ha (zcr h) h0 hb
theorem Fz {w a} {x:Nat} (ha:Num w a x) (hx:0<x) (hb:bl x≤33554432):Calls pr roots_newton_id #[a.v, .int .i64 2] w fun e w'=>Ahead w w'∧∃s r,e= .returned (Slc.v s)∧OwnNil w.heap.size w' s (digs B64 r)∧isR x r:=by
 have hB:=B64v
 have hbp:=vf (show x≠0 by omega)
 refine Uv a 2 w _ (fun t0 t1 t6 w'=>t0=a∧t1=2∧4≤x∧Ahead w w'∧∃z,2≤z∧bl z≤16777220∧x<(z+1)*(z+1)∧OwnNil w.heap.size w' t6 (digs B64 z)) (fun _ _ t6 w'=>nv w' t6) ?_ ?_
 ·refine Calls.mono (xe ha) ?_
  rintro e w1 ⟨rfl,rfl⟩
  refine ⟨_,rfl,zm (fun h=> ?_) (fun h=> ?_)⟩
  ·have h':=of_decide_eq_true h
   have hx4:x<2^2:=Nat.lt_of_lt_of_le (uv x) (Nat.pow_le_pow_right (by omega) (by omega))
   refine Calls.mono (xk (v:=1) (by omega)) ?_
   rintro e w2 ⟨h2,s,rfl,os⟩
   exact ⟨_,rfl,h2,_,1,rfl,os,by omega,by omega⟩
  ·have h':=of_decide_eq_false h
   rw [zp (x:=(bl x:Int)+2) (by omega) (by omega),zp (x:=(bl x:Int)+2 -1) (by omega) (by omega),show (bl x:Int)+2 -1=((bl x+1:Nat):Int) by omega,show (2:Int)=((2:Nat):Int) from rfl]
   refine semQuoI (by omega) (by omega) ?_
   refine Qc _ w1 _ (Calls.mono (xk (v:=1) (by omega)) ?_)
   rintro e w2 ⟨h2,s,rfl,os⟩
   refine ⟨_,rfl, ?_⟩
   have hl:=jp (n:=(((bl x+1)/2:Nat):Int)) (xf os (by rw [qn];omega)) (by omega) (by omega)
   have hb2:bl (1*2^((bl x+1)/2))=(bl x+1)/2+1:=by
    rw [Nat.one_mul];exact V6 (Nat.le_refl _) (Nat.pow_lt_pow_right (by omega) (by omega))
   have hc:leftC 1 (((bl x+1)/2:Nat):Int)=0:=by
    unfold leftC
    rw [if_neg (by omega),if_neg (by rw [qn];omega)]
   rw [hc,Int.toNat_natCast] at hl
   refine Calls.mono hl ?_
   intro e w3 hr
   obtain ⟨h3,u,rfl,ou,nu⟩:=hr.num rfl (by omega)
   have hx4:4≤x:=by
    have g1:=(tc (show x≠0 by omega)).1
    have g2:2^2≤2^(bl x -1):=Nat.pow_le_pow_right (by omega) (by omega)
    omega
   refine ⟨_,_,rfl,_,rfl,rfl,rfl,hx4,h2.trans h3,_, ?_,by omega, ?_,ou.mono h2.size⟩
   ·rw [Nat.one_mul]
    have:2^1≤2^((bl x+1)/2):=Nat.pow_le_pow_right (by omega) (by omega)
    omega
   ·rw [Nat.one_mul]
    have h4:=uv x
    have h5:2^bl x≤2^((bl x+1)/2+(bl x+1)/2):=Nat.pow_le_pow_right (by omega) (by omega)
    rw [Nat.pow_add] at h5
    generalize 2^((bl x+1)/2)=P at*
    have h6:P*P≤(P+1)*(P+1):=Nat.mul_le_mul (by omega) (by omega)
    omega
 ·rintro t0 t1 t6 w1 ⟨rfl,rfl,hx4,h1,z,hz2,hzb,hz,oz⟩
  have nz:Num w1 t6 z:=xf oz (by omega)
  have na:=ha.ahead h1
  rw [zp (x:=(2:Int) -1) (by omega) (by omega),show (2:Int) -1=((1:Nat):Int) from rfl]
  refine Calls.mono (ff nz (zcr hz2) (n:=1) (by omega) (by omega)) ?_
  rw [Nat.pow_one]
  intro e w5 hr5
  obtain ⟨h5,p,rfl,op,np⟩:=hr5.num rfl (by omega)
  have bq:bl (x/z)≤33554432:=Nat.le_trans (yw (Nat.div_le_self _ _)) hb
  have hqc:quoC x z=0:=by rw [quoC,if_neg (by omega),xc (by omega)]
  refine ⟨_,_,rfl,Calls.mono (jm (na.ahead h5) np) ?_⟩
  intro e w6 hr6
  obtain ⟨h6,q,rfl,oq,nq⟩:=hr6.num hqc (by omega)
  have h56:=h5.trans h6
  rw [yd (x:=((1:Nat):Int)) (by omega) (by omega)]
  refine ⟨_,_,rfl,Calls.mono (Zk (m:=1) (nz.ahead h56) (by omega)) ?_⟩
  try dsimp only
  rw [Nat.mul_one]
  intro e w7 hr7
  obtain ⟨h7,r,rfl,or,nr⟩:=hr7.num (xc (by omega)) (by omega)
  have bs:bl (z+x/z)≤33554440:=Nat.le_trans (qx (k:=33554432) (by omega) bq) (by omega)
  refine ⟨_,_,rfl,Calls.mono (pq nr (nq.ahead h7)) ?_⟩
  intro e w8 hr8
  obtain ⟨h8,u,rfl,ou,nu⟩:=hr8.num (xc (by omega)) (by omega)
  have by2:bl ((z+x/z)/2)≤33554440:=Nat.le_trans (yw (Nat.div_le_self _ _)) bs
  have ht:thC (z+x/z) 2=0:=by rw [thC,if_neg (by omega),xc (by omega)]
  rw [show IntKind.u64.wrap (2:Int)=((2:Nat):Int) from yd (by omega) (by omega)]
  refine ⟨_,_,rfl,Calls.mono (ga (d:=2) nu (by omega)) ?_⟩
  try dsimp only
  rw [ht]
  rintro e w9 ⟨h9,v,rfl,ov⟩
  rw [if_pos rfl] at ov
  have h18:=(h56.trans h7).trans h8
  have h19:=h18.trans h9
  have nv9:Num w9 v ((z+x/z)/2):=xf ov (by omega)
  refine ⟨_,_,_,rfl,Calls.mono (uf nv9 (nz.ahead h19)) ?_⟩
  rintro e w10 ⟨h10,rfl⟩
  have h110:=h19.trans h10
  refine ⟨_,rfl,zm (fun hge=> ?_) (fun hlt=> ?_)⟩
  ·have hge':¬(z+x/z)/2<z:=fun h=>by
    have h0:=of_decide_eq_true hge
    have:=ta.2 h
    omega
   exact ⟨h1.trans h110,_,z,rfl,oz.ahead h110,F1 (by omega) hz (by omega)⟩
  ·have hlt':(z+x/z)/2<z:=by
    have h0:=of_decide_eq_false hlt
    rcases Nat.lt_or_ge ((z+x/z)/2) z with h|h
    ·exact h
    ·exfalso
     have:¬cmpI ((z+x/z)/2) z<0:=fun h'=>by have:=ta.1 h';omega
     omega
   have hst:=F0 (a:=x) (x:=z) (by omega)
   have h2:2≤(z+x/z)/2:=by
    refine Nat.le_of_not_lt fun h=> ?_
    have g:((z+x/z)/2+1)*((z+x/z)/2+1)≤2*2:=Nat.mul_le_mul (by omega) (by omega)
    omega
   refine ⟨⟨rfl,rfl,hx4,h1.trans h110,_,h2,Nat.le_trans (yw (Nat.le_of_lt hlt')) hzb,hst,(ov.ahead h10).mono (Nat.le_trans h1.size h18.size)⟩, ?_⟩
   rw [zdz (nv9.ahead h10),zdz nz];exact hlt'
theorem zbk {w a} {x:Nat} (ha:Num w a x) (hb:bl x≤33554432):Calls pr roots_Sqrt_id #[a.v] w fun e w'=>Ahead w w'∧∃s t r,e= .returned (.tuple #[Slc.v s,Slc.v t, .int .i64 0])∧OwnNil w.heap.size w' s (digs B64 r)∧OwnNil w.heap.size w' t (digs B64 (x -r*r))∧isR x r:=by
 have hB:=B64v
 refine Mj a w _ (Mi a 2 w _ (zt rfl (Mk a w _ (Calls.mono (xe ha) ?_))))
 rintro e w1 ⟨rfl,rfl⟩
 refine ⟨_,rfl,zt (decide_eq_false (by omega)) ?_⟩
 obtain ⟨l,rl,ll,ol,vl⟩:=ha
 refine Calls.mono (yn rl ll ol) ?_
 rw [vl]
 rintro e w2 ⟨h2,s,rfl,os⟩
 have ns:Num w2 s x:=xf os (by omega)
 refine ⟨_,rfl,_,_,rfl,zt rfl (zt rfl (Calls.mono (xe ns) ?_))⟩
 rintro e w3 ⟨rfl,rfl⟩
 refine ⟨_,rfl,zm (fun h0=> ?_) (fun h0=> ?_)⟩
 ·have hx:x=0:=by
   have h1:=eq_of_beq h0
   rcases Nat.eq_zero_or_pos x with h|h
   ·exact h
   ·have:=vf (show x≠0 by omega);omega
  subst hx
  exact ⟨_,_,_,rfl,h2,_,_,0,rfl,os,by rw [Nat.zero_sub,yq];exact OwnNil.nil,by omega,by omega⟩
 ·have hx:0<x:=Nat.pos_of_ne_zero fun h=>by rw [h,xm] at h0;simp at h0
  refine Calls.mono (Fz ns hx hb) ?_
  rintro e w4 ⟨h4,u,r,rfl,ou,hr⟩
  have hr1:1≤r:=Nat.pos_of_ne_zero fun h=>by have:=hr.2;rw [h] at this;omega
  have hrr:r≤x:=Nat.le_trans (Nat.le_mul_of_pos_left r hr1) hr.1
  have br2:bl r*2≤67108864:=by have:=yw hrr;omega
  have nr:Num w4 u r:=xf ou (by omega)
  refine ⟨_,rfl,Calls.mono (zez (n:=2) nr hr1 (by omega) (by omega) br2) ?_⟩
  have bsq:bl (r^2)≤67108864:=by rw [Nat.pow_two];exact Nat.le_trans (yw hr.1) (by omega)
  intro e w5 hr5
  obtain ⟨h5,p,rfl,op,np⟩:=hr5.num rfl bsq
  rw [Nat.pow_two] at np
  have h45:=h4.trans h5
  have hsc:subC x (r*r)=0:=by rw [subC,if_neg (by have:=hr.1;omega),xc (Nat.le_trans (yw (Nat.sub_le _ _)) (by omega))]
  refine ⟨_,_,rfl,Mn _ _ w5 _ (Calls.mono (ka (ns.ahead h45) np) ?_)⟩
  rw [hsc]
  rintro e w6 ⟨h6,t,rfl,ot⟩
  rw [if_pos rfl] at ot
  have h26:=(h2.trans h45).trans h6
  exact ⟨_,_,rfl,_,rfl,_,_,_,rfl,h26,_,_,r,rfl,((ou.ahead h5).ahead h6).mono h2.size,ot.mono (h2.trans h45).size,hr⟩
end Rt
end
section
open Go Go.RowKit Eng
open _root_.Go.IntKind (wrap)
theorem ce (aa:Bool) (ab:Slc) (ac:Slc) (w:World) (R:Ending→World→Prop) (h:newC w (zR aa ab ac) 34 fun ad1 w1=>ldS (ad1.add 1) w1 fun s1=>kB 40 #[s1.v] w1 fun w2 b1=>(br b1 (R (.returned (vi 0)) w2) (ldB ad1 w2 fun b2=>br b2 (R (.returned (vi (-1))) w2) (R (.returned (vi 1)) w2)))):Calls pr 10 #[uR aa ab ac] w R:=by
 refine zk (fun _=>none) (by kernel_rfl) Tryz.func10 rfl ?_ ?_
 ·refine kcast h ?_;kernel_rfl
 ·exact (za rfl (ze (za rfl (za rfl (ze (zh (za rfl (ze (zg (zi (za rfl (za rfl (ze (zh (za rfl (ze (zg (zi (za rfl (ze (zg trivial)))))))))))))))))))))
theorem Vk (aa:Bool) (ab:Slc) (ac:Slc) (ad:Bool) (ae:Slc) (af:Slc) (w:World) (R:Ending→World→Prop) (h:newC w (zR aa ab ac) 34 fun ad1 w1=>newC w1 (zR ad ae af) 34 fun ad2 w2=>newC w2 (zR false nSl nSl) 34 fun ad3 w3=>ldB ad1 w3.drew fun b1=>ldB ad2 w3.drew fun b2=>ldS (ad1.add 1) w3.drew fun s1=>ldS (ad2.add 2) w3.drew fun s2=>ldS (ad1.add 2) w3.drew fun s3=>ldS (ad2.add 1) w3.drew fun s4=>kS 45 #[s1.v,s2.v] w3.drew fun w4 s5=>(Ahead w3.drew w4∧(kS 45 #[s3.v,s4.v] w4 fun w5 s6=>(Ahead w4 w5∧(Calls pr 44 (zR (!(b1==b2)) s5 s6) w5 fun e3 w6=>jR e3 fun b3 s7 s8=>(Ahead w5 w6∧(xR ad3 b3 s7 s8 w6 fun w9=>ldr ad3 w9 fun b4 s9 s10=>R (.returned (uR b4 s9 s10)) w9))))))):Calls pr 12 #[uR aa ab ac,uR ad ae af] w R:=by
 refine zk (fun _=>none) (by kernel_rfl) Tryz.func12 rfl ?_ ?_
 ·refine kcast h ?_;kernel_rfl
 ·exact (za rfl (ze (za rfl (yy (by kernel_rfl) (by kernel_rfl) (by kernel_rfl) (zg trivial)))))
theorem Zj (ab:Bool) (ac:Slc) (ad:Slc) (aa:Int) (w:World) (R:Ending→World→Prop) (h:newC w (zR ab ac ad) 34 fun ad1 w1=>newC w1 (zR false nSl nSl) 34 fun ad2 w2=>ldS (ad1.add 1) w2 fun s1=>kB 40 #[s1.v] w2 fun w3 b1=>(br b1 (ldr ad1 w3 fun b2 s2 s3=>xR ad2 b2 s2 s3 w3 fun w6=>ldr ad2 w6 fun b3 s4 s5=>R (.returned (uR b3 s4 s5)) w6) (br (decide (aa≥0)) (ldS (ad1.add 2) w3 fun s6=>kI 53 #[s6.v] w3 fun w7 x1=>(br (decide (x1>aa)) (ldr ad1 w7.drew fun b4 s7 s8=>kS 54 #[s7.v,vi (wrap .i64 (aa -aa))] w7.drew fun w8 s9=>(Ahead w7.drew w8∧(kS 55 #[s8.v,vi aa] w8 fun w9 s10=>(Ahead w8 w9∧(xR ad2 b4 s9 s10 w9 fun w12=>ldr ad2 w12 fun b5 s11 s12=>R (.returned (uR b5 s11 s12)) w12))))) (ldr ad1 w7.drew fun b6 s13 s14=>kS 54 #[s13.v,vi (wrap .i64 (aa -x1))] w7.drew fun w13 s15=>(Ahead w7.drew w13∧(kS 55 #[s14.v,vi x1] w13 fun w14 s16=>(Ahead w13 w14∧(xR ad2 b6 s15 s16 w14 fun w17=>ldr ad2 w17 fun b7 s17 s18=>R (.returned (uR b7 s17 s18)) w17))))))) (ldS (ad1.add 1) w3 fun s19=>kI 53 #[s19.v] w3 fun w18 x2=>(br (decide (x2>(wrap .i64 (0 -aa)))) (ldr ad1 w18.drew fun b8 s20 s21=>kS 55 #[s20.v,vi (wrap .i64 (0 -aa))] w18.drew fun w19 s22=>(Ahead w18.drew w19∧(kS 54 #[s21.v,vi (wrap .i64 ((wrap .i64 (0 -aa)) -(wrap .i64 (0 -aa))))] w19 fun w20 s23=>(Ahead w19 w20∧(xR ad2 b8 s22 s23 w20 fun w23=>ldr ad2 w23 fun b9 s24 s25=>R (.returned (uR b9 s24 s25)) w23))))) (ldr ad1 w18.drew fun b10 s26 s27=>kS 55 #[s26.v,vi x2] w18.drew fun w24 s28=>(Ahead w18.drew w24∧(kS 54 #[s27.v,vi (wrap .i64 ((wrap .i64 (0 -aa)) -x2))] w24 fun w25 s29=>(Ahead w24 w25∧(xR ad2 b10 s28 s29 w25 fun w28=>ldr ad2 w28 fun b11 s30 s31=>R (.returned (uR b11 s30 s31)) w28)))))))))):Calls pr 15 #[uR ab ac ad,vi aa] w R:=by
 refine zk (fun _=>none) (by kernel_rfl) Tryz.func15 rfl ?_ ?_
 ·refine kcast h ?_;kernel_rfl
 ·exact (za rfl (ze (za rfl (za rfl (ze (zh (za rfl (ze (zg (zi (za rfl (za rfl (ze (zh (za rfl (ze (za rfl (za rfl (ze (zh (ze (zi (za rfl (yy (by kernel_rfl) (by kernel_rfl) (by kernel_rfl) (zg (zi (za rfl (ze (za rfl (za rfl (ze (zh (ze (zi (za rfl (yy (by kernel_rfl) (by kernel_rfl) (by kernel_rfl) (zg trivial)))))))))))))))))))))))))))))))))))))
theorem Ve (aa:Int) (w:World) (R:Ending→World→Prop) (h:newC w (zR false nSl nSl) 34 fun ad1 w1=>br (decide (aa<0)) (newC w1 #[.int .u64 (wrap .u64 (0 -(wrap .u64 aa)))] 65 fun ad2 w2=>kS 33 #[(⟨some ad2,1,1⟩:Slc).v] w2 fun w3 s1=>(kS 56 #[vi 1] w3 fun w4 s2=>(xR ad1 true s1 s2 w4 fun w7=>ldr ad1 w7 fun b1 s3 s4=>R (.returned (uR b1 s3 s4)) w7))) (kS 56 #[vi aa] w1 fun w8 s5=>(kS 56 #[vi 1] w8 fun w9 s6=>(xR ad1 false s5 s6 w9 fun w12=>ldr ad1 w12 fun b2 s7 s8=>R (.returned (uR b2 s7 s8)) w12)))):Calls pr 16 #[vi aa] w R:=by
 refine zk (fun _=>none) (by kernel_rfl) Tryz.func16 rfl ?_ ?_
 ·refine kcast h ?_;kernel_rfl
 ·exact (za rfl (ze (za rfl (za rfl (ze (zh (za rfl (ze (zg (zi (za rfl (ze (zg trivial)))))))))))))
theorem X5 (aa:Bool) (ab:Slc) (ac:Slc) (w:World) (R:Ending→World→Prop) (h:newC w (zR aa ab ac) 34 fun ad1 w1=>newC w1 (zR false nSl nSl) 34 fun ad2 w2=>stC ad1 (.bool false) w2 fun w3=>ldr ad1 w3 fun b1 s1 s2=>xR ad2 b1 s1 s2 w3 fun w6=>ldr ad2 w6 fun b2 s3 s4=>R (.returned (uR b2 s3 s4)) w6):Calls pr 17 #[uR aa ab ac] w R:=by
 refine zk (fun _=>none) (by kernel_rfl) Tryz.func17 rfl ?_ ?_
 ·refine kcast h ?_;kernel_rfl
 ·exact (za rfl (ze (za rfl (ze (za rfl (ze (zg trivial)))))))
theorem Vc (aa:Bool) (ab:Slc) (ac:Slc) (ad:Bool) (ae:Slc) (af:Slc) (w:World) (R:Ending→World→Prop) (h:newC w (zR aa ab ac) 34 fun ad1 w1=>newC w1 (zR ad ae af) 34 fun ad2 w2=>ldr ad1 w2.drew fun b1 s1 s2=>ldr ad2 w2.drew fun b2 s3 s4=>kI 10 #[uR b1 s1 s2] w2.drew fun w3 x1=>(Ahead w2.drew w3∧(kI 10 #[uR b2 s3 s4] w3 fun w4 x2=>(Ahead w3 w4∧(br (x1 !=x2) (ldr ad1 w4.drew fun b3 s5 s6=>ldr ad2 w4.drew fun b4 s7 s8=>kI 10 #[uR b3 s5 s6] w4.drew fun w5 x3=>(Ahead w4.drew w5∧(kI 10 #[uR b4 s7 s8] w5 fun w6 x4=>(Ahead w5 w6∧(br (decide (x3<x4)) (R (.returned (vi (-1))) w6) (R (.returned (vi 1)) w6)))))) (ldr ad1 w4.drew fun b5 s9 s10=>ldS (ad1.add 1) w4.drew fun s11=>ldS (ad2.add 2) w4.drew fun s12=>ldS (ad2.add 1) w4.drew fun s13=>ldS (ad1.add 2) w4.drew fun s14=>kI 10 #[uR b5 s9 s10] w4.drew fun w7 x5=>(Ahead w4.drew w7∧(kS 45 #[s11.v,s12.v] w7 fun w8 s15=>(Ahead w7 w8∧(kS 45 #[s13.v,s14.v] w8 fun w9 s16=>(Ahead w8 w9∧(kI 57 #[s15.v,s16.v] w9 fun w10 x6=>(Ahead w9 w10∧(R (.returned (vi (wrap .i64 (x5*x6)))) w10)))))))))))))):Calls pr 18 #[uR aa ab ac,uR ad ae af] w R:=by
 refine zk (fun _=>none) (by kernel_rfl) Tryz.func18 rfl ?_ ?_
 ·refine kcast h ?_;kernel_rfl
 ·exact (za rfl (ze (za rfl (za rfl (yy (by kernel_rfl) (by kernel_rfl) (by kernel_rfl) (zh (za rfl (za rfl (yy (by kernel_rfl) (by kernel_rfl) (by kernel_rfl) (zh (za rfl (ze (zg (zi (za rfl (ze (zg (zi (za rfl (yy (by kernel_rfl) (by kernel_rfl) (by kernel_rfl) (zg trivial)))))))))))))))))))))
theorem Vg (aa:Bool) (ab:Slc) (ac:Slc) (ad:Bool) (ae:Slc) (af:Slc) (w:World) (R:Ending→World→Prop) (h:newC w (zR aa ab ac) 34 fun ad1 w1=>newC w1 (zR ad ae af) 34 fun ad2 w2=>newC w2 (zR false nSl nSl) 34 fun ad3 w3=>ldB ad1 w3.drew fun b1=>ldB ad2 w3.drew fun b2=>ldS (ad1.add 1) w3.drew fun s1=>ldS (ad2.add 1) w3.drew fun s2=>ldS (ad1.add 2) w3.drew fun s3=>ldS (ad2.add 2) w3.drew fun s4=>kS 45 #[s1.v,s2.v] w3.drew fun w4 s5=>(Ahead w3.drew w4∧(kS 45 #[s3.v,s4.v] w4 fun w5 s6=>(Ahead w4 w5∧(Calls pr 44 (zR (!(b1==b2)) s5 s6) w5 fun e3 w6=>jR e3 fun b3 s7 s8=>(Ahead w5 w6∧(xR ad3 b3 s7 s8 w6 fun w9=>ldr ad3 w9 fun b4 s9 s10=>R (.returned (uR b4 s9 s10)) w9))))))):Calls pr 19 #[uR aa ab ac,uR ad ae af] w R:=by
 refine zk (fun _=>none) (by kernel_rfl) Tryz.func19 rfl ?_ ?_
 ·refine kcast h ?_;kernel_rfl
 ·exact (za rfl (ze (za rfl (yy (by kernel_rfl) (by kernel_rfl) (by kernel_rfl) (zg trivial)))))
theorem Vn (aa:Bool) (ab:Slc) (ac:Slc) (ad:Bool) (ae:Slc) (af:Slc) (w:World) (R:Ending→World→Prop) (h:newC w (zR aa ab ac) 34 fun ad1 w1=>newC w1 (zR ad ae af) 34 fun ad2 w2=>newC w2 (zR false nSl nSl) 34 fun ad3 w3=>ldr ad1 w3.drew fun b1 s1 s2=>ldr ad2 w3.drew fun b2 s3 s4=>kR 58 #[uR b2 s3 s4] w3.drew fun w4 b3 s5 s6=>(Ahead w3.drew w4∧(kR 28 #[uR b1 s1 s2,uR b3 s5 s6] w4 fun w5 b4 s7 s8=>(Ahead w4 w5∧(xR ad3 b4 s7 s8 w5 fun w8=>ldr ad3 w8 fun b5 s9 s10=>R (.returned (uR b5 s9 s10)) w8))))):Calls pr 20 #[uR aa ab ac,uR ad ae af] w R:=by
 refine zk (fun _=>none) (by kernel_rfl) Tryz.func20 rfl ?_ ?_
 ·refine kcast h ?_;kernel_rfl
 ·exact (za rfl (ze (za rfl (yy (by kernel_rfl) (by kernel_rfl) (by kernel_rfl) (zg trivial)))))
theorem Va (aa:Bool) (ab:Slc) (ac:Slc) (ad:Bool) (ae:Slc) (af:Slc) (w:World) (R:Ending→World→Prop) (h:newC w (zR aa ab ac) 34 fun ad1 w1=>newC w1 (zR ad ae af) 34 fun ad2 w2=>newC w2 (zR false nSl nSl) 34 fun ad3 w3=>ldS (ad1.add 1) w3.drew fun s1=>ldS (ad2.add 2) w3.drew fun s2=>ldS (ad2.add 1) w3.drew fun s3=>ldS (ad1.add 2) w3.drew fun s4=>kS 45 #[s1.v,s2.v] w3.drew fun w4 s5=>(Ahead w3.drew w4∧(kS 45 #[s3.v,s4.v] w4 fun w5 s6=>(Ahead w4 w5∧(ldS (ad1.add 2) w5 fun s7=>ldS (ad2.add 2) w5 fun s8=>kS 45 #[s7.v,s8.v] w5 fun w6 s9=>(ldB ad1 w6 fun b1=>ldB ad2 w6 fun b2=>br (b1==b2) (ldB ad1 w6.drew fun b3=>kS 67 #[s5.v,s6.v] w6.drew fun w7 s10=>(Ahead w6.drew w7∧(Calls pr 44 (zR b3 s10 s9) w7 fun e5 w8=>jR e5 fun b4 s11 s12=>(Ahead w7 w8∧(xR ad3 b4 s11 s12 w8 fun w11=>ldr ad3 w11 fun b5 s13 s14=>R (.returned (uR b5 s13 s14)) w11))))) (kI 57 #[s5.v,s6.v] w6 fun w12 x1=>(br (decide (x1≥0)) (ldB ad1 w12.drew fun b6=>kS 68 #[s5.v,s6.v] w12.drew fun w13 s15=>(Ahead w12.drew w13∧(Calls pr 44 (zR b6 s15 s9) w13 fun e8 w14=>jR e8 fun b7 s16 s17=>(Ahead w13 w14∧(xR ad3 b7 s16 s17 w14 fun w17=>ldr ad3 w17 fun b8 s18 s19=>R (.returned (uR b8 s18 s19)) w17))))) (ldB ad2 w12.drew fun b9=>kS 68 #[s6.v,s5.v] w12.drew fun w18 s20=>(Ahead w12.drew w18∧(Calls pr 44 (zR b9 s20 s9) w18 fun e10 w19=>jR e10 fun b10 s21 s22=>(Ahead w18 w19∧(xR ad3 b10 s21 s22 w19 fun w22=>ldr ad3 w22 fun b11 s23 s24=>R (.returned (uR b11 s23 s24)) w22))))))))))))):Calls pr 28 #[uR aa ab ac,uR ad ae af] w R:=by
 refine zk (fun _=>none) (by kernel_rfl) Tryz.func28 rfl ?_ ?_
 ·refine kcast h ?_;kernel_rfl
 ·exact (za rfl (ze (za rfl (yy (by kernel_rfl) (by kernel_rfl) (by kernel_rfl) (za rfl (ze (za rfl (za rfl (ze (zh (za rfl (yy (by kernel_rfl) (by kernel_rfl) (by kernel_rfl) (zg (zi (za rfl (za rfl (ze (zh (za rfl (yy (by kernel_rfl) (by kernel_rfl) (by kernel_rfl) (zg (zi (za rfl (yy (by kernel_rfl) (by kernel_rfl) (by kernel_rfl) (zg trivial)))))))))))))))))))))))))
theorem Vi (aa:Bool) (ab:Slc) (ac:Slc) (w:World) (R:Ending→World→Prop) (h:newC w (zR aa ab ac) 34 fun ad1 w1=>newC w1 (zR false nSl nSl) 34 fun ad2 w2=>ldr ad1 w2 fun b1 s1 s2=>kI 10 #[uR b1 s1 s2] w2 fun w3 x1=>(br (x1 !=0) (ldB ad1 w3 fun b2=>stC ad1 (.bool (!b2)) w3 fun w4=>ldr ad1 w4 fun b3 s3 s4=>xR ad2 b3 s3 s4 w4 fun w7=>ldr ad2 w7 fun b4 s5 s6=>R (.returned (uR b4 s5 s6)) w7) (ldr ad1 w3 fun b5 s7 s8=>xR ad2 b5 s7 s8 w3 fun w10=>ldr ad2 w10 fun b6 s9 s10=>R (.returned (uR b6 s9 s10)) w10))):Calls pr 58 #[uR aa ab ac] w R:=by
 refine zk (fun _=>none) (by kernel_rfl) Tryz.func58 rfl ?_ ?_
 ·refine kcast h ?_;kernel_rfl
 ·exact (za rfl (ze (za rfl (za rfl (ze (zh (ze (zi (za rfl (ze (zg trivial)))))))))))
theorem Yp (ab:Bool) (aa:Slc) (ac:Slc) (w:World) (R:Ending→World→Prop) (h:newC w (zR false nSl nSl) 34 fun ad1 w1=>kB 40 #[aa.v] w1 fun w2 b1=>(br b1 (kS 56 #[vi 1] w2 fun w3 s1=>(xt3 ad1 (.bool false) nSl.v s1.v w3 fun w6=>ldr ad1 w6 fun b2 s2 s3=>R (.returned (uR b2 s2 s3)) w6)) (kS 89 #[aa.v,ac.v] w2 fun w7 s4=>(Calls pr 90 #[aa.v,s4.v] w7 fun e4 w8=>∃s5:Slc,∃s6:Slc,e4= .returned (.tuple #[s5.v,s6.v])∧(Calls pr 90 #[ac.v,s4.v] w8 fun e5 w9=>∃s7:Slc,∃s8:Slc,e5= .returned (.tuple #[s7.v,s8.v])∧(xR ad1 ab s5 s7 w9 fun w12=>ldr ad1 w12 fun b3 s9 s10=>R (.returned (uR b3 s9 s10)) w12)))))):Calls pr 44 (zR ab aa ac) w R:=by
 refine zk (fun _=>none) (by kernel_rfl) Tryz.func44 rfl ?_ ?_
 ·refine kcast h ?_;kernel_rfl
 ·exact (za rfl (ze (za rfl (za rfl (ze (zh (za rfl (ze (zg (zi (za rfl (ze (za rfl (ze (za rfl (ze (za rfl (ze (zg trivial)))))))))))))))))))
def Yg (J0:Slc→Slc→World→Prop) (m0:Slc→Slc→World→Nat):Nat→Option ((Act→World→Prop)×(Act→World→Nat))
 |0=>some (fun a_ w_=>atSz a_ 19 (atS a_ 0 fun t0_a=>atS a_ 1 fun t1_b=>J0 t0_a t1_b w_),fun a_ w_=>mS a_ 0 fun t0_a=>mS a_ 1 fun t1_b=>m0 t0_a t1_b w_)
 |_=>none
theorem Xt (ad:Slc) (ae:Slc) (w:World) (R:Ending→World→Prop) (J0:Slc→Slc→World→Prop) (m0:Slc→Slc→World→Nat) (h:J0 ad ae w) (h0:∀ab aa w_,J0 ab aa w_→kB 40 #[aa.v] w_ fun w1 b1=>(br (!b1) (Calls pr 90 #[ab.v,aa.v] w1 fun e2 w2=>∃s1:Slc,∃s2:Slc,e2= .returned (.tuple #[s1.v,s2.v])∧(J0 aa s2 w2∧m0 aa s2 w2<m0 ab aa w_)) (R (.returned ab.v) w1))):Calls pr 89 #[ad.v,ae.v] w R:=by
 refine zk (Yg J0 m0) (by kernel_rfl) Tryz.func89 rfl ?_ ?_
 ·refine kcast h ?_;kernel_rfl
 ·exact (za rfl (ze (za rfl (yg _ rfl (fun a_ w_ ac=>(by
  obtain ⟨af,ag,ac⟩:=ya ac
  obtain ⟨ab,ah,ac⟩:=zr ac
  obtain ⟨aa,ai,ac⟩:=zr ac
  obtain ⟨g0,rfl⟩:∃g,a_=Fr 19 [(0,ab.v),(1,aa.v)] g:=⟨_,yp af ag _ (zf ah (zf ai yc))⟩
  clear af ag ah ai
  have aj:=ac
  refine ⟨(fun _=>none),kcast (h0 ab aa w_ aj) ?_, ?_⟩
  ·kernel_rfl
  ·exact (za rfl (za rfl (ze (zh (zi (ye (yh rfl (za rfl (ze (ze trivial)))))))))))) (za rfl (ze (zg trivial)))))))
end
section
open Go Go.RowKit Eng L2
open _root_.Go.IntKind (wrap)
theorem cc (aa:Bool) (ab:Slc) (ac:Slc) (w:World) (R:Ending→World→Prop) (h:xw w w fun w1=>(kB 40 #[ab.v] w1 fun w2 b1=>Ahead w1 w2∧(br b1 (R (.returned (vi 0)) w2) (br aa (R (.returned (vi (-1))) w2) (R (.returned (vi 1)) w2))))):Calls pr 10 #[uR aa ab ac] w (fun e_ w_=>Ahead w w_∧R e_ w_):=by
  refine ce aa ab ac w _ ?_
  · have A:Ahead w w:=Ahead.refl w
    have X:Ext w w:=Ext.refl w
    refine zn fun bk1 u1 hb a _ B1=> ?_;have g1:=zj A.size hb;obtain ⟨A,X⟩:=axa2 a A X;refine ym 1 B1 rfl ?_;replace h:=h _ X A;refine Calls.mono h ?_;clear h;rintro e1 w2 ⟨b1,he_,a,h⟩;refine ⟨b1,he_, ?_⟩;clear he_;replace B1:=B1.ahead a;obtain ⟨A,X⟩:=axr2 a A;refine zv h (fun h_=> ?_) (fun h_=> ?_)
    ·replace h:=h_;clear h_;exact ⟨A,h⟩
    ·replace h:=h_;clear h_;refine yt 0 B1 rfl ?_;refine zv h (fun h_=> ?_) (fun h_=> ?_)
     ·replace h:=h_;clear h_;exact ⟨A,h⟩
     ·replace h:=h_;clear h_;exact ⟨A,h⟩
theorem Vj (aa:Bool) (ab:Slc) (ac:Slc) (ad:Bool) (ae:Slc) (af:Slc) (w:World) (R:Ending→World→Prop) (h:xw w w fun w1=>(kS 45 #[ab.v,af.v] w1 fun w2 s1=>Ahead w1 w2∧(kS 45 #[ac.v,ae.v] w2 fun w3 s2=>Ahead w2 w3∧(Calls pr 44 (zR (!(aa==ad)) s1 s2) w3 fun e3 w4=>jR e3 fun b1 s3 s4=>Ahead w3 w4∧(xw w w4 fun w5=>(R (.returned (uR b1 s3 s4)) w5)))))):Calls pr 12 #[uR aa ab ac,uR ad ae af] w (fun e_ w_=>Ahead w w_∧R e_ w_):=by
 refine Vk aa ab ac ad ae af w _ ?_
 ·have A:Ahead w w:=Ahead.refl w
  have X:Ext w w:=Ext.refl w
  refine zn fun bk1 u1 hb a _ B1=> ?_;have g1:=zj A.size hb;obtain ⟨A,X⟩:=axa2 a A X;refine zn fun bk2 u2 hb a _ B2=> ?_;have g2:=zj A.size hb;have l1_2:=lt1 hb B1;replace B1:=B1.ahead a;obtain ⟨A,X⟩:=axa2 a A X;refine zn fun bk3 u3 hb a _ B3=> ?_;have g3:=zj A.size hb;obtain ⟨_,_⟩:=lt2 hb B1 B2;obtain ⟨B1,B2⟩:=ah2 a B1 B2;obtain ⟨A,X⟩:=axa2 a A X;have ag:=Sp.Ahead.drew u3;obtain ⟨B1,B2,B3⟩:=ah3 ag B1 B2 B3;obtain ⟨A,X⟩:=axa2 ag A X;clear ag;refine yt 0 B1 rfl ?_;refine yt 0 B2 rfl ?_;refine ym 1 B1 rfl ?_;refine ym 2 B2 rfl ?_;refine ym 2 B1 rfl ?_;refine ym 1 B2 rfl ?_;replace h:=h _ X A;refine Calls.mono h ?_;clear h;rintro e1 w2 ⟨s1,he_,a,h⟩;refine ⟨s1,he_, ?_⟩;clear he_;obtain ⟨B1,B2,B3⟩:=ah3 a B1 B2 B3;obtain ⟨A,X⟩:=axr2 a A;refine ⟨a, ?_⟩;refine Calls.mono h ?_;clear h;rintro e2 w3 ⟨s2,he_,a,h⟩;refine ⟨s2,he_, ?_⟩;clear he_;obtain ⟨B1,B2,B3⟩:=ah3 a B1 B2 B3;obtain ⟨A,X⟩:=axr2 a A;refine ⟨a, ?_⟩;refine Calls.mono h ?_;clear h;rintro e3 w4 ⟨b1,s3,s4,he_,a,h⟩;refine ⟨b1,s3,s4,he_, ?_⟩;clear he_;obtain ⟨B1,B2,B3⟩:=ah3 a B1 B2 B3;obtain ⟨A,X⟩:=axr2 a A;refine ⟨a, ?_⟩;refine s3_t B3 fun u4 k B3=> ?_;obtain ⟨B1,B2⟩:=up2 k B1 B2;obtain ⟨A,X⟩:=axu2 k g3 A X;refine yu B3 ?_;replace h:=h _ X A;exact ⟨A,h⟩
theorem Zi (ad:Bool) (aa:Slc) (ac:Slc) (ab:Int) (w:World) (R:Ending→World→Prop) (h:xw w w fun w1=>(kB 40 #[aa.v] w1 fun w2 b1=>Ahead w1 w2∧(br b1 (xw w w2 fun w3=>(R (.returned (uR ad aa ac)) w3)) (br (decide (ab≥0)) (kI 53 #[ac.v] w2 fun w4 x1=>Ahead w2 w4∧(br (decide (x1>ab)) (xw w w4 fun w5=>(kS 54 #[aa.v,vi (wrap .i64 (ab -ab))] w5 fun w6 s1=>Ahead w5 w6∧(kS 55 #[ac.v,vi ab] w6 fun w7 s2=>Ahead w6 w7∧(xw w w7 fun w8=>(R (.returned (uR ad s1 s2)) w8))))) (xw w w4 fun w9=>(kS 54 #[aa.v,vi (wrap .i64 (ab -x1))] w9 fun w10 s3=>Ahead w9 w10∧(kS 55 #[ac.v,vi x1] w10 fun w11 s4=>Ahead w10 w11∧(xw w w11 fun w12=>(R (.returned (uR ad s3 s4)) w12))))))) (kI 53 #[aa.v] w2 fun w13 x2=>Ahead w2 w13∧(br (decide (x2>(wrap .i64 (0 -ab)))) (xw w w13 fun w14=>(kS 55 #[aa.v,vi (wrap .i64 (0 -ab))] w14 fun w15 s5=>Ahead w14 w15∧(kS 54 #[ac.v,vi (wrap .i64 ((wrap .i64 (0 -ab)) -(wrap .i64 (0 -ab))))] w15 fun w16 s6=>Ahead w15 w16∧(xw w w16 fun w17=>(R (.returned (uR ad s5 s6)) w17))))) (xw w w13 fun w18=>(kS 55 #[aa.v,vi x2] w18 fun w19 s7=>Ahead w18 w19∧(kS 54 #[ac.v,vi (wrap .i64 ((wrap .i64 (0 -ab)) -x2))] w19 fun w20 s8=>Ahead w19 w20∧(xw w w20 fun w21=>(R (.returned (uR ad s7 s8)) w21))))))))))):Calls pr 15 #[uR ad aa ac,vi ab] w (fun e_ w_=>Ahead w w_∧R e_ w_):=by
  refine Zj ad aa ac ab w _ ?_
  · have A:Ahead w w:=Ahead.refl w
    have X:Ext w w:=Ext.refl w
    refine zn fun bk1 u1 hb a _ B1=> ?_;have g1:=zj A.size hb;obtain ⟨A,X⟩:=axa2 a A X;refine zn fun bk2 u2 hb a _ B2=> ?_;have g2:=zj A.size hb;have l1_2:=lt1 hb B1;replace B1:=B1.ahead a;obtain ⟨A,X⟩:=axa2 a A X;refine ym 1 B1 rfl ?_;replace h:=h _ X A;refine Calls.mono h ?_;clear h;rintro e1 w2 ⟨b1,he_,a,h⟩;refine ⟨b1,he_, ?_⟩;clear he_;obtain ⟨B1,B2⟩:=ah2 a B1 B2;obtain ⟨A,X⟩:=axr2 a A;refine zv h (fun h_=> ?_) (fun h_=> ?_)
    ·replace h:=h_;clear h_;refine yu B1 ?_;refine s3_t B2 fun u3 k B2=> ?_;replace B1:=up1 k B1;obtain ⟨A,X⟩:=axu2 k g2 A X;refine yu B2 ?_;replace h:=h _ X A;exact ⟨A,h⟩
    ·replace h:=h_;clear h_;refine zv h (fun h_=> ?_) (fun h_=> ?_)
     ·replace h:=h_;clear h_;refine ym 2 B1 rfl ?_;refine Calls.mono h ?_;clear h;rintro e2 w4 ⟨x1,he_,a,h⟩;refine ⟨x1,he_, ?_⟩;clear he_;obtain ⟨B1,B2⟩:=ah2 a B1 B2;obtain ⟨A,X⟩:=axr2 a A;refine zv h (fun h_=> ?_) (fun h_=> ?_)
      ·replace h:=h_;clear h_;have ae:=Sp.Ahead.drew w4;obtain ⟨B1,B2⟩:=ah2 ae B1 B2;obtain ⟨A,X⟩:=axa2 ae A X;clear ae;refine yt 0 B1 rfl ?_;refine ym 1 B1 rfl ?_;refine ym 2 B1 rfl ?_;replace h:=h _ X A;refine Calls.mono h ?_;clear h;rintro e3 w6 ⟨s1,he_,a,h⟩;refine ⟨s1,he_, ?_⟩;clear he_;obtain ⟨B1,B2⟩:=ah2 a B1 B2;obtain ⟨A,X⟩:=axr2 a A;refine ⟨a, ?_⟩;refine Calls.mono h ?_;clear h;rintro e4 w7 ⟨s2,he_,a,h⟩;refine ⟨s2,he_, ?_⟩;clear he_;obtain ⟨B1,B2⟩:=ah2 a B1 B2;obtain ⟨A,X⟩:=axr2 a A;refine ⟨a, ?_⟩;refine s3_t B2 fun u4 k B2=> ?_;replace B1:=up1 k B1;obtain ⟨A,X⟩:=axu2 k g2 A X;refine yu B2 ?_;replace h:=h _ X A;exact ⟨A,h⟩
      ·replace h:=h_;clear h_;have ae:=Sp.Ahead.drew w4;obtain ⟨B1,B2⟩:=ah2 ae B1 B2;obtain ⟨A,X⟩:=axa2 ae A X;clear ae;refine yt 0 B1 rfl ?_;refine ym 1 B1 rfl ?_;refine ym 2 B1 rfl ?_;replace h:=h _ X A;refine Calls.mono h ?_;clear h;rintro e5 w10 ⟨s3,he_,a,h⟩;refine ⟨s3,he_, ?_⟩;clear he_;obtain ⟨B1,B2⟩:=ah2 a B1 B2;obtain ⟨A,X⟩:=axr2 a A;refine ⟨a, ?_⟩;refine Calls.mono h ?_;clear h;rintro e6 w11 ⟨s4,he_,a,h⟩;refine ⟨s4,he_, ?_⟩;clear he_;obtain ⟨B1,B2⟩:=ah2 a B1 B2;obtain ⟨A,X⟩:=axr2 a A;refine ⟨a, ?_⟩;refine s3_t B2 fun u5 k B2=> ?_;replace B1:=up1 k B1;obtain ⟨A,X⟩:=axu2 k g2 A X;refine yu B2 ?_;replace h:=h _ X A;exact ⟨A,h⟩
     ·replace h:=h_;clear h_;refine ym 1 B1 rfl ?_;refine Calls.mono h ?_;clear h;rintro e7 w13 ⟨x2,he_,a,h⟩;refine ⟨x2,he_, ?_⟩;clear he_;obtain ⟨B1,B2⟩:=ah2 a B1 B2;obtain ⟨A,X⟩:=axr2 a A;refine zv h (fun h_=> ?_) (fun h_=> ?_)
      ·replace h:=h_;clear h_;have ae:=Sp.Ahead.drew w13;obtain ⟨B1,B2⟩:=ah2 ae B1 B2;obtain ⟨A,X⟩:=axa2 ae A X;clear ae;refine yt 0 B1 rfl ?_;refine ym 1 B1 rfl ?_;refine ym 2 B1 rfl ?_;replace h:=h _ X A;refine Calls.mono h ?_;clear h;rintro e8 w15 ⟨s5,he_,a,h⟩;refine ⟨s5,he_, ?_⟩;clear he_;obtain ⟨B1,B2⟩:=ah2 a B1 B2;obtain ⟨A,X⟩:=axr2 a A;refine ⟨a, ?_⟩;refine Calls.mono h ?_;clear h;rintro e9 w16 ⟨s6,he_,a,h⟩;refine ⟨s6,he_, ?_⟩;clear he_;obtain ⟨B1,B2⟩:=ah2 a B1 B2;obtain ⟨A,X⟩:=axr2 a A;refine ⟨a, ?_⟩;refine s3_t B2 fun u6 k B2=> ?_;replace B1:=up1 k B1;obtain ⟨A,X⟩:=axu2 k g2 A X;refine yu B2 ?_;replace h:=h _ X A;exact ⟨A,h⟩
      ·replace h:=h_;clear h_;have ae:=Sp.Ahead.drew w13;obtain ⟨B1,B2⟩:=ah2 ae B1 B2;obtain ⟨A,X⟩:=axa2 ae A X;clear ae;refine yt 0 B1 rfl ?_;refine ym 1 B1 rfl ?_;refine ym 2 B1 rfl ?_;replace h:=h _ X A;refine Calls.mono h ?_;clear h;rintro e10 w19 ⟨s7,he_,a,h⟩;refine ⟨s7,he_, ?_⟩;clear he_;obtain ⟨B1,B2⟩:=ah2 a B1 B2;obtain ⟨A,X⟩:=axr2 a A;refine ⟨a, ?_⟩;refine Calls.mono h ?_;clear h;rintro e11 w20 ⟨s8,he_,a,h⟩;refine ⟨s8,he_, ?_⟩;clear he_;obtain ⟨B1,B2⟩:=ah2 a B1 B2;obtain ⟨A,X⟩:=axr2 a A;refine ⟨a, ?_⟩;refine s3_t B2 fun u7 k B2=> ?_;replace B1:=up1 k B1;obtain ⟨A,X⟩:=axu2 k g2 A X;refine yu B2 ?_;replace h:=h _ X A;exact ⟨A,h⟩
theorem Vd (aa:Int) (w:World) (R:Ending→World→Prop) (h:br (decide (aa<0)) (xw w w fun w1=>(newC w1 #[.int .u64 (wrap .u64 (0 -(wrap .u64 aa)))] 65 fun ad1 w2=>kS 33 #[(⟨some ad1,1,1⟩:Slc).v] w2 fun w3 s1=>Ahead w2 w3∧(kS 56 #[vi 1] w3 fun w4 s2=>Ahead w3 w4∧(xw w w4 fun w5=>(R (.returned (uR (true) s1 s2)) w5))))) (xw w w fun w6=>(kS 56 #[vi aa] w6 fun w7 s3=>Ahead w6 w7∧(kS 56 #[vi 1] w7 fun w8 s4=>Ahead w7 w8∧(xw w w8 fun w9=>(R (.returned (uR (false) s3 s4)) w9)))))):Calls pr 16 #[vi aa] w (fun e_ w_=>Ahead w w_∧R e_ w_):=by
 refine Ve aa w _ ?_
 ·have A:Ahead w w:=Ahead.refl w
  have X:Ext w w:=Ext.refl w
  refine zn fun bk1 u1 hb a _ B1=> ?_;have g1:=zj A.size hb;obtain ⟨A,X⟩:=axa2 a A X;refine zv h (fun h_=> ?_) (fun h_=> ?_)
  ·replace h:=h_;clear h_;replace h:=h _ X A;refine tb h fun ad1 w2 a h_=> ?_;replace h:=h_;clear h_;replace B1:=B1.ahead a;obtain ⟨A,X⟩:=axr2 a A;refine Calls.mono h ?_;clear h;rintro e1 w3 ⟨s1,he_,a,h⟩;refine ⟨s1,he_, ?_⟩;clear he_;replace B1:=B1.ahead a;obtain ⟨A,X⟩:=axr2 a A;refine Calls.mono h ?_;clear h;rintro e2 w4 ⟨s2,he_,a,h⟩;refine ⟨s2,he_, ?_⟩;clear he_;replace B1:=B1.ahead a;obtain ⟨A,X⟩:=axr2 a A;refine s3_t B1 fun u2 k B1=> ?_;obtain ⟨A,X⟩:=axu2 k g1 A X;refine yu B1 ?_;replace h:=h _ X A;exact ⟨A,h⟩
  ·replace h:=h_;clear h_;replace h:=h _ X A;refine Calls.mono h ?_;clear h;rintro e3 w7 ⟨s3,he_,a,h⟩;refine ⟨s3,he_, ?_⟩;clear he_;replace B1:=B1.ahead a;obtain ⟨A,X⟩:=axr2 a A;refine Calls.mono h ?_;clear h;rintro e4 w8 ⟨s4,he_,a,h⟩;refine ⟨s4,he_, ?_⟩;clear he_;replace B1:=B1.ahead a;obtain ⟨A,X⟩:=axr2 a A;refine s3_t B1 fun u3 k B1=> ?_;obtain ⟨A,X⟩:=axu2 k g1 A X;refine yu B1 ?_;replace h:=h _ X A;exact ⟨A,h⟩
theorem X0 (ac:Bool) (aa:Slc) (ab:Slc) (w:World) (R:Ending→World→Prop) (h:xw w w fun w1=>(R (.returned (uR (false) aa ab)) w1)):Calls pr 17 #[uR ac aa ab] w (fun e_ w_=>Ahead w w_∧R e_ w_):=by
 refine X5 ac aa ab w _ ?_
 ·have A:Ahead w w:=Ahead.refl w
  have X:Ext w w:=Ext.refl w
  refine zn fun bk1 u1 hb a _ B1=> ?_;have g1:=zj A.size hb;obtain ⟨A,X⟩:=axa2 a A X;refine zn fun bk2 u2 hb a _ B2=> ?_;have g2:=zj A.size hb;have l1_2:=lt1 hb B1;replace B1:=B1.ahead a;obtain ⟨A,X⟩:=axa2 a A X;refine uh 0 B1 rfl rfl rfl fun u3 k_u3 B1_=> ?_;replace B1:Blt u3 bk1 34 #[Value.bool false,aa.v,ab.v]:=B1_;clear B1_;replace B2:=up1 k_u3 B2;obtain ⟨A,X⟩:=axu2 k_u3 g1 A X;refine yu B1 ?_;refine s3_t B2 fun u4 k B2=> ?_;replace B1:=up1 k B1;obtain ⟨A,X⟩:=axu2 k g2 A X;refine yu B2 ?_;replace h:=h _ X A;exact ⟨A,h⟩
theorem Vb (ac:Bool) (aa:Slc) (ab:Slc) (ag:Bool) (ad:Slc) (ae:Slc) (w:World) (R:Ending→World→Prop) (h:xw w w fun w1=>(kI 10 #[uR ac aa ab] w1 fun w2 x1=>Ahead w1 w2∧(kI 10 #[uR ag ad ae] w2 fun w3 x2=>Ahead w2 w3∧(br (x1 !=x2) (xw w w3 fun w4=>(kI 10 #[uR ac aa ab] w4 fun w5 x3=>Ahead w4 w5∧(kI 10 #[uR ag ad ae] w5 fun w6 x4=>Ahead w5 w6∧(br (decide (x3<x4)) (R (.returned (vi (-1))) w6) (R (.returned (vi 1)) w6))))) (xw w w3 fun w7=>(kI 10 #[uR ac aa ab] w7 fun w8 x5=>Ahead w7 w8∧(kS 45 #[aa.v,ae.v] w8 fun w9 s1=>Ahead w8 w9∧(kS 45 #[ad.v,ab.v] w9 fun w10 s2=>Ahead w9 w10∧(kI 57 #[s1.v,s2.v] w10 fun w11 x6=>Ahead w10 w11∧(R (.returned (vi (wrap .i64 (x5*x6)))) w11)))))))))):Calls pr 18 #[uR ac aa ab,uR ag ad ae] w (fun e_ w_=>Ahead w w_∧R e_ w_):=by
  refine Vc ac aa ab ag ad ae w _ ?_
  · have A:Ahead w w:=Ahead.refl w
    have X:Ext w w:=Ext.refl w
    refine zn fun bk1 u1 hb a _ B1=> ?_;have g1:=zj A.size hb;obtain ⟨A,X⟩:=axa2 a A X;refine zn fun bk2 u2 hb a _ B2=> ?_;have g2:=zj A.size hb;have l1_2:=lt1 hb B1;replace B1:=B1.ahead a;obtain ⟨A,X⟩:=axa2 a A X;have af:=Sp.Ahead.drew u2;obtain ⟨B1,B2⟩:=ah2 af B1 B2;obtain ⟨A,X⟩:=axa2 af A X;clear af;refine yu B1 ?_;refine yu B2 ?_;replace h:=h _ X A;refine Calls.mono h ?_;clear h;rintro e1 w2 ⟨x1,he_,a,h⟩;refine ⟨x1,he_, ?_⟩;clear he_;obtain ⟨B1,B2⟩:=ah2 a B1 B2;obtain ⟨A,X⟩:=axr2 a A;refine ⟨a, ?_⟩;refine Calls.mono h ?_;clear h;rintro e2 w3 ⟨x2,he_,a,h⟩;refine ⟨x2,he_, ?_⟩;clear he_;obtain ⟨B1,B2⟩:=ah2 a B1 B2;obtain ⟨A,X⟩:=axr2 a A;refine ⟨a, ?_⟩;refine zv h (fun h_=> ?_) (fun h_=> ?_)
    ·replace h:=h_;clear h_;have af:=Sp.Ahead.drew w3;obtain ⟨B1,B2⟩:=ah2 af B1 B2;obtain ⟨A,X⟩:=axa2 af A X;clear af;refine yu B1 ?_;refine yu B2 ?_;replace h:=h _ X A;refine Calls.mono h ?_;clear h;rintro e3 w5 ⟨x3,he_,a,h⟩;refine ⟨x3,he_, ?_⟩;clear he_;obtain ⟨B1,B2⟩:=ah2 a B1 B2;obtain ⟨A,X⟩:=axr2 a A;refine ⟨a, ?_⟩;refine Calls.mono h ?_;clear h;rintro e4 w6 ⟨x4,he_,a,h⟩;refine ⟨x4,he_, ?_⟩;clear he_;obtain ⟨B1,B2⟩:=ah2 a B1 B2;obtain ⟨A,X⟩:=axr2 a A;refine ⟨a, ?_⟩;refine zv h (fun h_=> ?_) (fun h_=> ?_)
     ·replace h:=h_;clear h_;exact ⟨A,h⟩
     ·replace h:=h_;clear h_;exact ⟨A,h⟩
    ·replace h:=h_;clear h_;have af:=Sp.Ahead.drew w3;obtain ⟨B1,B2⟩:=ah2 af B1 B2;obtain ⟨A,X⟩:=axa2 af A X;clear af;refine yu B1 ?_;refine ym 1 B1 rfl ?_;refine ym 2 B2 rfl ?_;refine ym 1 B2 rfl ?_;refine ym 2 B1 rfl ?_;replace h:=h _ X A;refine Calls.mono h ?_;clear h;rintro e5 w8 ⟨x5,he_,a,h⟩;refine ⟨x5,he_, ?_⟩;clear he_;obtain ⟨B1,B2⟩:=ah2 a B1 B2;obtain ⟨A,X⟩:=axr2 a A;refine ⟨a, ?_⟩;refine Calls.mono h ?_;clear h;rintro e6 w9 ⟨s1,he_,a,h⟩;refine ⟨s1,he_, ?_⟩;clear he_;obtain ⟨B1,B2⟩:=ah2 a B1 B2;obtain ⟨A,X⟩:=axr2 a A;refine ⟨a, ?_⟩;refine Calls.mono h ?_;clear h;rintro e7 w10 ⟨s2,he_,a,h⟩;refine ⟨s2,he_, ?_⟩;clear he_;obtain ⟨B1,B2⟩:=ah2 a B1 B2;obtain ⟨A,X⟩:=axr2 a A;refine ⟨a, ?_⟩;refine Calls.mono h ?_;clear h;rintro e8 w11 ⟨x6,he_,a,h⟩;refine ⟨x6,he_, ?_⟩;clear he_;obtain ⟨B1,B2⟩:=ah2 a B1 B2;obtain ⟨A,X⟩:=axr2 a A;refine ⟨a, ?_⟩;exact ⟨A,h⟩
theorem Vf (aa:Bool) (ab:Slc) (ac:Slc) (ad:Bool) (ae:Slc) (af:Slc) (w:World) (R:Ending→World→Prop) (h:xw w w fun w1=>(kS 45 #[ab.v,ae.v] w1 fun w2 s1=>Ahead w1 w2∧(kS 45 #[ac.v,af.v] w2 fun w3 s2=>Ahead w2 w3∧(Calls pr 44 (zR (!(aa==ad)) s1 s2) w3 fun e3 w4=>jR e3 fun b1 s3 s4=>Ahead w3 w4∧(xw w w4 fun w5=>(R (.returned (uR b1 s3 s4)) w5)))))):Calls pr 19 #[uR aa ab ac,uR ad ae af] w (fun e_ w_=>Ahead w w_∧R e_ w_):=by
 refine Vg aa ab ac ad ae af w _ ?_
 ·have A:Ahead w w:=Ahead.refl w
  have X:Ext w w:=Ext.refl w
  refine zn fun bk1 u1 hb a _ B1=> ?_;have g1:=zj A.size hb;obtain ⟨A,X⟩:=axa2 a A X;refine zn fun bk2 u2 hb a _ B2=> ?_;have g2:=zj A.size hb;have l1_2:=lt1 hb B1;replace B1:=B1.ahead a;obtain ⟨A,X⟩:=axa2 a A X;refine zn fun bk3 u3 hb a _ B3=> ?_;have g3:=zj A.size hb;obtain ⟨_,_⟩:=lt2 hb B1 B2;obtain ⟨B1,B2⟩:=ah2 a B1 B2;obtain ⟨A,X⟩:=axa2 a A X;have ag:=Sp.Ahead.drew u3;obtain ⟨B1,B2,B3⟩:=ah3 ag B1 B2 B3;obtain ⟨A,X⟩:=axa2 ag A X;clear ag;refine yt 0 B1 rfl ?_;refine yt 0 B2 rfl ?_;refine ym 1 B1 rfl ?_;refine ym 1 B2 rfl ?_;refine ym 2 B1 rfl ?_;refine ym 2 B2 rfl ?_;replace h:=h _ X A;refine Calls.mono h ?_;clear h;rintro e1 w2 ⟨s1,he_,a,h⟩;refine ⟨s1,he_, ?_⟩;clear he_;obtain ⟨B1,B2,B3⟩:=ah3 a B1 B2 B3;obtain ⟨A,X⟩:=axr2 a A;refine ⟨a, ?_⟩;refine Calls.mono h ?_;clear h;rintro e2 w3 ⟨s2,he_,a,h⟩;refine ⟨s2,he_, ?_⟩;clear he_;obtain ⟨B1,B2,B3⟩:=ah3 a B1 B2 B3;obtain ⟨A,X⟩:=axr2 a A;refine ⟨a, ?_⟩;refine Calls.mono h ?_;clear h;rintro e3 w4 ⟨b1,s3,s4,he_,a,h⟩;refine ⟨b1,s3,s4,he_, ?_⟩;clear he_;obtain ⟨B1,B2,B3⟩:=ah3 a B1 B2 B3;obtain ⟨A,X⟩:=axr2 a A;refine ⟨a, ?_⟩;refine s3_t B3 fun u4 k B3=> ?_;obtain ⟨B1,B2⟩:=up2 k B1 B2;obtain ⟨A,X⟩:=axu2 k g3 A X;refine yu B3 ?_;replace h:=h _ X A;exact ⟨A,h⟩
theorem Vm (aa:Bool) (ab:Slc) (ac:Slc) (ad:Bool) (ae:Slc) (af:Slc) (w:World) (R:Ending→World→Prop) (h:xw w w fun w1=>(kR 58 #[uR ad ae af] w1 fun w2 b1 s1 s2=>Ahead w1 w2∧(kR 28 #[uR aa ab ac,uR b1 s1 s2] w2 fun w3 b2 s3 s4=>Ahead w2 w3∧(xw w w3 fun w4=>(R (.returned (uR b2 s3 s4)) w4))))):Calls pr 20 #[uR aa ab ac,uR ad ae af] w (fun e_ w_=>Ahead w w_∧R e_ w_):=by
 refine Vn aa ab ac ad ae af w _ ?_
 ·have A:Ahead w w:=Ahead.refl w
  have X:Ext w w:=Ext.refl w
  refine zn fun bk1 u1 hb a _ B1=> ?_;have g1:=zj A.size hb;obtain ⟨A,X⟩:=axa2 a A X;refine zn fun bk2 u2 hb a _ B2=> ?_;have g2:=zj A.size hb;have l1_2:=lt1 hb B1;replace B1:=B1.ahead a;obtain ⟨A,X⟩:=axa2 a A X;refine zn fun bk3 u3 hb a _ B3=> ?_;have g3:=zj A.size hb;obtain ⟨_,_⟩:=lt2 hb B1 B2;obtain ⟨B1,B2⟩:=ah2 a B1 B2;obtain ⟨A,X⟩:=axa2 a A X;have ag:=Sp.Ahead.drew u3;obtain ⟨B1,B2,B3⟩:=ah3 ag B1 B2 B3;obtain ⟨A,X⟩:=axa2 ag A X;clear ag;refine yu B1 ?_;refine yu B2 ?_;replace h:=h _ X A;refine Calls.mono h ?_;clear h;rintro e1 w2 ⟨b1,s1,s2,he_,a,h⟩;refine ⟨b1,s1,s2,he_, ?_⟩;clear he_;obtain ⟨B1,B2,B3⟩:=ah3 a B1 B2 B3;obtain ⟨A,X⟩:=axr2 a A;refine ⟨a, ?_⟩;refine Calls.mono h ?_;clear h;rintro e2 w3 ⟨b2,s3,s4,he_,a,h⟩;refine ⟨b2,s3,s4,he_, ?_⟩;clear he_;obtain ⟨B1,B2,B3⟩:=ah3 a B1 B2 B3;obtain ⟨A,X⟩:=axr2 a A;refine ⟨a, ?_⟩;refine s3_t B3 fun u4 k B3=> ?_;obtain ⟨B1,B2⟩:=up2 k B1 B2;obtain ⟨A,X⟩:=axu2 k g3 A X;refine yu B3 ?_;replace h:=h _ X A;exact ⟨A,h⟩
theorem X9 (ab:Bool) (af:Slc) (ac:Slc) (ad:Bool) (ag:Slc) (ae:Slc) (w:World) (R:Ending→World→Prop) (h:xw w w fun w1=>(kS 45 #[af.v,ae.v] w1 fun w2 s1=>Ahead w1 w2∧(kS 45 #[ag.v,ac.v] w2 fun w3 s2=>Ahead w2 w3∧(kS 45 #[ac.v,ae.v] w3 fun w4 s3=>Ahead w3 w4∧(br (ab==ad) (xw w w4 fun w5=>(kS 67 #[s1.v,s2.v] w5 fun w6 s4=>Ahead w5 w6∧(Calls pr 44 (zR ab s4 s3) w6 fun e5 w7=>jR e5 fun b1 s5 s6=>Ahead w6 w7∧(xw w w7 fun w8=>(R (.returned (uR b1 s5 s6)) w8))))) (kI 57 #[s1.v,s2.v] w4 fun w9 x1=>Ahead w4 w9∧(br (decide (x1≥0)) (xw w w9 fun w10=>(kS 68 #[s1.v,s2.v] w10 fun w11 s7=>Ahead w10 w11∧(Calls pr 44 (zR ab s7 s3) w11 fun e8 w12=>jR e8 fun b2 s8 s9=>Ahead w11 w12∧(xw w w12 fun w13=>(R (.returned (uR b2 s8 s9)) w13))))) (xw w w9 fun w14=>(kS 68 #[s2.v,s1.v] w14 fun w15 s10=>Ahead w14 w15∧(Calls pr 44 (zR ad s10 s3) w15 fun e10 w16=>jR e10 fun b3 s11 s12=>Ahead w15 w16∧(xw w w16 fun w17=>(R (.returned (uR b3 s11 s12)) w17)))))))))))):Calls pr 28 #[uR ab af ac,uR ad ag ae] w (fun e_ w_=>Ahead w w_∧R e_ w_):=by
  refine Va ab af ac ad ag ae w _ ?_
  · have A:Ahead w w:=Ahead.refl w
    have X:Ext w w:=Ext.refl w
    refine zn fun bk1 u1 hb a _ B1=> ?_;have g1:=zj A.size hb;obtain ⟨A,X⟩:=axa2 a A X;refine zn fun bk2 u2 hb a _ B2=> ?_;have g2:=zj A.size hb;have l1_2:=lt1 hb B1;replace B1:=B1.ahead a;obtain ⟨A,X⟩:=axa2 a A X;refine zn fun bk3 u3 hb a _ B3=> ?_;have g3:=zj A.size hb;obtain ⟨_,_⟩:=lt2 hb B1 B2;obtain ⟨B1,B2⟩:=ah2 a B1 B2;obtain ⟨A,X⟩:=axa2 a A X;have aa:=Sp.Ahead.drew u3;obtain ⟨B1,B2,B3⟩:=ah3 aa B1 B2 B3;obtain ⟨A,X⟩:=axa2 aa A X;clear aa;refine ym 1 B1 rfl ?_;refine ym 2 B2 rfl ?_;refine ym 1 B2 rfl ?_;refine ym 2 B1 rfl ?_;replace h:=h _ X A;refine Calls.mono h ?_;clear h;rintro e1 w2 ⟨s1,he_,a,h⟩;refine ⟨s1,he_, ?_⟩;clear he_;obtain ⟨B1,B2,B3⟩:=ah3 a B1 B2 B3;obtain ⟨A,X⟩:=axr2 a A;refine ⟨a, ?_⟩;refine Calls.mono h ?_;clear h;rintro e2 w3 ⟨s2,he_,a,h⟩;refine ⟨s2,he_, ?_⟩;clear he_;obtain ⟨B1,B2,B3⟩:=ah3 a B1 B2 B3;obtain ⟨A,X⟩:=axr2 a A;refine ⟨a, ?_⟩;refine ym 2 B1 rfl ?_;refine ym 2 B2 rfl ?_;refine Calls.mono h ?_;clear h;rintro e3 w4 ⟨s3,he_,a,h⟩;refine ⟨s3,he_, ?_⟩;clear he_;obtain ⟨B1,B2,B3⟩:=ah3 a B1 B2 B3;obtain ⟨A,X⟩:=axr2 a A;refine yt 0 B1 rfl ?_;refine yt 0 B2 rfl ?_;refine zv h (fun h_=> ?_) (fun h_=> ?_)
    ·replace h:=h_;clear h_;have aa:=Sp.Ahead.drew w4;obtain ⟨B1,B2,B3⟩:=ah3 aa B1 B2 B3;obtain ⟨A,X⟩:=axa2 aa A X;clear aa;refine yt 0 B1 rfl ?_;replace h:=h _ X A;refine Calls.mono h ?_;clear h;rintro e4 w6 ⟨s4,he_,a,h⟩;refine ⟨s4,he_, ?_⟩;clear he_;obtain ⟨B1,B2,B3⟩:=ah3 a B1 B2 B3;obtain ⟨A,X⟩:=axr2 a A;refine ⟨a, ?_⟩;refine Calls.mono h ?_;clear h;rintro e5 w7 ⟨b1,s5,s6,he_,a,h⟩;refine ⟨b1,s5,s6,he_, ?_⟩;clear he_;obtain ⟨B1,B2,B3⟩:=ah3 a B1 B2 B3;obtain ⟨A,X⟩:=axr2 a A;refine ⟨a, ?_⟩;refine s3_t B3 fun u4 k B3=> ?_;obtain ⟨B1,B2⟩:=up2 k B1 B2;obtain ⟨A,X⟩:=axu2 k g3 A X;refine yu B3 ?_;replace h:=h _ X A;exact ⟨A,h⟩
    ·replace h:=h_;clear h_;refine Calls.mono h ?_;clear h;rintro e6 w9 ⟨x1,he_,a,h⟩;refine ⟨x1,he_, ?_⟩;clear he_;obtain ⟨B1,B2,B3⟩:=ah3 a B1 B2 B3;obtain ⟨A,X⟩:=axr2 a A;refine zv h (fun h_=> ?_) (fun h_=> ?_)
     ·replace h:=h_;clear h_;have aa:=Sp.Ahead.drew w9;obtain ⟨B1,B2,B3⟩:=ah3 aa B1 B2 B3;obtain ⟨A,X⟩:=axa2 aa A X;clear aa;refine yt 0 B1 rfl ?_;replace h:=h _ X A;refine Calls.mono h ?_;clear h;rintro e7 w11 ⟨s7,he_,a,h⟩;refine ⟨s7,he_, ?_⟩;clear he_;obtain ⟨B1,B2,B3⟩:=ah3 a B1 B2 B3;obtain ⟨A,X⟩:=axr2 a A;refine ⟨a, ?_⟩;refine Calls.mono h ?_;clear h;rintro e8 w12 ⟨b2,s8,s9,he_,a,h⟩;refine ⟨b2,s8,s9,he_, ?_⟩;clear he_;obtain ⟨B1,B2,B3⟩:=ah3 a B1 B2 B3;obtain ⟨A,X⟩:=axr2 a A;refine ⟨a, ?_⟩;refine s3_t B3 fun u5 k B3=> ?_;obtain ⟨B1,B2⟩:=up2 k B1 B2;obtain ⟨A,X⟩:=axu2 k g3 A X;refine yu B3 ?_;replace h:=h _ X A;exact ⟨A,h⟩
     ·replace h:=h_;clear h_;have aa:=Sp.Ahead.drew w9;obtain ⟨B1,B2,B3⟩:=ah3 aa B1 B2 B3;obtain ⟨A,X⟩:=axa2 aa A X;clear aa;refine yt 0 B2 rfl ?_;replace h:=h _ X A;refine Calls.mono h ?_;clear h;rintro e9 w15 ⟨s10,he_,a,h⟩;refine ⟨s10,he_, ?_⟩;clear he_;obtain ⟨B1,B2,B3⟩:=ah3 a B1 B2 B3;obtain ⟨A,X⟩:=axr2 a A;refine ⟨a, ?_⟩;refine Calls.mono h ?_;clear h;rintro e10 w16 ⟨b3,s11,s12,he_,a,h⟩;refine ⟨b3,s11,s12,he_, ?_⟩;clear he_;obtain ⟨B1,B2,B3⟩:=ah3 a B1 B2 B3;obtain ⟨A,X⟩:=axr2 a A;refine ⟨a, ?_⟩;refine s3_t B3 fun u6 k B3=> ?_;obtain ⟨B1,B2⟩:=up2 k B1 B2;obtain ⟨A,X⟩:=axu2 k g3 A X;refine yu B3 ?_;replace h:=h _ X A;exact ⟨A,h⟩
theorem Vh (aa:Bool) (ab:Slc) (ac:Slc) (w:World) (R:Ending→World→Prop) (h:xw w w fun w1=>(kI 10 #[uR aa ab ac] w1 fun w2 x1=>Ahead w1 w2∧(br (x1 !=0) (xw w w2 fun w3=>(R (.returned (uR (!aa) ab ac)) w3)) (xw w w2 fun w4=>(R (.returned (uR aa ab ac)) w4))))):Calls pr 58 #[uR aa ab ac] w (fun e_ w_=>Ahead w w_∧R e_ w_):=by
 refine Vi aa ab ac w _ ?_
 ·have A:Ahead w w:=Ahead.refl w
  have X:Ext w w:=Ext.refl w
  refine zn fun bk1 u1 hb a _ B1=> ?_;have g1:=zj A.size hb;obtain ⟨A,X⟩:=axa2 a A X;refine zn fun bk2 u2 hb a _ B2=> ?_;have g2:=zj A.size hb;have l1_2:=lt1 hb B1;replace B1:=B1.ahead a;obtain ⟨A,X⟩:=axa2 a A X;refine yu B1 ?_;replace h:=h _ X A;refine Calls.mono h ?_;clear h;rintro e1 w2 ⟨x1,he_,a,h⟩;refine ⟨x1,he_, ?_⟩;clear he_;obtain ⟨B1,B2⟩:=ah2 a B1 B2;obtain ⟨A,X⟩:=axr2 a A;refine zv h (fun h_=> ?_) (fun h_=> ?_)
  ·replace h:=h_;clear h_;refine yt 0 B1 rfl ?_;refine uh 0 B1 rfl rfl rfl fun u3 k_u3 B1_=> ?_;replace B1:Blt u3 bk1 34 #[Value.bool (!aa),ab.v,ac.v]:=B1_;clear B1_;replace B2:=up1 k_u3 B2;obtain ⟨A,X⟩:=axu2 k_u3 g1 A X;refine yu B1 ?_;refine s3_t B2 fun u4 k B2=> ?_;replace B1:=up1 k B1;obtain ⟨A,X⟩:=axu2 k g2 A X;refine yu B2 ?_;replace h:=h _ X A;exact ⟨A,h⟩
  ·replace h:=h_;clear h_;refine yu B1 ?_;refine s3_t B2 fun u5 k B2=> ?_;replace B1:=up1 k B1;obtain ⟨A,X⟩:=axu2 k g2 A X;refine yu B2 ?_;replace h:=h _ X A;exact ⟨A,h⟩
theorem Yn (aa:Bool) (ab:Slc) (ac:Slc) (w:World) (R:Ending→World→Prop) (h:xw w w fun w1=>(kB 40 #[ab.v] w1 fun w2 b1=>Ahead w1 w2∧(br b1 (kS 56 #[vi 1] w2 fun w3 s1=>Ahead w2 w3∧(xw w w3 fun w4=>(R (.returned (uR (false) nSl s1)) w4))) (kS 89 #[ab.v,ac.v] w2 fun w5 s2=>Ahead w2 w5∧(Calls pr 90 #[ab.v,s2.v] w5 fun e4 w6=>∃s3:Slc,∃s4:Slc,e4= .returned (.tuple #[s3.v,s4.v])∧Ahead w5 w6∧(Calls pr 90 #[ac.v,s2.v] w6 fun e5 w7=>∃s5:Slc,∃s6:Slc,e5= .returned (.tuple #[s5.v,s6.v])∧Ahead w6 w7∧(xw w w7 fun w8=>(R (.returned (uR aa s3 s5)) w8)))))))):Calls pr 44 (zR aa ab ac) w (fun e_ w_=>Ahead w w_∧R e_ w_):=by
 refine Yp aa ab ac w _ ?_
 ·have A:Ahead w w:=Ahead.refl w
  have X:Ext w w:=Ext.refl w
  refine zn fun bk1 u1 hb a _ B1=> ?_;have g1:=zj A.size hb;obtain ⟨A,X⟩:=axa2 a A X;replace h:=h _ X A;refine Calls.mono h ?_;clear h;rintro e1 w2 ⟨b1,he_,a,h⟩;refine ⟨b1,he_, ?_⟩;clear he_;replace B1:=B1.ahead a;obtain ⟨A,X⟩:=axr2 a A;refine zv h (fun h_=> ?_) (fun h_=> ?_)
  ·replace h:=h_;clear h_;refine Calls.mono h ?_;clear h;rintro e2 w3 ⟨s1,he_,a,h⟩;refine ⟨s1,he_, ?_⟩;clear he_;replace B1:=B1.ahead a;obtain ⟨A,X⟩:=axr2 a A;refine s3_t B1 fun u2 k B1=> ?_;obtain ⟨A,X⟩:=axu2 k g1 A X;refine yu B1 ?_;replace h:=h _ X A;exact ⟨A,h⟩
  ·replace h:=h_;clear h_;refine Calls.mono h ?_;clear h;rintro e3 w5 ⟨s2,he_,a,h⟩;refine ⟨s2,he_, ?_⟩;clear he_;replace B1:=B1.ahead a;obtain ⟨A,X⟩:=axr2 a A;refine Calls.mono h ?_;clear h;rintro e4 w6 ⟨s3,s4,he_,a,h⟩;refine ⟨s3,s4,he_, ?_⟩;clear he_;replace B1:=B1.ahead a;obtain ⟨A,X⟩:=axr2 a A;refine Calls.mono h ?_;clear h;rintro e5 w7 ⟨s5,s6,he_,a,h⟩;refine ⟨s5,s6,he_, ?_⟩;clear he_;replace B1:=B1.ahead a;obtain ⟨A,X⟩:=axr2 a A;refine s3_t B1 fun u3 k B1=> ?_;obtain ⟨A,X⟩:=axu2 k g1 A X;refine yu B1 ?_;replace h:=h _ X A;exact ⟨A,h⟩
end
section
open Go Go.RowKit Eng Sp Dg L2
namespace R7
open _root_.Go.Proofs.YtbeiopoejdkheaaGreatDoor.Ref (RN RN.ahead RN.ext RN.nil RN.n ks pe tg qp uz n9 me qh v7 qw)
open _root_.Go.Proofs.YtbeiopoejdkheaaGreatDoor.Rt (Zd qx qn)
open Dy
noncomputable def rv (w:World) (s:Slc):Nat:=by
  classical
  exact if h:∃m,RN w s m then Classical.choose h else 0
theorem zd0 {w:World} {s:Slc} {m:Nat} (h:RN w s m):rv w s=m:=by
  have hx:∃m,RN w s m:=⟨m,h⟩
  unfold rv
  rw [dif_pos hx]
  exact Yy two32 (zb8 (Zd (Classical.choose_spec hx) h))
theorem l32 {N m:Nat} (h:bl N≤32*m):(digs B32 N).length≤m:=by
 refine vk two32 ?_
 rw [Zr]
 exact qc.1 h
theorem nh (x y:Nat):bl (x*y)≤bl x+bl y:=by
 refine vw ?_
 rw [Nat.pow_add]
 exact Nat.mul_lt_mul'' (uv x) (uv y)
theorem zcz {w a b} {x y:Nat} (ha:RN w a x) (hb:RN w b y) (lx:bl x≤67108864) (ly:bl y≤67108864):Calls pr surdref01_Gcd_id #[a.v,b.v] w fun e w'=>Ahead w w'∧∃s,e= .returned (Slc.v s)∧RN w' s (Nat.gcd x y):=by
 refine Xt a b w _ (fun t0 t1 w'=>Ahead w w'∧∃x' y',RN w' t0 x'∧RN w' t1 y'∧bl x'≤67108864∧bl y'≤67108864∧Nat.gcd x' y'=Nat.gcd x y) (fun _ t1 w'=>rv w' t1)
  ⟨Ahead.refl _,x,y,ha,hb,lx,ly,rfl⟩ ?_
 rintro t0 t1 w1 ⟨h1,x',y',r0,r1,b0,b1,hg⟩
 refine Calls.mono (tg r1) ?_
 rintro e w2 ⟨rfl,rfl⟩
 refine ⟨_,rfl,zm (fun hz=> ?_) (fun hz=> ?_)⟩
 ·have hy:y'≠0:=fun h=>by rw [h] at hz;simp at hz
  have l0:=l32 (N:=x') (m:=2^22) (by omega)
  have l1:=l32 (N:=y') (m:=2^22) (by omega)
  refine Calls.mono (pe r0 r1 (by omega) (by omega) (by omega)) ?_
  rintro e w3 ⟨h3,q,r,rfl,rq,rr⟩
  have hlt:x' % y'<y':=Nat.mod_lt _ (by omega)
  refine ⟨_,_,rfl,⟨h1.trans h3,y',x' % y',r1.ahead h3,rr,b1,Nat.le_trans (yw (Nat.le_of_lt hlt)) b1, ?_⟩,by rw [zd0 rr,zd0 r1];exact hlt⟩
  rw [←hg,Nat.gcd_comm y',←Nat.gcd_rec,Nat.gcd_comm]
 ·have hy:y'=0:=by simpa using hz
  refine ⟨h1,_,rfl, ?_⟩
  rw [←hg,hy,Nat.gcd_zero_right];exact r0
def RV (w:World) (b:Bool) (s t:Slc) (p:Int) (q k:Nat):Prop:=0<q∧∃n d:Nat,RN w s n∧RN w t d∧0<d∧bl n≤k∧bl d≤k∧sg b n*(q:Int)=p*(d:Int)
theorem RV.ahead {w w' b s t} {p:Int} {q k:Nat} (h:RV w b s t p q k) (a:Ahead w w'):RV w' b s t p q k:=by
 obtain ⟨hq,n,d,h1,h2,h3⟩:=h;exact ⟨hq,n,d,h1.ahead a,h2.ahead a,h3⟩
theorem RV.ext {w w' b s t} {p:Int} {q k:Nat} (h:RV w b s t p q k) (a:Ext w w'):RV w' b s t p q k:=by
 obtain ⟨hq,n,d,h1,h2,h3⟩:=h;exact ⟨hq,n,d,h1.ext a,h2.ext a,h3⟩
theorem RV.mono {w b s t} {p:Int} {q k k':Nat} (h:RV w b s t p q k) (hk:k≤k'):RV w b s t p q k':=by
 obtain ⟨hq,n,d,h1,h2,h3,h4,h5,h6⟩:=h;exact ⟨hq,n,d,h1,h2,h3,by omega,by omega,h6⟩
theorem RV.conv {w b s t} {p p':Int} {q q' k:Nat} (h:RV w b s t p q k) (hq':0<q') (he:p*(q':Int)=p'*(q:Int)):RV w b s t p' q' k:=by
 obtain ⟨hq,n,d,h1,h2,h3,h4,h5,h6⟩:=h
 refine ⟨hq',n,d,h1,h2,h3,h4,h5, ?_⟩
 have hqz:(q:Int)≠0:=by omega
 apply Int.eq_of_mul_eq_mul_right hqz
 calc sg b n*(q':Int)*(q:Int)=sg b n*(q:Int)*(q':Int):=Int.mul_right_comm ..
  _=p*(d:Int)*(q':Int):=by rw [h6]
  _=p*(q':Int)*(d:Int):=Int.mul_right_comm ..
  _=p'*(q:Int)*(d:Int):=by rw [he]
  _=p'*(d:Int)*(q:Int):=Int.mul_right_comm ..
def RA (p:Int) (q k:Nat) (e:Ending) (w':World):Prop:=∃(b:Bool) (s t:Slc),e= .returned (.agg #[.bool b,s.v,t.v])∧RV w' b s t p q k
theorem U2 (a b:Bool) (n m:Nat):sg (!(a==b)) (n*m)=sg a n*sg b m:=by
 cases a<;>cases b<;>simp [sg,Int.neg_mul,Int.mul_neg]
theorem qf (a:Bool) (n m:Nat):sg a (n*m)=sg a n*(m:Int):=by
 cases a<;>simp [sg,Int.neg_mul]
theorem uq (a:Bool):sg a 0=0:=by cases a<;>rfl
theorem mi {w} {neg:Bool} {s t} {n d k:Nat} (hs:RN w s n) (ht:RN w t d) (hd:0<d) (hn:bl n≤k) (hdk:bl d≤k) (hk:k≤67108864):Calls pr surdref07_Make_id #[.bool neg,s.v,t.v] w fun e w'=>Ahead w w'∧RA (sg neg n) d k e w':=by
 have hbd:=vf (show d≠0 by omega)
 have ln:=l32 (N:=n) (m:=2^22) (by omega)
 have ld:=l32 (N:=d) (m:=2^22) (by omega)
 refine Yn neg s t w (RA (sg neg n) d k) fun w1 x1 a1=> ?_
 refine Calls.mono (tg (hs.ahead a1)) ?_
 rintro e w2 ⟨rfl,rfl⟩
 refine ⟨_,rfl,Ahead.refl _,zm (fun hz=> ?_) (fun hz=> ?_)⟩
 ·have hn0:=of_decide_eq_true hz
  refine Calls.mono (uz (v:=1) (by omega)) ?_
  rintro e w3 ⟨h3,u,rfl,ru⟩
  refine ⟨_,rfl,h3,fun w4 x4 a4=>⟨_,_,_,rfl,hd,0,1,RN.nil,ru.ext x4,by omega,by rw [xm];omega,by rw [qn];omega, ?_⟩⟩
  rw [hn0,uq,uq,Int.zero_mul,Int.zero_mul]
 ·have hn0:=of_decide_eq_false hz
  refine Calls.mono (zcz (hs.ahead a1) (ht.ahead a1) (by omega) (by omega)) ?_
  rintro e w5 ⟨h5,g,rfl,rg⟩
  have hg:0<Nat.gcd n d:=Nat.gcd_pos_of_pos_right _ hd
  obtain ⟨a,ea⟩:=Nat.gcd_dvd_left n d
  obtain ⟨c,ec⟩:=Nat.gcd_dvd_right n d
  have hgle:Nat.gcd n d≤d:=Nat.gcd_le_right _ hd
  generalize hG:Nat.gcd n d=G at*
  have lg:=l32 (N:=G) (m:=2^22) (by have:=yw hgle;omega)
  refine ⟨_,rfl,h5,Calls.mono (pe ((hs.ahead a1).ahead h5) rg hg (by omega) (by omega)) ?_⟩
  rintro e w6 ⟨h6,q,r,rfl,rq,rr⟩
  refine ⟨_,_,rfl,h6,Calls.mono (pe (((ht.ahead a1).ahead h5).ahead h6) (rg.ahead h6) hg (by omega) (by omega)) ?_⟩
  rintro e w7 ⟨h7,q2,r2,rfl,rq2,rr2⟩
  refine ⟨_,_,rfl,h7,fun w8 x8 a8=>⟨_,_,_,rfl,hd,_,_,(rq.ahead h7).ext x8,rq2.ext x8, ?_,Nat.le_trans (yw (Nat.div_le_self _ _)) hn,Nat.le_trans (yw (Nat.div_le_self _ _)) hdk, ?_⟩⟩
  ·rw [ec,Nat.mul_div_cancel_left _ hg]
   rcases Nat.eq_zero_or_pos c with h|h
   ·rw [h] at ec;omega
   ·exact h
  ·rw [ec,ea,Nat.mul_div_cancel_left _ hg,Nat.mul_div_cancel_left _ hg,←qf,←qf]
   congr 1
   ac_rfl
theorem ug {w} {b:Bool} {s} {t:Slc} {n:Nat} (hs:RN w s n):Calls pr surdref07_R_Sign_id #[.agg #[.bool b,s.v,t.v]] w fun e w'=>Ahead w w'∧e= .returned (.int .i64 (if n=0 then 0 else if b then -1 else 1)):=by
 refine cc b s t w (fun e w'=>e= .returned (.int .i64 (if n=0 then 0 else if b then -1 else 1))) fun w1 x1 a1=> ?_
 refine Calls.mono (tg (hs.ahead a1)) ?_
 rintro e w2 ⟨rfl,rfl⟩
 refine ⟨_,rfl,Ahead.refl _,zm (fun hz=> ?_) (fun hz=> ?_)⟩
 ·rw [if_pos (of_decide_eq_true hz)]
 ·rw [if_neg (of_decide_eq_false hz)]
  cases b
  ·exact zt rfl rfl
  ·exact yz rfl rfl
def sgZ (p:Int):Int:=if p=0 then 0 else if p<0 then -1 else 1
theorem Zw {b:Bool} {n d q:Nat} {p:Int} (hq:0<q) (hd:0<d) (h:sg b n*(q:Int)=p*(d:Int)):(if n=0 then 0 else if b then -1 else 1:Int)=sgZ p:=by
 have hqz:(0:Int)<q:=by omega
 have hdz:(0:Int)<d:=by omega
 by_cases hn:n=0
 ·rw [if_pos hn]
  rw [hn,uq,Int.zero_mul] at h
  have hp:p=0:=by
   rcases Int.mul_eq_zero.1 h.symm with h|h
   ·exact h
   ·omega
  rw [sgZ,if_pos hp]
 ·rw [if_neg hn]
  cases b
  ·have h1:0<sg false n:=by simp [sg];omega
   have h2:0<p*(d:Int):=by rw [←h];exact Int.mul_pos h1 hqz
   have h3:0<p:=by
    by_cases h4:0<p
    ·exact h4
    ·have:=Int.mul_nonpos_of_nonpos_of_nonneg (show p≤0 by omega) (Int.le_of_lt hdz);omega
   have e:sgZ p=1:=by rw [sgZ,if_neg (by omega),if_neg (by omega)]
   rw [e];rfl
  ·have h1:sg true n<0:=by simp [sg];omega
   have h2:p*(d:Int)<0:=by rw [←h];exact Int.mul_neg_of_neg_of_pos h1 hqz
   have h3:p<0:=by
    by_cases h4:p<0
    ·exact h4
    ·have:=Int.mul_nonneg (show 0≤p by omega) (Int.le_of_lt hdz);omega
   have e:sgZ p= -1:=by rw [sgZ,if_neg (by omega),if_pos h3]
   rw [e];rfl
theorem Hb {w b s t} {p:Int} {q k:Nat} (h:RV w b s t p q k):Calls pr surdref07_R_Sign_id #[.agg #[.bool b,s.v,t.v]] w fun e w'=>Ahead w w'∧e= .returned (.int .i64 (sgZ p)):=by
 obtain ⟨hq,n,d,h1,h2,h3,h4,h5,h6⟩:=h
 rw [←Zw hq h3 h6]
 exact ug h1
end R7
end
section
open Go Go.RowKit Eng
open _root_.Go.IntKind (wrap)
theorem Qe (ac:Bool) (ad:Slc) (ae:Int) (af:Bool) (ag:Slc) (ah:Int) (ab:Int) (aa:Int) (w:World) (R:Ending→World→Prop) (h:newC w (zD ac ad ae) 27 fun ad1 w1=>newC w1 (zD af ag ah) 27 fun ad2 w2=>newC w2 (zD false nSl 0) 27 fun ad3 w3=>ld3 ad1 w3 fun b1 s1 x1=>kU 41 #[uD b1 s1 x1] w3 fun w4 b2 s2 x2 x3=>(newC w4 (zD false nSl 0) 72 fun ad4 w5=>xD ad4 b2 s2 x2 w5 fun w8=>br (x3 !=0) (xt3 ad3 (.bool false) nSl.v (vi 0) w8 fun w11=>ld3 ad3 w11 fun b3 s3 x4=>R (.returned (.tuple #[uD b3 s3 x4,vi x3])) w11) (ld3 ad2 w8 fun b4 s4 x5=>kU 41 #[uD b4 s4 x5] w8 fun w12 b5 s5 x6 x7=>(newC w12 (zD false nSl 0) 72 fun ad5 w13=>xD ad5 b5 s5 x6 w13 fun w16=>br (x7 !=0) (xt3 ad3 (.bool false) nSl.v (vi 0) w16 fun w19=>ld3 ad3 w19 fun b6 s6 x8=>R (.returned (.tuple #[uD b6 s6 x8,vi x7])) w19) (kI 42 #[vi ab,vi aa] w16 fun w20 x9=>(br (x9 !=0) (xt3 ad3 (.bool false) nSl.v (vi 0) w20 fun w23=>ld3 ad3 w23 fun b7 s7 x10=>R (.returned (.tuple #[uD b7 s7 x10,vi x9])) w23) (ldS (ad5.add 1) w20 fun s8=>br ((s8.n:Int)==0) (xt3 ad3 (.bool false) nSl.v (vi 0) w20 fun w26=>ld3 ad3 w26 fun b8 s9 x11=>R (.returned (.tuple #[uD b8 s9 x11,vi 90])) w26) (ldB ad4 w20 fun b9=>ldB ad5 w20 fun b10=>ldS (ad4.add 1) w20 fun s10=>ldS (ad5.add 1) w20 fun s11=>ldI .i64 (ad4.add 2) w20 fun x12=>ldI .i64 (ad5.add 2) w20 fun x13=>kU 43 #[.bool (!(b9==b10)),s10.v,s11.v,vi (wrap .i64 (x12 -x13)),vi ab,vi aa] w20 fun w27 b11 s12 x14 x15=>(xD ad3 b11 s12 x14 w27 fun w30=>ld3 ad3 w30 fun b12 s13 x16=>R (.returned (.tuple #[uD b12 s13 x16,vi x15])) w30))))))))):Calls pr 11 #[uD ac ad ae,uD af ag ah,vi ab,vi aa] w R:=by
 refine zk (fun _=>none) (by kernel_rfl) Tryz.func11 rfl ?_ ?_
 ·refine kcast h ?_;kernel_rfl
 ·exact (za rfl (ze (za rfl (ze (za rfl (za rfl (ze (zh (za rfl (ze (zg (zi (za rfl (ze (za rfl (za rfl (ze (zh (za rfl (ze (zg (zi (za rfl (za rfl (ze (za rfl (ze (zh (za rfl (ze (zg (zi (za rfl (za rfl (ze (zh (za rfl (ze (zg (zi (za rfl (ze (zg trivial)))))))))))))))))))))))))))))))))))))))))))
theorem Uy (aa:Bool) (ab:Slc) (ac:Int) (w:World) (R:Ending→World→Prop) (h:newC w (zD aa ab ac) 27 fun ad1 w1=>newC w1 (zD false nSl 0) 72 fun ad2 w2=>ldI .i64 (ad1.add 2) w2 fun x1=>br (decide (x1<(-1099511627776))) (xt3 ad2 (.bool false) nSl.v (vi 0) w2 fun w5=>ld3 ad2 w5 fun b1 s1 x2=>R (.returned (.tuple #[uD b1 s1 x2,vi 80])) w5) (ldI .i64 (ad1.add 2) w2 fun x3=>br (decide (x3>1099511627776)) (xt3 ad2 (.bool false) nSl.v (vi 0) w2 fun w8=>ld3 ad2 w8 fun b2 s2 x4=>R (.returned (.tuple #[uD b2 s2 x4,vi 80])) w8) (ldS (ad1.add 1) w2 fun s3=>kS 85 #[s3.v] w2 fun w9 s4=>(br ((s4.n:Int)==0) (xt3 ad2 (.bool false) nSl.v (vi 0) w9 fun w12=>ld3 ad2 w12 fun b3 s5 x5=>R (.returned (.tuple #[uD b3 s5 x5,vi 0])) w12) (kI 49 #[s4.v] w9 fun w13 x6=>(ldB ad1 w13.drew fun b4=>ldI .i64 (ad1.add 2) w13.drew fun x7=>kS 50 #[s4.v,vi x6] w13.drew fun w14 s6=>(Ahead w13.drew w14∧(xD ad2 b4 s6 (wrap .i64 (x7+x6)) w14 fun w17=>ld3 ad2 w17 fun b5 s7 x8=>R (.returned (.tuple #[uD b5 s7 x8,vi 0])) w17)))))))):Calls pr 41 #[uD aa ab ac] w R:=by
 refine zk (fun _=>none) (by kernel_rfl) Tryz.func41 rfl ?_ ?_
 ·refine kcast h ?_;kernel_rfl
 ·exact (za rfl (ze (za rfl (za rfl (ze (zh (za rfl (ze (zg (zi (za rfl (ze (za rfl (za rfl (ze (zh (za rfl (ze (zg (zi (za rfl (ze (za rfl (yy (by kernel_rfl) (by kernel_rfl) (by kernel_rfl) (zg trivial)))))))))))))))))))))))))
theorem Xd (aa:Int) (ab:Int) (w:World) (R:Ending→World→Prop) (h:br (decide (aa<(-1099511627776))) (R (.returned (vi 1)) w) (br (decide (aa>1099511627776)) (R (.returned (vi 1)) w) (br (decide (ab<0)) (R (.returned (vi 81)) w) (br (decide (ab>2)) (R (.returned (vi 81)) w) (R (.returned (vi 0)) w))))):Calls pr 42 #[vi aa,vi ab] w R:=by
 refine zk (fun _=>none) (by kernel_rfl) Tryz.func42 rfl ?_ ?_
 ·refine kcast h ?_;kernel_rfl
 ·exact (za rfl (ze (za rfl (yh rfl (za rfl (ze (zh (za rfl (ze (zg (za rfl (ze (zh (za rfl (ze (zg (zi (za rfl (ze (zg trivial))))))))))))))))))))
def mu (K15:Bool→Slc→Slc→Int→Int→Addr→World→Prop):Nat→Option ((Act→World→Prop)×(Act→World→Nat))
 |3000015=>some (fun a_ w_=>atSz a_ 106 (atB a_ 0 fun t0=>atS a_ 1 fun t1=>atS a_ 2 fun t2=>atI .i64 a_ 4 fun t4=>atI .i64 a_ 5 fun t5=>atA a_ 12 fun t12=>K15 t0 t1 t2 t4 t5 t12 w_),fun _ _=>0)
 |_=>none
theorem dw (a0:Bool) (a1:Slc) (a2:Slc) (a3:Int) (a4:Int) (a5:Int) (w:World) (R:Ending→World→Prop) (K15:Bool→Slc→Slc→Int→Int→Addr→World→Prop) (h:newC w (zD false nSl 0) 27 fun ad1 w1=>br ((a1.n:Int)==0) (xt3 ad1 (.bool false) nSl.v (vi 0) w1 fun w4=>ld3 ad1 w4 fun b1 s1 x1=>R (.returned (.tuple #[uD b1 s1 x1,vi 0])) w4) (kI 46 #[a1.v] w1 fun w5 x2=>(kI 46 #[a2.v] w5 fun w6 x3=>(br (decide ((wrap .i64 ((wrap .i64 (x2 -x3))+(wrap .i64 (a3 -a4))))>67108865)) (xt3 ad1 (.bool false) nSl.v (vi 0) w6 fun w9=>ld3 ad1 w9 fun b2 s2 x4=>R (.returned (.tuple #[uD b2 s2 x4,vi 3])) w9) (br (decide ((wrap .i64 ((wrap .i64 (x2 -x3))+(wrap .i64 (a3 -a4))))<(-2))) (kU 47 #[.bool a0,nSl.v,vi 1,vi a4,vi a5] w6 fun w10 b3 s3 x5 x6=>(xD ad1 b3 s3 x5 w10 fun w13=>ld3 ad1 w13 fun b4 s4 x7=>R (.returned (.tuple #[uD b4 s4 x7,vi x6])) w13)) (br (decide ((wrap .i64 (a3 -a4))≥0)) (kI 49 #[a2.v] w6 fun w14 x8=>(kS 48 #[a1.v,vi (wrap .i64 ((wrap .i64 (a3 -a4)) -(minI (wrap .i64 (a3 -a4)) x8)))] w14 fun w15 s5=>(kS 50 #[a2.v,vi (minI (wrap .i64 (a3 -a4)) x8)] w15 fun w16 s6=>(K15 a0 s5 s6 a4 a5 ad1 w16)))) (kI 49 #[a1.v] w6 fun w33 x18=>(kS 50 #[a1.v,vi (minI (wrap .i64 (0 -(wrap .i64 (a3 -a4)))) x18)] w33 fun w34 s16=>(kS 48 #[a2.v,vi (wrap .i64 ((wrap .i64 (0 -(wrap .i64 (a3 -a4)))) -(minI (wrap .i64 (0 -(wrap .i64 (a3 -a4)))) x18)))] w34 fun w35 s17=>(K15 a0 s16 s17 a4 a5 ad1 w35)))))))))) (ac:∀t0 t1 t2 t4 t5 t12 w_,K15 t0 t1 t2 t4 t5 t12 w_→Calls pr 86 #[t1.v,t2.v] w_ fun e7 w17=>∃s7:Slc,∃x9:Int,e7= .returned (.tuple #[s7.v,vi x9])∧(br (x9 !=0) (xt3 t12 (.bool false) nSl.v (vi 0) w17 fun w20=>ld3 t12 w20 fun b5 s8 x10=>R (.returned (.tuple #[uD b5 s8 x10,vi x9])) w20) (kS 88 #[s7.v,t2.v] w17 fun w21 s9=>(kS 87 #[t1.v,s9.v] w21 fun w22 s10=>(br (decide ((s10.n:Int)>0)) (kS 48 #[s10.v,vi 1] w22 fun w23 s11=>(kI 81 #[s11.v,t2.v] w23 fun w24 x11=>(kU 47 #[.bool t0,s7.v,vi (wrap .i64 (2+x11)),vi t4,vi t5] w24 fun w25 b6 s12 x12 x13=>(xD t12 b6 s12 x12 w25 fun w28=>ld3 t12 w28 fun b7 s13 x14=>R (.returned (.tuple #[uD b7 s13 x14,vi x13])) w28)))) (kU 47 #[.bool t0,s7.v,vi 0,vi t4,vi t5] w22 fun w29 b8 s14 x15 x16=>(xD t12 b8 s14 x15 w29 fun w32=>ld3 t12 w32 fun b9 s15 x17=>R (.returned (.tuple #[uD b9 s15 x17,vi x16])) w32))))))):Calls pr 43 #[.bool a0,a1.v,a2.v,vi a3,vi a4,vi a5] w R:=by
 refine zk (mu K15) (by kernel_rfl) Tryz.func43 rfl ?_ ?_
 ·refine kcast h ?_;kernel_rfl
 ·exact (za rfl (ze (za rfl (za rfl (ze (zh (za rfl (ze (zg (zi (za rfl (ze (za rfl (ze (za rfl (za rfl (ze (zh (za rfl (ze (zg (zi (za rfl (za rfl (ze (zh (za rfl (ze (zg (zi (xr _ rfl (za rfl (ze (zh (za rfl (ze (ze (za rfl (ze (ze trivial))))))))) (fun a_ w_ aa=>(by
  obtain ⟨ae,af,aa⟩:=ya aa
  obtain ⟨t0,ag,aa⟩:=th aa
  obtain ⟨t1,ah,aa⟩:=zr aa
  obtain ⟨t2,ai,aa⟩:=zr aa
  obtain ⟨t4,aj,aa⟩:=zq aa
  obtain ⟨t5,ak,aa⟩:=zq aa
  obtain ⟨t12,ad,aa⟩:=yf aa
  obtain ⟨al,rfl⟩:∃g,a_=Fr 106 [(0,Value.bool t0),(1,t1.v),(2,t2.v),(4,vi t4),(5,vi t5),(12,vp t12)] g:=⟨_,yp ae af _ (zf ag (zf ah (zf ai (zf aj (zf ak (zf ad yc))))))⟩
  clear ae af ag ah ai aj ak ad
  have ab:=aa
  refine ⟨(mu K15),kcast (ac t0 t1 t2 t4 t5 t12 w_ ab) ?_, ?_⟩
  ·kernel_rfl
  ·exact (za rfl (ze (za rfl (za rfl (ze (zh (za rfl (ze (zg (zi (za rfl (ze (za rfl (ze (za rfl (za rfl (ze (zh (ze (zi (za rfl (ze (zg trivial))))))))))))))))))))))))))))))))))))))))))))))))))))))))
def kt (K7:Bool→Slc→Int→Addr→World→Prop):Nat→Option ((Act→World→Prop)×(Act→World→Nat))
 |3000007=>some (fun a_ w_=>atSz a_ 54 (atB a_ 0 fun t0_neg=>atS a_ 1 fun t1_q=>atI .i64 a_ 3 fun t3_pos=>atA a_ 10 fun t10=>K7 t0_neg t1_q t3_pos t10 w_),fun _ _=>0)
 |_=>none
theorem Z7 (ae:Bool) (ah:Slc) (af:Int) (ag:Int) (ak:Int) (w:World) (R:Ending→World→Prop) (K7:Bool→Slc→Int→Addr→World→Prop) (h:newC w (zD false nSl 0) 27 fun ad1 w1=>Calls pr 93 #[vi ak] w1 fun e1 w2=>∃v1:Value,e1= .returned v1∧(callX pr v1 (zD ae ah af) w2 fun e2 w3=>jB e2 fun b1=>(br b1 (kS 84 #[.int .u64 1] w3 fun w4 s1=>(Calls pr 94 #[ah.v,s1.v] w4 fun e4 w5=>∃s2:Slc,∃x1:Int,e4= .returned (.tuple #[s2.v,vi x1])∧(br (x1 !=0) (xt3 ad1 (.bool false) nSl.v (vi 0) w5 fun w8=>ld3 ad1 w8 fun b2 s3 x2=>R (.returned (.tuple #[uD b2 s3 x2,vi x1])) w8) (K7 ae s2 ag ad1 w5)))) (K7 ae ah ag ad1 w3)))) (aj:∀ab ac aa t10 w_,K7 ab ac aa t10 w_→kI 46 #[ac.v] w_ fun w9 x3=>(br (decide (x3>67108864)) (xt3 t10 (.bool false) nSl.v (vi 0) w9 fun w12=>ld3 t10 w12 fun b3 s4 x4=>R (.returned (.tuple #[uD b3 s4 x4,vi 3])) w12) (br ((ac.n:Int)==0) (xt3 t10 (.bool false) nSl.v (vi 0) w9 fun w15=>ld3 t10 w15 fun b4 s5 x5=>R (.returned (.tuple #[uD b4 s5 x5,vi 0])) w15) (kI 49 #[ac.v] w9 fun w16 x6=>(br (decide ((wrap .i64 (aa+x6))>1099511627776)) (xt3 t10 (.bool false) nSl.v (vi 0) w16 fun w19=>ld3 t10 w19 fun b5 s6 x7=>R (.returned (.tuple #[uD b5 s6 x7,vi 80])) w19) (kS 50 #[ac.v,vi x6] w16 fun w20 s7=>(xD t10 ab s7 (wrap .i64 (aa+x6)) w20 fun w23=>ld3 t10 w23 fun b6 s8 x8=>R (.returned (.tuple #[uD b6 s8 x8,vi 0])) w23))))))):Calls pr 47 #[.bool ae,ah.v,vi af,vi ag,vi ak] w R:=by
 refine zk (kt K7) (by kernel_rfl) Tryz.func47 rfl ?_ ?_
 ·refine kcast h ?_;kernel_rfl
 ·exact (za rfl (ze (xr _ rfl (za rfl (ze (zh (za rfl (ze (za rfl (ze (za rfl (ze (zh (za rfl (ze (zg (zi (zi trivial))))))))))))))) (fun a_ w_ ad=>(by
  obtain ⟨am,an,ad⟩:=ya ad
  obtain ⟨ab,ao,ad⟩:=th ad
  obtain ⟨ac,ap,ad⟩:=zr ad
  obtain ⟨aa,aq,ad⟩:=zq ad
  obtain ⟨t10,al,ad⟩:=yf ad
  obtain ⟨ar,rfl⟩:∃g,a_=Fr 54 [(0,Value.bool ab),(1,ac.v),(3,vi aa),(10,vp t10)] g:=⟨_,yp am an _ (zf ao (zf ap (zf aq (zf al yc))))⟩
  clear am an ao ap aq al
  have ai:=ad
  refine ⟨(kt K7),kcast (aj ab ac aa t10 w_ ai) ?_, ?_⟩
  ·kernel_rfl
  ·exact (za rfl (za rfl (ze (zh (za rfl (ze (zg (zi (za rfl (za rfl (ze (zh (za rfl (ze (zg (zi (za rfl (ze (za rfl (za rfl (ze (zh (za rfl (ze (zg (zi (za rfl (ze (zg trivial))))))))))))))))))))))))))))))))))
def Xf (J0:Int→Slc→Slc→Int→Int→World→Prop) (m0:Int→Slc→Slc→Int→Int→World→Nat):Nat→Option ((Act→World→Prop)×(Act→World→Nat))
 |0=>some (fun a_ w_=>atSz a_ 59 (atI .i64 a_ 1 fun t1_n=>atS a_ 5 fun t5_c=>atS a_ 18 fun t18=>atI .i64 a_ 19 fun t19=>atI .i64 a_ 20 fun t20=>J0 t1_n t5_c t18 t19 t20 w_),fun a_ w_=>mI a_ 1 fun t1_n=>mS a_ 5 fun t5_c=>mS a_ 18 fun t18=>mI a_ 19 fun t19=>mI a_ 20 fun t20=>m0 t1_n t5_c t18 t19 t20 w_)
 |_=>none
theorem Uw (ad:Slc) (ae:Int) (w:World) (R:Ending→World→Prop) (J0:Int→Slc→Slc→Int→Int→World→Prop) (m0:Int→Slc→Slc→Int→Int→World→Nat) (h:br ((ad.n:Int)==0) (R (.returned nSl.v) w) (semS pr (Instr.makeSlice 23 (vi (wrap .i64 ((wrap .i64 ((wrap .i64 (Int.tdiv ae 64))+(ad.n:Int)))+1))) (vi (wrap .i64 ((wrap .i64 ((wrap .i64 (Int.tdiv ae 64))+(ad.n:Int)))+1)))) w fun s1 w1=>J0 ae s1 ad (ad.n:Int) 0 w1)) (h0:∀aa ab t18 t19 t20 w_,J0 aa ab t18 t19 t20 w_→br (decide (t20<t19)) (semA pr (Instr.indexAt 23 t18.v (vi t20)) w_ fun ad1 w2=>ldI .u64 ad1 w2 fun x1=>semA pr (Instr.indexAt 23 ab.v (vi (wrap .i64 ((wrap .i64 (Int.tdiv aa 64))+t20)))) w2 fun ad2 w3=>ldI .u64 ad2 w3 fun x2=>semI pr .u64 (binOp .shl 65 (.int .u64 x1) (.int .u64 (wrap .u64 (Int.tmod aa 64)))) w3 fun x3 w4=>semA pr (Instr.indexAt 23 ab.v (vi (wrap .i64 ((wrap .i64 (Int.tdiv aa 64))+t20)))) w4 fun ad3 w5=>stC ad3 (.int .u64 (orI .u64 x2 x3)) w5 fun w6=>semA pr (Instr.indexAt 23 ab.v (vi (wrap .i64 ((wrap .i64 ((wrap .i64 (Int.tdiv aa 64))+t20))+1)))) w6 fun ad4 w7=>ldI .u64 ad4 w7 fun x4=>semI pr .u64 (binOp .shr 65 (.int .u64 (Int.fdiv x1 (2^(1:Nat)))) (.int .u64 (wrap .u64 (wrap .i64 (63 -(Int.tmod aa 64)))))) w7 fun x5 w8=>semA pr (Instr.indexAt 23 ab.v (vi (wrap .i64 ((wrap .i64 ((wrap .i64 (Int.tdiv aa 64))+t20))+1)))) w8 fun ad5 w9=>stC ad5 (.int .u64 (orI .u64 x4 x5)) w9 fun w10=>J0 aa ab t18 t19 (wrap .i64 (t20+1)) w10∧m0 aa ab t18 t19 (wrap .i64 (t20+1)) w10<m0 aa ab t18 t19 t20 w_) (kS 85 #[ab.v] w_ fun w11 s2=>(R (.returned s2.v) w11))):Calls pr 48 #[ad.v,vi ae] w R:=by
 refine zk (Xf J0 m0) (by kernel_rfl) Tryz.func48 rfl ?_ ?_
 ·refine kcast h ?_;kernel_rfl
 ·exact (za rfl (ze (za rfl (za rfl (ze (zh (za rfl (ze (zg (zi (za rfl (ze (za rfl (za rfl (ze (yg _ rfl (fun a_ w_ ac=>(by
  obtain ⟨ai,aj,ac⟩:=ya ac
  obtain ⟨aa,ak,ac⟩:=zq ac
  obtain ⟨ab,al,ac⟩:=zr ac
  obtain ⟨t18,af,ac⟩:=zr ac
  obtain ⟨t19,ag,ac⟩:=zq ac
  obtain ⟨t20,ah,ac⟩:=zq ac
  obtain ⟨g0,rfl⟩:∃g,a_=Fr 59 [(1,vi aa),(5,ab.v),(18,t18.v),(19,vi t19),(20,vi t20)] g:=⟨_,yp ai aj _ (zf ak (zf al (zf af (zf ag (zf ah yc)))))⟩
  clear ai aj ak al af ag ah
  have am:=ac
  refine ⟨(fun _=>none),kcast (h0 aa ab t18 t19 t20 w_ am) ?_, ?_⟩
  ·kernel_rfl
  ·exact (za rfl (ze (za rfl (zh (zi (ye (za rfl (yh rfl (za rfl (ze (za rfl (ze (ze (ze trivial)))))))))))))))) (za rfl (ze (zg trivial)))))))))))))))))))
def Z9 (J0:Int→Slc→Int→Int→World→Prop) (m0:Int→Slc→Int→Int→World→Nat):Nat→Option ((Act→World→Prop)×(Act→World→Nat))
 |0=>some (fun a_ w_=>atSz a_ 56 (atI .i64 a_ 1 fun t1_n=>atS a_ 5 fun t5_c=>atI .i64 a_ 18 fun t18=>atI .i64 a_ 19 fun t19=>J0 t1_n t5_c t18 t19 w_),fun a_ w_=>mI a_ 1 fun t1_n=>mS a_ 5 fun t5_c=>mI a_ 18 fun t18=>mI a_ 19 fun t19=>m0 t1_n t5_c t18 t19 w_)
 |_=>none
theorem Xh (ae:Slc) (ad:Int) (w:World) (R:Ending→World→Prop) (J0:Int→Slc→Int→Int→World→Prop) (m0:Int→Slc→Int→Int→World→Nat) (h:br (decide ((wrap .i64 (Int.tdiv ad 64))≥(ae.n:Int))) (R (.returned nSl.v) w) (semS pr (Instr.sliceAt 23 ae.v (some (vi (wrap .i64 (Int.tdiv ad 64)))) none none) w fun s1 w1=>semS pr (Builtin.append_ #[23,23] 23 #[nSl.v,s1.v]) w1 fun s2 w2=>J0 ad s2 (s2.n:Int) 0 w2)) (h0:∀ab aa t18 t19 w_,J0 ab aa t18 t19 w_→br (decide (t19<t18)) (semA pr (Instr.indexAt 23 aa.v (vi t19)) w_ fun ad1 w3=>ldI .u64 ad1 w3 fun x1=>semI pr .u64 (binOp .shr 65 (.int .u64 x1) (.int .u64 (wrap .u64 (Int.tmod ab 64)))) w3 fun x2 w4=>semA pr (Instr.indexAt 23 aa.v (vi t19)) w4 fun ad2 w5=>stC ad2 (.int .u64 x2) w5 fun w6=>br (decide ((wrap .i64 (t19+1))<(aa.n:Int))) (fixA pr (Instr.indexAt 23 aa.v (vi t19)) w6 fun ad3=>ldI .u64 ad3 w6 fun x3=>fixA pr (Instr.indexAt 23 aa.v (vi (wrap .i64 (t19+1)))) w6 fun ad4=>ldI .u64 ad4 w6 fun x4=>fixI pr .u64 (binOp .shl 65 (.int .u64 (wrap .u64 (x4*2^(1:Nat)))) (.int .u64 (wrap .u64 (wrap .i64 (63 -(Int.tmod ab 64)))))) w6 fun x5=>fixA pr (Instr.indexAt 23 aa.v (vi t19)) w6 fun ad5=>stC ad5 (.int .u64 (orI .u64 x3 x5)) w6.drew fun w7=>J0 ab aa t18 (wrap .i64 (t19+1)) w7∧m0 ab aa t18 (wrap .i64 (t19+1)) w7<m0 ab aa t18 t19 w_) (J0 ab aa t18 (wrap .i64 (t19+1)) w6∧m0 ab aa t18 (wrap .i64 (t19+1)) w6<m0 ab aa t18 t19 w_)) (kS 85 #[aa.v] w_ fun w8 s3=>(R (.returned s3.v) w8))):Calls pr 50 #[ae.v,vi ad] w R:=by
 refine zk (Z9 J0 m0) (by kernel_rfl) Tryz.func50 rfl ?_ ?_
 ·refine kcast h ?_;kernel_rfl
 ·exact (za rfl (ze (za rfl (za rfl (ze (zh (za rfl (ze (zg (zi (za rfl (ze (za rfl (za rfl (ze (yg _ rfl (fun a_ w_ ac=>(by
  obtain ⟨ah,ai,ac⟩:=ya ac
  obtain ⟨ab,aj,ac⟩:=zq ac
  obtain ⟨aa,ak,ac⟩:=zr ac
  obtain ⟨t18,af,ac⟩:=zq ac
  obtain ⟨t19,ag,ac⟩:=zq ac
  obtain ⟨g0,rfl⟩:∃g,a_=Fr 56 [(1,vi ab),(5,aa.v),(18,vi t18),(19,vi t19)] g:=⟨_,yp ah ai _ (zf aj (zf ak (zf af (zf ag yc))))⟩
  clear ah ai aj ak af ag
  have al:=ac
  refine ⟨(fun _=>none),kcast (h0 ab aa t18 t19 w_ al) ?_, ?_⟩
  ·kernel_rfl
  ·exact (za rfl (ze (za rfl (zh (zi (ye (za rfl (yh rfl (za rfl (ze (za rfl (ze (za rfl (ze (zh (jq 17 (by kernel_rfl) (by kernel_rfl) (by kernel_rfl) (by kernel_rfl) (by kernel_rfl) (zi (ze trivial)))))))))))))))))))) (za rfl (ze (zg trivial)))))))))))))))))))
def Z8 (J0:Slc→Slc→Int→Int→Int→World→Prop) (m0:Slc→Slc→Int→Int→Int→World→Nat):Nat→Option ((Act→World→Prop)×(Act→World→Nat))
 |0=>some (fun a_ w_=>atSz a_ 52 (atS a_ 1 fun t1_b=>atS a_ 5 fun t5_c=>atI .u64 a_ 6 fun t6_borrow=>atI .i64 a_ 13 fun t13=>atI .i64 a_ 14 fun t14=>J0 t1_b t5_c t6_borrow t13 t14 w_),fun a_ w_=>mS a_ 1 fun t1_b=>mS a_ 5 fun t5_c=>mI a_ 6 fun t6_borrow=>mI a_ 13 fun t13=>mI a_ 14 fun t14=>m0 t1_b t5_c t6_borrow t13 t14 w_)
 |_=>none
theorem Xg (ae:Slc) (af:Slc) (w:World) (R:Ending→World→Prop) (J0:Slc→Slc→Int→Int→Int→World→Prop) (m0:Slc→Slc→Int→Int→Int→World→Nat) (h:semS pr (Builtin.append_ #[23,23] 23 #[nSl.v,ae.v]) w fun s1 w1=>J0 af s1 0 (s1.n:Int) 0 w1) (h0:∀ac ab aa t13 t14 w_,J0 ac ab aa t13 t14 w_→br (decide (t14<t13)) (br (decide (t14<(ac.n:Int))) (semA pr (Instr.indexAt 23 ac.v (vi t14)) w_ fun ad1 w2=>ldI .u64 ad1 w2 fun x1=>semA pr (Instr.indexAt 23 ab.v (vi t14)) w2 fun ad2 w3=>ldI .u64 ad2 w3 fun x2=>semA pr (Instr.indexAt 23 ab.v (vi t14)) w3 fun ad3 w4=>stC ad3 (.int .u64 (wrap .u64 ((wrap .u64 (x2 -x1)) -aa))) w4 fun w5=>br (decide (x2<x1)) (J0 ac ab 1 t13 (wrap .i64 (t14+1)) w5∧m0 ac ab 1 t13 (wrap .i64 (t14+1)) w5<m0 ac ab aa t13 t14 w_) (br (x2==x1) (br (aa==1) (J0 ac ab 1 t13 (wrap .i64 (t14+1)) w5∧m0 ac ab 1 t13 (wrap .i64 (t14+1)) w5<m0 ac ab aa t13 t14 w_) (J0 ac ab 0 t13 (wrap .i64 (t14+1)) w5∧m0 ac ab 0 t13 (wrap .i64 (t14+1)) w5<m0 ac ab aa t13 t14 w_)) (J0 ac ab 0 t13 (wrap .i64 (t14+1)) w5∧m0 ac ab 0 t13 (wrap .i64 (t14+1)) w5<m0 ac ab aa t13 t14 w_))) (semA pr (Instr.indexAt 23 ab.v (vi t14)) w_ fun ad4 w6=>ldI .u64 ad4 w6 fun x3=>semA pr (Instr.indexAt 23 ab.v (vi t14)) w6 fun ad5 w7=>stC ad5 (.int .u64 (wrap .u64 ((wrap .u64 (x3 -0)) -aa))) w7 fun w8=>br (decide (x3<0)) (J0 ac ab 1 t13 (wrap .i64 (t14+1)) w8∧m0 ac ab 1 t13 (wrap .i64 (t14+1)) w8<m0 ac ab aa t13 t14 w_) (br (x3==0) (br (aa==1) (J0 ac ab 1 t13 (wrap .i64 (t14+1)) w8∧m0 ac ab 1 t13 (wrap .i64 (t14+1)) w8<m0 ac ab aa t13 t14 w_) (J0 ac ab 0 t13 (wrap .i64 (t14+1)) w8∧m0 ac ab 0 t13 (wrap .i64 (t14+1)) w8<m0 ac ab aa t13 t14 w_)) (J0 ac ab 0 t13 (wrap .i64 (t14+1)) w8∧m0 ac ab 0 t13 (wrap .i64 (t14+1)) w8<m0 ac ab aa t13 t14 w_)))) (kS 85 #[ab.v] w_ fun w9 s2=>(R (.returned s2.v) w9))):Calls pr 87 #[ae.v,af.v] w R:=by
 refine zk (Z8 J0 m0) (by kernel_rfl) Tryz.func87 rfl ?_ ?_
 ·refine kcast h ?_;kernel_rfl
 ·exact (za rfl (ze (za rfl (ze (za rfl (ze (za rfl (za rfl (ze (yg _ rfl (fun a_ w_ ad=>(by
  obtain ⟨ai,aj,ad⟩:=ya ad
  obtain ⟨ac,ak,ad⟩:=zr ad
  obtain ⟨ab,al,ad⟩:=zr ad
  obtain ⟨aa,am,ad⟩:=zq ad
  obtain ⟨t13,ag,ad⟩:=zq ad
  obtain ⟨t14,ah,ad⟩:=zq ad
  obtain ⟨g0,rfl⟩:∃g,a_=Fr 52 [(1,ac.v),(5,ab.v),(6,Value.int .u64 aa),(13,vi t13),(14,vi t14)] g:=⟨_,yp ai aj _ (zf ak (zf al (zf am (zf ag (zf ah yc)))))⟩
  clear ai aj ak al am ag ah
  have an:=ad
  refine ⟨(fun _=>none),kcast (h0 ac ab aa t13 t14 w_ an) ?_, ?_⟩
  ·kernel_rfl
  ·exact (za rfl (ze (za rfl (zh (zi (ye (za rfl (yh rfl (za rfl (ze (za rfl (ze (za rfl (za rfl (ze (zh (ze (zi (za rfl (ze (za rfl (ze (za rfl (ze (zh (ze (ze (ze trivial)))))))))))))))))))))))))))))) (za rfl (ze (zg trivial)))))))))))))
def Ya (J0:Slc→Slc→Slc→Int→World→Prop) (m0:Slc→Slc→Slc→Int→World→Nat):Nat→Option ((Act→World→Prop)×(Act→World→Nat))
 |0=>some (fun a_ w_=>atSz a_ 43 (atS a_ 0 fun t0_a=>atS a_ 1 fun t1_b=>atS a_ 7 fun t7_c=>atI .i64 a_ 8 fun t8_i=>J0 t0_a t1_b t7_c t8_i w_),fun a_ w_=>mS a_ 0 fun t0_a=>mS a_ 1 fun t1_b=>mS a_ 7 fun t7_c=>mI a_ 8 fun t8_i=>m0 t0_a t1_b t7_c t8_i w_)
 |_=>none
theorem Xi (ag:Slc) (af:Slc) (w:World) (R:Ending→World→Prop) (J0:Slc→Slc→Slc→Int→World→Prop) (m0:Slc→Slc→Slc→Int→World→Nat) (h:Calls pr 79 #[ag.v,af.v] w fun e1 w1=>∃s1:Slc,∃x1:Int,e1= .returned (.tuple #[s1.v,vi x1])∧(br (x1==0) (R (.returned s1.v) w1) (J0 ag af nSl (wrap .i64 ((af.n:Int) -1)) w1))) (h0:∀ab ac ae aa w_,J0 ab ac ae aa w_→br (decide (aa≥0)) (kS 48 #[ae.v,vi 64] w_ fun w2 s2=>(semA pr (Instr.indexAt 23 ac.v (vi aa)) w2 fun ad1 w3=>ldI .u64 ad1 w3 fun x2=>kS 84 #[.int .u64 x2] w3 fun w4 s3=>(Calls pr 79 #[ab.v,s3.v] w4 fun e4 w5=>∃s4:Slc,∃x3:Int,e4= .returned (.tuple #[s4.v,vi x3])∧(kS 117 #[s2.v,s4.v] w5 fun w6 s5=>(J0 ab ac s5 (wrap .i64 (aa -1)) w6∧m0 ab ac s5 (wrap .i64 (aa -1)) w6<m0 ab ac ae aa w_))))) (R (.returned ae.v) w_)):Calls pr 88 #[ag.v,af.v] w R:=by
 refine zk (Ya J0 m0) (by kernel_rfl) Tryz.func88 rfl ?_ ?_
 ·refine kcast h ?_;kernel_rfl
 ·exact (za rfl (ze (za rfl (ze (za rfl (za rfl (ze (zh (za rfl (ze (zg (zi (za rfl (ze (za rfl (za rfl (ze (yg _ rfl (fun a_ w_ ad=>(by
  obtain ⟨ah,ai,ad⟩:=ya ad
  obtain ⟨ab,aj,ad⟩:=zr ad
  obtain ⟨ac,ak,ad⟩:=zr ad
  obtain ⟨ae,al,ad⟩:=zr ad
  obtain ⟨aa,am,ad⟩:=zq ad
  obtain ⟨g0,rfl⟩:∃g,a_=Fr 43 [(0,ab.v),(1,ac.v),(7,ae.v),(8,vi aa)] g:=⟨_,yp ah ai _ (zf aj (zf ak (zf al (zf am yc))))⟩
  clear ah ai aj ak al am
  have an:=ad
  refine ⟨(fun _=>none),kcast (h0 ab ac ae aa w_ an) ?_, ?_⟩
  ·kernel_rfl
  ·exact (za rfl (za rfl (ze (zh (zi (ye (za rfl (yh rfl (za rfl (ze (za rfl (ze (ze (ze trivial)))))))))))))))) (za rfl (ze (zg trivial)))))))))))))))))))))
theorem Qf (aa:Int) (w:World) (R:Ending→World→Prop) (h:br (aa==0) (R (.returned (.func (Fn.func 118) #[] #[])) w) (br (aa==1) (R (.returned (.func (Fn.func 119) #[] #[])) w) (R (.returned (.func (Fn.func 120) #[] #[])) w))):Calls pr 93 #[vi aa] w R:=by
 refine zk (fun _=>none) (by kernel_rfl) Tryz.func93 rfl ?_ ?_
 ·refine kcast h ?_;kernel_rfl
 ·exact (za rfl (ze (za rfl (za rfl (ze (yh rfl (za rfl (ze (zh (za rfl (ze (zg (za rfl (ze (zh (za rfl (ze (zg (zi (za rfl (ze (zg trivial))))))))))))))))))))))
theorem Xj (ab:Bool) (a1:Slc) (aa:Int) (w:World) (R:Ending→World→Prop) (h:br ab (R (.returned (.bool (decide (aa>0)))) w) (R (.returned (.bool false)) w)):Calls pr 118 (zD ab a1 aa) w R:=by
 refine zk (fun _=>none) (by kernel_rfl) Tryz.func118 rfl ?_ ?_
 ·refine kcast h ?_;kernel_rfl
 ·exact (za rfl (ze (za rfl (ze (zg trivial)))))
theorem Xk (ab:Bool) (a1:Slc) (aa:Int) (w:World) (R:Ending→World→Prop) (h:br (!ab) (R (.returned (.bool (decide (aa>0)))) w) (R (.returned (.bool false)) w)):Calls pr 119 (zD ab a1 aa) w R:=by
 refine zk (fun _=>none) (by kernel_rfl) Tryz.func119 rfl ?_ ?_
 ·refine kcast h ?_;kernel_rfl
 ·exact (za rfl (ze (za rfl (ze (zg trivial)))))
theorem Xm (a0:Bool) (ab:Slc) (aa:Int) (w:World) (R:Ending→World→Prop) (h:br (aa==3) (R (.returned (.bool true)) w) (br (aa==2) (kI 52 #[ab.v,vi 0] w fun w1 x1=>(R (.returned (.bool (x1==1))) w1)) (R (.returned (.bool false)) w))):Calls pr 120 (zD a0 ab aa) w R:=by
 refine zk (fun _=>none) (by kernel_rfl) Tryz.func120 rfl ?_ ?_
 ·refine kcast h ?_;kernel_rfl
 ·exact (za rfl (ze (za rfl (ze (zg trivial)))))
theorem Xc (ac:Bool) (ad:Slc) (ae:Slc) (ab:Int) (aa:Int) (w:World) (R:Ending→World→Prop) (h:newC w (zR ac ad ae) 67 fun ad1 w1=>newC w1 (zD false nSl 0) 27 fun ad2 w2=>ldS (ad1.add 2) w2 fun s1=>kI 46 #[s1.v] w2 fun w3 x1=>(br (x1==0) (xt3 ad2 (.bool false) nSl.v (vi 0) w3 fun w6=>ld3 ad2 w6 fun b1 s2 x2=>R (.returned (.tuple #[uD b1 s2 x2,vi 70])) w6) (kI 42 #[vi ab,vi aa] w3 fun w7 x3=>(br (x3 !=0) (xt3 ad2 (.bool false) nSl.v (vi 0) w7 fun w10=>ld3 ad2 w10 fun b2 s3 x4=>R (.returned (.tuple #[uD b2 s3 x4,vi x3])) w10) (ldr ad1 w7.drew fun b3 s4 s5=>kS 85 #[s4.v] w7.drew fun w11 s6=>(Ahead w7.drew w11∧(kS 85 #[s5.v] w11 fun w12 s7=>(Ahead w11 w12∧(kU 43 #[.bool b3,s6.v,s7.v,vi 0,vi ab,vi aa] w12 fun w13 b4 s8 x5 x6=>(Ahead w12 w13∧(xD ad2 b4 s8 x5 w13 fun w16=>ld3 ad2 w16 fun b5 s9 x7=>R (.returned (.tuple #[uD b5 s9 x7,vi x6])) w16))))))))))):Calls pr 77 #[uR ac ad ae,vi ab,vi aa] w R:=by
 refine zk (fun _=>none) (by kernel_rfl) Tryz.func77 rfl ?_ ?_
 ·refine kcast h ?_;kernel_rfl
 ·exact (za rfl (ze (za rfl (za rfl (ze (zh (za rfl (ze (zg (zi (za rfl (za rfl (ze (za rfl (ze (zh (za rfl (ze (zg (zi (za rfl (yy (by kernel_rfl) (by kernel_rfl) (by kernel_rfl) (zg trivial)))))))))))))))))))))))
end
section
open Go Go.RowKit Eng L2
open _root_.Go.IntKind (wrap)
theorem Ux (ab:Bool) (ac:Slc) (aa:Int) (w:World) (R:Ending→World→Prop) (h:br (decide (aa<(-1099511627776))) (xw w w fun w1=>(R (.returned (.tuple #[uD (false) nSl (0:Int),vi 80])) w1)) (br (decide (aa>1099511627776)) (xw w w fun w2=>(R (.returned (.tuple #[uD (false) nSl (0:Int),vi 80])) w2)) (xw w w fun w3=>(kS 85 #[ac.v] w3 fun w4 s1=>Ahead w3 w4∧(br ((s1.n:Int)==0) (xw w w4 fun w5=>(R (.returned (.tuple #[uD (false) nSl (0:Int),vi 0])) w5)) (kI 49 #[s1.v] w4 fun w6 x1=>Ahead w4 w6∧(xw w w6 fun w7=>(kS 50 #[s1.v,vi x1] w7 fun w8 s2=>Ahead w7 w8∧(xw w w8 fun w9=>(R (.returned (.tuple #[uD ab s2 (wrap .i64 (aa+x1)),vi 0])) w9)))))))))):Calls pr 41 #[uD ab ac aa] w (fun e_ w_=>Ahead w w_∧R e_ w_):=by
  refine Uy ab ac aa w _ ?_
  · have A:Ahead w w:=Ahead.refl w
    have X:Ext w w:=Ext.refl w
    refine zn fun bk1 u1 hb a _ B1=> ?_;have g1:=zj A.size hb;obtain ⟨A,X⟩:=axa2 a A X;refine zn fun bk2 u2 hb a _ B2=> ?_;have g2:=zj A.size hb;have l1_2:=lt1 hb B1;replace B1:=B1.ahead a;obtain ⟨A,X⟩:=axa2 a A X;refine xg 2 B1 rfl ?_;refine zv h (fun h_=> ?_) (fun h_=> ?_)
    ·replace h:=h_;clear h_;refine s3_t B2 fun u3 k B2=> ?_;replace B1:=up1 k B1;obtain ⟨A,X⟩:=axu2 k g2 A X;refine l3_t B2 ?_;replace h:=h _ X A;exact ⟨A,h⟩
    ·replace h:=h_;clear h_;refine xg 2 B1 rfl ?_;refine zv h (fun h_=> ?_) (fun h_=> ?_)
     ·replace h:=h_;clear h_;refine s3_t B2 fun u4 k B2=> ?_;replace B1:=up1 k B1;obtain ⟨A,X⟩:=axu2 k g2 A X;refine l3_t B2 ?_;replace h:=h _ X A;exact ⟨A,h⟩
     ·replace h:=h_;clear h_;refine ym 1 B1 rfl ?_;replace h:=h _ X A;refine Calls.mono h ?_;clear h;rintro e1 w4 ⟨s1,he_,a,h⟩;refine ⟨s1,he_, ?_⟩;clear he_;obtain ⟨B1,B2⟩:=ah2 a B1 B2;obtain ⟨A,X⟩:=axr2 a A;refine zv h (fun h_=> ?_) (fun h_=> ?_)
      ·replace h:=h_;clear h_;refine s3_t B2 fun u5 k B2=> ?_;replace B1:=up1 k B1;obtain ⟨A,X⟩:=axu2 k g2 A X;refine l3_t B2 ?_;replace h:=h _ X A;exact ⟨A,h⟩
      ·replace h:=h_;clear h_;refine Calls.mono h ?_;clear h;rintro e2 w6 ⟨x1,he_,a,h⟩;refine ⟨x1,he_, ?_⟩;clear he_;obtain ⟨B1,B2⟩:=ah2 a B1 B2;obtain ⟨A,X⟩:=axr2 a A;have ad:=Sp.Ahead.drew w6;obtain ⟨B1,B2⟩:=ah2 ad B1 B2;obtain ⟨A,X⟩:=axa2 ad A X;clear ad;refine yt 0 B1 rfl ?_;refine xg 2 B1 rfl ?_;replace h:=h _ X A;refine Calls.mono h ?_;clear h;rintro e3 w8 ⟨s2,he_,a,h⟩;refine ⟨s2,he_, ?_⟩;clear he_;obtain ⟨B1,B2⟩:=ah2 a B1 B2;obtain ⟨A,X⟩:=axr2 a A;refine ⟨a, ?_⟩;refine s3_t B2 fun u6 k B2=> ?_;replace B1:=up1 k B1;obtain ⟨A,X⟩:=axu2 k g2 A X;refine l3_t B2 ?_;replace h:=h _ X A;exact ⟨A,h⟩
theorem dt (a0:Bool) (a1:Slc) (a2:Slc) (a3:Int) (a4:Int) (a5:Int) (w:World) (R:Ending→World→Prop) (K15:Bool→Slc→Slc→Int→Int→Bool→Slc→Int→World→Prop) (h:br ((a1.n:Int)==0) (xw w w fun w1=>(R (.returned (.tuple #[uD (false) nSl (0:Int),vi 0])) w1)) (xw w w fun w2=>(kI 46 #[a1.v] w2 fun w3 x1=>Ahead w2 w3∧(kI 46 #[a2.v] w3 fun w4 x2=>Ahead w3 w4∧(br (decide ((wrap .i64 ((wrap .i64 (x1 -x2))+(wrap .i64 (a3 -a4))))>67108865)) (xw w w4 fun w5=>(R (.returned (.tuple #[uD (false) nSl (0:Int),vi 3])) w5)) (br (decide ((wrap .i64 ((wrap .i64 (x1 -x2))+(wrap .i64 (a3 -a4))))<(-2))) (kU 47 #[.bool a0,nSl.v,vi 1,vi a4,vi a5] w4 fun w6 b1 s1 x3 x4=>Ahead w4 w6∧(xw w w6 fun w7=>(R (.returned (.tuple #[uD b1 s1 x3,vi x4])) w7))) (br (decide ((wrap .i64 (a3 -a4))≥0)) (kI 49 #[a2.v] w4 fun w8 x5=>Ahead w4 w8∧(kS 48 #[a1.v,vi (wrap .i64 ((wrap .i64 (a3 -a4)) -(minI (wrap .i64 (a3 -a4)) x5)))] w8 fun w9 s2=>Ahead w8 w9∧(kS 50 #[a2.v,vi (minI (wrap .i64 (a3 -a4)) x5)] w9 fun w10 s3=>Ahead w9 w10∧(K15 a0 s2 s3 a4 a5 false nSl 0 w10)))) (kI 49 #[a1.v] w4 fun w21 x12=>Ahead w4 w21∧(kS 50 #[a1.v,vi (minI (wrap .i64 (0 -(wrap .i64 (a3 -a4)))) x12)] w21 fun w22 s10=>Ahead w21 w22∧(kS 48 #[a2.v,vi (wrap .i64 ((wrap .i64 (0 -(wrap .i64 (a3 -a4)))) -(minI (wrap .i64 (0 -(wrap .i64 (a3 -a4)))) x12)))] w22 fun w23 s11=>Ahead w22 w23∧(K15 a0 s10 s11 a4 a5 false nSl 0 w23))))))))))) (ae:∀t0 t1 t2 t4 t5 aa ab ac w_,Ahead w w_→K15 t0 t1 t2 t4 t5 aa ab ac w_→Calls pr 86 #[t1.v,t2.v] w_ fun e7 w11=>∃s4:Slc,∃x6:Int,e7= .returned (.tuple #[s4.v,vi x6])∧Ahead w_ w11∧(br (x6 !=0) (xw w w11 fun w12=>(R (.returned (.tuple #[uD (false) nSl (0:Int),vi x6])) w12)) (kS 88 #[s4.v,t2.v] w11 fun w13 s5=>Ahead w11 w13∧(kS 87 #[t1.v,s5.v] w13 fun w14 s6=>Ahead w13 w14∧(br (decide ((s6.n:Int)>0)) (kS 48 #[s6.v,vi 1] w14 fun w15 s7=>Ahead w14 w15∧(kI 81 #[s7.v,t2.v] w15 fun w16 x7=>Ahead w15 w16∧(kU 47 #[.bool t0,s4.v,vi (wrap .i64 (2+x7)),vi t4,vi t5] w16 fun w17 b2 s8 x8 x9=>Ahead w16 w17∧(xw w w17 fun w18=>(R (.returned (.tuple #[uD b2 s8 x8,vi x9])) w18))))) (kU 47 #[.bool t0,s4.v,vi 0,vi t4,vi t5] w14 fun w19 b3 s9 x10 x11=>Ahead w14 w19∧(xw w w19 fun w20=>(R (.returned (.tuple #[uD b3 s9 x10,vi x11])) w20)))))))):Calls pr 43 #[.bool a0,a1.v,a2.v,vi a3,vi a4,vi a5] w (fun e_ w_=>Ahead w w_∧R e_ w_):=by
  refine dw a0 a1 a2 a3 a4 a5 w _ (fun t0 t1 t2 t4 t5 t12 w_=>∃af:Nat,∃aa:Bool,∃ab:Slc,∃ac:Int,t12=⟨af,0,none⟩∧Blt w_ af 27 #[Value.bool aa,ab.v,vi ac]∧w.heap.size≤af∧Ahead w w_∧K15 t0 t1 t2 t4 t5 aa ab ac w_) ?_ ?_
  · have A:Ahead w w:=Ahead.refl w
    have X:Ext w w:=Ext.refl w
    refine zn fun bk1 u1 hb a _ B1=> ?_;have g1:=zj A.size hb;obtain ⟨A,X⟩:=axa2 a A X;refine zv h (fun h_=> ?_) (fun h_=> ?_)
    ·replace h:=h_;clear h_;refine s3_t B1 fun u2 k B1=> ?_;obtain ⟨A,X⟩:=axu2 k g1 A X;refine l3_t B1 ?_;replace h:=h _ X A;exact ⟨A,h⟩
    ·replace h:=h_;clear h_;replace h:=h _ X A;refine Calls.mono h ?_;clear h;rintro e1 w3 ⟨x1,he_,a,h⟩;refine ⟨x1,he_, ?_⟩;clear he_;replace B1:=B1.ahead a;obtain ⟨A,X⟩:=axr2 a A;refine Calls.mono h ?_;clear h;rintro e2 w4 ⟨x2,he_,a,h⟩;refine ⟨x2,he_, ?_⟩;clear he_;replace B1:=B1.ahead a;obtain ⟨A,X⟩:=axr2 a A;refine zv h (fun h_=> ?_) (fun h_=> ?_)
     ·replace h:=h_;clear h_;refine s3_t B1 fun u3 k B1=> ?_;obtain ⟨A,X⟩:=axu2 k g1 A X;refine l3_t B1 ?_;replace h:=h _ X A;exact ⟨A,h⟩
     ·replace h:=h_;clear h_;refine zv h (fun h_=> ?_) (fun h_=> ?_)
      ·replace h:=h_;clear h_;refine Calls.mono h ?_;clear h;rintro e3 w6 ⟨b1,s1,x3,x4,he_,a,h⟩;refine ⟨b1,s1,x3,x4,he_, ?_⟩;clear he_;replace B1:=B1.ahead a;obtain ⟨A,X⟩:=axr2 a A;refine s3_t B1 fun u4 k B1=> ?_;obtain ⟨A,X⟩:=axu2 k g1 A X;refine l3_t B1 ?_;replace h:=h _ X A;exact ⟨A,h⟩
      ·replace h:=h_;clear h_;refine zv h (fun h_=> ?_) (fun h_=> ?_)
       ·replace h:=h_;clear h_;refine Calls.mono h ?_;clear h;rintro e4 w8 ⟨x5,he_,a,h⟩;refine ⟨x5,he_, ?_⟩;clear he_;replace B1:=B1.ahead a;obtain ⟨A,X⟩:=axr2 a A;refine Calls.mono h ?_;clear h;rintro e5 w9 ⟨s2,he_,a,h⟩;refine ⟨s2,he_, ?_⟩;clear he_;replace B1:=B1.ahead a;obtain ⟨A,X⟩:=axr2 a A;refine Calls.mono h ?_;clear h;rintro e6 w10 ⟨s3,he_,a,h⟩;refine ⟨s3,he_, ?_⟩;clear he_;replace B1:=B1.ahead a;obtain ⟨A,X⟩:=axr2 a A;exact ⟨bk1,false,(⟨none,0,0⟩:Slc),0,rfl,B1,g1,A,h⟩
       ·replace h:=h_;clear h_;refine Calls.mono h ?_;clear h;rintro e14 w21 ⟨x12,he_,a,h⟩;refine ⟨x12,he_, ?_⟩;clear he_;replace B1:=B1.ahead a;obtain ⟨A,X⟩:=axr2 a A;refine Calls.mono h ?_;clear h;rintro e15 w22 ⟨s10,he_,a,h⟩;refine ⟨s10,he_, ?_⟩;clear he_;replace B1:=B1.ahead a;obtain ⟨A,X⟩:=axr2 a A;refine Calls.mono h ?_;clear h;rintro e16 w23 ⟨s11,he_,a,h⟩;refine ⟨s11,he_, ?_⟩;clear he_;replace B1:=B1.ahead a;obtain ⟨A,X⟩:=axr2 a A;exact ⟨bk1,false,(⟨none,0,0⟩:Slc),0,rfl,B1,g1,A,h⟩
  · clear h
    rintro t0 t1 t2 t4 t5 t12 w_ ⟨bk1,aa,ab,ac,rfl,B1,g1,A,ad⟩
    have h:=ae t0 t1 t2 t4 t5 aa ab ac w_ A ad
    have X:Ext w_ w_:=Ext.refl _
    refine Calls.mono h ?_;clear h;rintro e7 w11 ⟨s4,x6,he_,a,h⟩;refine ⟨s4,x6,he_, ?_⟩;clear he_;replace B1:=B1.ahead a;obtain ⟨A,X⟩:=axr2 a A;refine zv h (fun h_=> ?_) (fun h_=> ?_)
    ·replace h:=h_;clear h_;refine s3_t B1 fun u5 k B1=> ?_;obtain ⟨A,X⟩:=axu2 k g1 A X;refine l3_t B1 ?_;replace h:=h _ X A;exact ⟨A,h⟩
    ·replace h:=h_;clear h_;refine Calls.mono h ?_;clear h;rintro e8 w13 ⟨s5,he_,a,h⟩;refine ⟨s5,he_, ?_⟩;clear he_;replace B1:=B1.ahead a;obtain ⟨A,X⟩:=axr2 a A;refine Calls.mono h ?_;clear h;rintro e9 w14 ⟨s6,he_,a,h⟩;refine ⟨s6,he_, ?_⟩;clear he_;replace B1:=B1.ahead a;obtain ⟨A,X⟩:=axr2 a A;refine zv h (fun h_=> ?_) (fun h_=> ?_)
     ·replace h:=h_;clear h_;refine Calls.mono h ?_;clear h;rintro e10 w15 ⟨s7,he_,a,h⟩;refine ⟨s7,he_, ?_⟩;clear he_;replace B1:=B1.ahead a;obtain ⟨A,X⟩:=axr2 a A;refine Calls.mono h ?_;clear h;rintro e11 w16 ⟨x7,he_,a,h⟩;refine ⟨x7,he_, ?_⟩;clear he_;replace B1:=B1.ahead a;obtain ⟨A,X⟩:=axr2 a A;refine Calls.mono h ?_;clear h;rintro e12 w17 ⟨b2,s8,x8,x9,he_,a,h⟩;refine ⟨b2,s8,x8,x9,he_, ?_⟩;clear he_;replace B1:=B1.ahead a;obtain ⟨A,X⟩:=axr2 a A;refine s3_t B1 fun u6 k B1=> ?_;obtain ⟨A,X⟩:=axu2 k g1 A X;refine l3_t B1 ?_;replace h:=h _ X A;exact ⟨A,h⟩
     ·replace h:=h_;clear h_;refine Calls.mono h ?_;clear h;rintro e13 w19 ⟨b3,s9,x10,x11,he_,a,h⟩;refine ⟨b3,s9,x10,x11,he_, ?_⟩;clear he_;replace B1:=B1.ahead a;obtain ⟨A,X⟩:=axr2 a A;refine s3_t B1 fun u7 k B1=> ?_;obtain ⟨A,X⟩:=axu2 k g1 A X;refine l3_t B1 ?_;replace h:=h _ X A;exact ⟨A,h⟩
theorem Qd (ac:Bool) (ad:Slc) (ae:Int) (af:Bool) (ag:Slc) (ah:Int) (ab:Int) (aa:Int) (w:World) (R:Ending→World→Prop) (h:xw w w fun w1=>(kU 41 #[uD ac ad ae] w1 fun w2 b1 s1 x1 x2=>Ahead w1 w2∧(br (x2 !=0) (xw w w2 fun w3=>(R (.returned (.tuple #[uD (false) nSl (0:Int),vi x2])) w3)) (xw w w2 fun w4=>(kU 41 #[uD af ag ah] w4 fun w5 b2 s2 x3 x4=>Ahead w4 w5∧(br (x4 !=0) (xw w w5 fun w6=>(R (.returned (.tuple #[uD (false) nSl (0:Int),vi x4])) w6)) (xw w w5 fun w7=>(kI 42 #[vi ab,vi aa] w7 fun w8 x5=>Ahead w7 w8∧(br (x5 !=0) (xw w w8 fun w9=>(R (.returned (.tuple #[uD (false) nSl (0:Int),vi x5])) w9)) (br ((s2.n:Int)==0) (xw w w8 fun w10=>(R (.returned (.tuple #[uD (false) nSl (0:Int),vi 90])) w10)) (kU 43 #[.bool (!(b1==b2)),s1.v,s2.v,vi (wrap .i64 (x1 -x3)),vi ab,vi aa] w8 fun w11 b3 s3 x6 x7=>Ahead w8 w11∧(xw w w11 fun w12=>(R (.returned (.tuple #[uD b3 s3 x6,vi x7])) w12))))))))))))):Calls pr 11 #[uD ac ad ae,uD af ag ah,vi ab,vi aa] w (fun e_ w_=>Ahead w w_∧R e_ w_):=by
  refine Qe ac ad ae af ag ah ab aa w _ ?_
  · have A:Ahead w w:=Ahead.refl w
    have X:Ext w w:=Ext.refl w
    refine zn fun bk1 u1 hb a _ B1=> ?_;have g1:=zj A.size hb;obtain ⟨A,X⟩:=axa2 a A X;refine zn fun bk2 u2 hb a _ B2=> ?_;have g2:=zj A.size hb;have l1_2:=lt1 hb B1;replace B1:=B1.ahead a;obtain ⟨A,X⟩:=axa2 a A X;refine zn fun bk3 u3 hb a _ B3=> ?_;have g3:=zj A.size hb;obtain ⟨_,_⟩:=lt2 hb B1 B2;obtain ⟨B1,B2⟩:=ah2 a B1 B2;obtain ⟨A,X⟩:=axa2 a A X;refine l3_t B1 ?_;replace h:=h _ X A;refine Calls.mono h ?_;clear h;rintro e1 w2 ⟨b1,s1,x1,x2,he_,a,h⟩;refine ⟨b1,s1,x1,x2,he_, ?_⟩;clear he_;obtain ⟨B1,B2,B3⟩:=ah3 a B1 B2 B3;obtain ⟨A,X⟩:=axr2 a A;refine zn fun bk4 u4 hb a _ B4=> ?_;have g4:=zj A.size hb;obtain ⟨_,_,_⟩:=lt3 hb B1 B2 B3;obtain ⟨B1,B2,B3⟩:=ah3 a B1 B2 B3;obtain ⟨A,X⟩:=axa2 a A X;refine s3_t B4 fun u5 k B4=> ?_;obtain ⟨B1,B2,B3⟩:=up3 k B1 B2 B3;obtain ⟨A,X⟩:=axu2 k g4 A X;refine zv h (fun h_=> ?_) (fun h_=> ?_)
    ·replace h:=h_;clear h_;refine s3_t B3 fun u6 k B3=> ?_;obtain ⟨B1,B2,B4⟩:=up3 k B1 B2 B4;obtain ⟨A,X⟩:=axu2 k g3 A X;refine l3_t B3 ?_;replace h:=h _ X A;exact ⟨A,h⟩
    ·replace h:=h_;clear h_;refine l3_t B2 ?_;replace h:=h _ X A;refine Calls.mono h ?_;clear h;rintro e2 w5 ⟨b2,s2,x3,x4,he_,a,h⟩;refine ⟨b2,s2,x3,x4,he_, ?_⟩;clear he_;obtain ⟨B1,B2,B3,B4⟩:=ah4 a B1 B2 B3 B4;obtain ⟨A,X⟩:=axr2 a A;refine zn fun bk5 u7 hb a _ B5=> ?_;have g5:=zj A.size hb;obtain ⟨_,_,_,_⟩:=lt4 hb B1 B2 B3 B4;obtain ⟨B1,B2,B3,B4⟩:=ah4 a B1 B2 B3 B4;obtain ⟨A,X⟩:=axa2 a A X;refine s3_t B5 fun u8 k B5=> ?_;obtain ⟨B1,B2,B3,B4⟩:=up4 k B1 B2 B3 B4;obtain ⟨A,X⟩:=axu2 k g5 A X;refine zv h (fun h_=> ?_) (fun h_=> ?_)
     ·replace h:=h_;clear h_;refine s3_t B3 fun u9 k B3=> ?_;obtain ⟨B1,B2,B4,B5⟩:=up4 k B1 B2 B4 B5;obtain ⟨A,X⟩:=axu2 k g3 A X;refine l3_t B3 ?_;replace h:=h _ X A;exact ⟨A,h⟩
     ·replace h:=h_;clear h_;replace h:=h _ X A;refine Calls.mono h ?_;clear h;rintro e3 w8 ⟨x5,he_,a,h⟩;refine ⟨x5,he_, ?_⟩;clear he_;obtain ⟨B1,B2,B3,B4,B5⟩:=ah5 a B1 B2 B3 B4 B5;obtain ⟨A,X⟩:=axr2 a A;refine zv h (fun h_=> ?_) (fun h_=> ?_)
      ·replace h:=h_;clear h_;refine s3_t B3 fun u10 k B3=> ?_;obtain ⟨B1,B2,B4,B5⟩:=up4 k B1 B2 B4 B5;obtain ⟨A,X⟩:=axu2 k g3 A X;refine l3_t B3 ?_;replace h:=h _ X A;exact ⟨A,h⟩
      ·replace h:=h_;clear h_;refine ym 1 B5 rfl ?_;refine zv h (fun h_=> ?_) (fun h_=> ?_)
       ·replace h:=h_;clear h_;refine s3_t B3 fun u11 k B3=> ?_;obtain ⟨B1,B2,B4,B5⟩:=up4 k B1 B2 B4 B5;obtain ⟨A,X⟩:=axu2 k g3 A X;refine l3_t B3 ?_;replace h:=h _ X A;exact ⟨A,h⟩
       ·replace h:=h_;clear h_;refine yt 0 B4 rfl ?_;refine yt 0 B5 rfl ?_;refine ym 1 B4 rfl ?_;refine ym 1 B5 rfl ?_;refine xg 2 B4 rfl ?_;refine xg 2 B5 rfl ?_;refine Calls.mono h ?_;clear h;rintro e4 w11 ⟨b3,s3,x6,x7,he_,a,h⟩;refine ⟨b3,s3,x6,x7,he_, ?_⟩;clear he_;obtain ⟨B1,B2,B3,B4,B5⟩:=ah5 a B1 B2 B3 B4 B5;obtain ⟨A,X⟩:=axr2 a A;refine s3_t B3 fun u12 k B3=> ?_;obtain ⟨B1,B2,B4,B5⟩:=up4 k B1 B2 B4 B5;obtain ⟨A,X⟩:=axu2 k g3 A X;refine l3_t B3 ?_;replace h:=h _ X A;exact ⟨A,h⟩
theorem Xb (ad:Bool) (ae:Slc) (ab:Slc) (ac:Int) (aa:Int) (w:World) (R:Ending→World→Prop) (h:xw w w fun w1=>(kI 46 #[ab.v] w1 fun w2 x1=>Ahead w1 w2∧(br (x1==0) (xw w w2 fun w3=>(R (.returned (.tuple #[uD (false) nSl (0:Int),vi 70])) w3)) (kI 42 #[vi ac,vi aa] w2 fun w4 x2=>Ahead w2 w4∧(br (x2 !=0) (xw w w4 fun w5=>(R (.returned (.tuple #[uD (false) nSl (0:Int),vi x2])) w5)) (xw w w4 fun w6=>(kS 85 #[ae.v] w6 fun w7 s1=>Ahead w6 w7∧(kS 85 #[ab.v] w7 fun w8 s2=>Ahead w7 w8∧(kU 43 #[.bool ad,s1.v,s2.v,vi 0,vi ac,vi aa] w8 fun w9 b1 s3 x3 x4=>Ahead w8 w9∧(xw w w9 fun w10=>(R (.returned (.tuple #[uD b1 s3 x3,vi x4])) w10))))))))))):Calls pr 77 #[uR ad ae ab,vi ac,vi aa] w (fun e_ w_=>Ahead w w_∧R e_ w_):=by
  refine Xc ad ae ab ac aa w _ ?_
  · have A:Ahead w w:=Ahead.refl w
    have X:Ext w w:=Ext.refl w
    refine zn fun bk1 u1 hb a _ B1=> ?_;have g1:=zj A.size hb;obtain ⟨A,X⟩:=axa2 a A X;refine zn fun bk2 u2 hb a _ B2=> ?_;have g2:=zj A.size hb;have l1_2:=lt1 hb B1;replace B1:=B1.ahead a;obtain ⟨A,X⟩:=axa2 a A X;refine ym 2 B1 rfl ?_;replace h:=h _ X A;refine Calls.mono h ?_;clear h;rintro e1 w2 ⟨x1,he_,a,h⟩;refine ⟨x1,he_, ?_⟩;clear he_;obtain ⟨B1,B2⟩:=ah2 a B1 B2;obtain ⟨A,X⟩:=axr2 a A;refine zv h (fun h_=> ?_) (fun h_=> ?_)
    ·replace h:=h_;clear h_;refine s3_t B2 fun u3 k B2=> ?_;replace B1:=up1 k B1;obtain ⟨A,X⟩:=axu2 k g2 A X;refine l3_t B2 ?_;replace h:=h _ X A;exact ⟨A,h⟩
    ·replace h:=h_;clear h_;refine Calls.mono h ?_;clear h;rintro e2 w4 ⟨x2,he_,a,h⟩;refine ⟨x2,he_, ?_⟩;clear he_;obtain ⟨B1,B2⟩:=ah2 a B1 B2;obtain ⟨A,X⟩:=axr2 a A;refine zv h (fun h_=> ?_) (fun h_=> ?_)
     ·replace h:=h_;clear h_;refine s3_t B2 fun u4 k B2=> ?_;replace B1:=up1 k B1;obtain ⟨A,X⟩:=axu2 k g2 A X;refine l3_t B2 ?_;replace h:=h _ X A;exact ⟨A,h⟩
     ·replace h:=h_;clear h_;have af:=Sp.Ahead.drew w4;obtain ⟨B1,B2⟩:=ah2 af B1 B2;obtain ⟨A,X⟩:=axa2 af A X;clear af;refine yt 0 B1 rfl ?_;refine ym 1 B1 rfl ?_;refine ym 2 B1 rfl ?_;replace h:=h _ X A;refine Calls.mono h ?_;clear h;rintro e3 w7 ⟨s1,he_,a,h⟩;refine ⟨s1,he_, ?_⟩;clear he_;obtain ⟨B1,B2⟩:=ah2 a B1 B2;obtain ⟨A,X⟩:=axr2 a A;refine ⟨a, ?_⟩;refine Calls.mono h ?_;clear h;rintro e4 w8 ⟨s2,he_,a,h⟩;refine ⟨s2,he_, ?_⟩;clear he_;obtain ⟨B1,B2⟩:=ah2 a B1 B2;obtain ⟨A,X⟩:=axr2 a A;refine ⟨a, ?_⟩;refine Calls.mono h ?_;clear h;rintro e5 w9 ⟨b1,s3,x3,x4,he_,a,h⟩;refine ⟨b1,s3,x3,x4,he_, ?_⟩;clear he_;obtain ⟨B1,B2⟩:=ah2 a B1 B2;obtain ⟨A,X⟩:=axr2 a A;refine ⟨a, ?_⟩;refine s3_t B2 fun u5 k B2=> ?_;replace B1:=up1 k B1;obtain ⟨A,X⟩:=axu2 k g2 A X;refine l3_t B2 ?_;replace h:=h _ X A;exact ⟨A,h⟩
end
section
open Go Go.RowKit Eng Sp Dg Kd L2
namespace Ro
open _root_.Go.Proofs.YtbeiopoejdkheaaGreatDoor.Nat (ldN ldNf stF stFf mkF Fill Fill.rd Fill.base Fill.src Fill.ahead OwnNil OwnNil.rd OwnNil.ahead OwnNil.mono OwnNil.nil OwnNil.ext Num Num.ahead Num.bl xj yn xk xe xf Ret Ret.num pq uf semShl semShr fixShl uj bigC xc zw)
open _root_.Go.Proofs.YtbeiopoejdkheaaGreatDoor.Mul (m7)
open _root_.Go.Proofs.YtbeiopoejdkheaaGreatDoor.Dq (rdig rhigh rlow)
open Dy Sb
theorem tdiv64 {n:Nat} (h:n≤9223372036854775807):IntKind.i64.wrap (Int.tdiv (n:Int) 64)=((n/64:Nat):Int):=by
 have:Int.tdiv (n:Int) 64=((n/64:Nat):Int):=by rw [Int.tdiv_eq_ediv_of_nonneg (by omega)];omega
 rw [this,zp (by omega) (by omega)]
theorem tmod64 (n:Nat):Int.tmod (n:Int) 64=((n % 64:Nat):Int):=by rw [Int.tmod_eq_emod_of_nonneg (by omega)];omega
theorem t63 {n:Nat} :IntKind.u64.wrap (IntKind.i64.wrap (63 -((n % 64:Nat):Int)))=((63 -n % 64:Nat):Int):=by
 rw [zp (by omega) (by omega),yd (by omega) (by omega)];omega
theorem cx {w a} {x n:Nat} (ra:Rd .u64 w a (nn (digs B64 x))) (hs:n/64+(digs B64 x).length+1≤2^44):Calls pr rounded_left_id #[a.v, .int .i64 (n:Int)] w fun e w'=>Ahead w w'∧∃s,e= .returned (Slc.v s)∧OwnNil w.heap.size w' s (digs B64 (x*2^n)):=by
 have hB:=B64v
 have h64:B64=2^64:=rfl
 have hA0:=zu two64 x
 have oA:=yb two64 x
 have hw:n % 64<64:=Nat.mod_lt _ (by omega)
 have hp2:B64^(n/64)*2^(n % 64)=2^n:=(tf n 64).symm
 have hna:a.n=(digs B64 x).length:=by rw [ra.n,nn_length]
 have hz:(digs B64 x).length=0→x=0:=fun h=>by
  rcases Nat.eq_zero_or_pos x with h0|h0
  ·exact h0
  ·have:=List.length_pos_iff.2 (xv two64 (show x≠0 by omega));omega
 generalize digs B64 x=A at*
 refine Uw a (n:Int) w _ (fun t1 t5 t18 t19 t20 w'=>t1=(n:Int)∧t18=a∧t19=(A.length:Int)∧∃(l:List Nat) (j:Nat),t20=(j:Int)∧j≤A.length∧
  Fill w w' t5 l (fun w'=>Rd .u64 w' a (nn A))∧l.length=n/64+A.length+1∧ok B64 l∧val B64 l=val B64 (A.take j)*(B64^(n/64)*2^(n % 64))) (fun _ _ _ n i _=>(n -i).toNat) ?_ ?_
 ·refine zm (fun h0=> ?_) (fun h0=> ?_)
  ·have hx:x=0:=hz (by have:=eq_of_beq h0;omega)
   rw [hx,Nat.zero_mul,yq]
   exact ⟨Ahead.refl _,_,rfl,OwnNil.nil⟩
  ·rw [tdiv64 (by omega),hna,zp (x:=((n/64:Nat):Int)+_) (by omega) (by omega),zp (by omega) (by omega),show ((n/64:Nat):Int)+(A.length:Int)+1=((n/64+A.length+1:Nat):Int) by omega]
   refine mkF (w0:=w) (S:=fun w'=>Rd .u64 w' a (nn A)) (by omega) (by omega) (Ahead.refl _) ra ?_
   intro c w3 hcn hf ha
   refine ⟨rfl,rfl,rfl,_,0,rfl,Nat.zero_le _,hf,by rw [List.length_replicate];omega,yr (by omega) _, ?_⟩
   rw [xn];simp [val]
 ·rintro t1 c t18 t19 t20 w' ⟨rfl,rfl,rfl,l,j,rfl,hj,hf,hl,ol,hv⟩
  have hS:=hf.src (fun _ h hs=>Rd.ahead hs h)
  refine zm (fun hlt=> ?_) (fun hge=> ?_)
  ·have hj':j<A.length:=by have:=of_decide_eq_true hlt;omega
   have hfacts:=pv (w:=64) (l:=l) (A:=A) (j:=j) (wd:=n/64) (s:=n % 64) hw (by omega) oA hj' hv
   have hx:=yi oA (by omega:0<B64) j
   have hlk:=yi ol (by omega:0<B64) (n/64+j)
   rw [tdiv64 (by omega),tmod64,t63,zp (x:=((n/64:Nat):Int)+(j:Int)) (by omega) (by omega),show ((n/64:Nat):Int)+(j:Int)=((n/64+j:Nat):Int) by omega,
    zp (x:=((n/64+j:Nat):Int)+1) (by omega) (by omega),show ((n/64+j:Nat):Int)+1=((n/64+j+1:Nat):Int) by omega,yd (x:=((n % 64:Nat):Int)) (by omega) (by omega)]
   have e8:IntKind.i64.wrap ((j:Int)+1)=((j+1:Nat):Int):=by rw [zp (by omega) (by omega)];omega
   rw [e8]
   refine ldN hS (by omega) (by omega) ?_
   refine ldN hf.rd (by omega) (by omega) ?_
   refine semShl (by omega) ?_
   repeat rw [Int.toNat_natCast]
   rw [uj hlk (Nat.mod_lt _ (by omega))]
   refine stF hf (by omega) (by omega) ?_
   intro w7 hf7
   rw [Int.toNat_natCast] at hf7
   refine ldN hf7.rd (by omega) (by simp;omega) ?_
   repeat rw [Int.toNat_natCast]
   have hlo:l.getD (n/64+j) 0|||A.getD j 0*2^(n % 64) % B64=l.getD (n/64+j) 0+A.getD j 0*2^(n % 64) % 2^64:=by
    have h2:=kv (A.getD j 0) (n % 64) 64 (by omega)
    have h2':A.getD j 0*2^(n % 64) % B64=_:=h2
    rw [h2',h2,kr hfacts.1]
   have hlolt:l.getD (n/64+j) 0|||A.getD j 0*2^(n % 64) % B64<B64:=Nat.or_lt_two_pow (n:=64) hlk (Nat.mod_lt _ (by omega))
   have hhi:A.getD j 0*2^(n % 64)/2^64<B64:=by
    rw [my _ _ _ (by omega)]
    exact Nat.lt_of_le_of_lt (Nat.div_le_self _ _) hx
   have e3:Int.fdiv (A.getD j 0:Int) (2^(1:Nat))=((A.getD j 0/2:Nat):Int):=by rw [Int.fdiv_eq_ediv_of_nonneg _ (by decide)];norm_cast
   rw [e3]
   refine semShr (by omega) ?_
   have e6:A.getD j 0/2/2^(63 -n % 64)=A.getD j 0*2^(n % 64)/2^64:=by
    rw [my _ _ _ (by omega),Nat.div_div_eq_div_mul]
    congr 1
    rw [show 64 -n % 64=63 -n % 64+1 by omega,Nat.pow_succ];omega
   have hzero:(l.set (n/64+j) (l.getD (n/64+j) 0|||A.getD j 0*2^(n % 64) % B64)).getD (n/64+j+1) 0=0:=by
    rw [xd _ _ _ _ (by omega),if_neg (by omega)];exact hfacts.2
   rw [hzero,e6,uj (by omega) hhi,Nat.zero_or]
   refine stF hf7 (by omega) (by simp;omega) ?_
   intro w10 hf10
   rw [Int.toNat_natCast] at hf10
   have stp:=kp (w:=64) (lo:=l.getD (n/64+j) 0|||A.getD j 0*2^(n % 64) % B64) hw (by omega) oA hj' hv hlo rfl
   exact ⟨⟨rfl,rfl,rfl,_,j+1,rfl,by omega,hf10,by simpa using hl,xb (xb ol hlolt) hhi,stp⟩,by omega⟩
  ·have hj':j=A.length:=by have:=of_decide_eq_false hge;omega
   subst hj'
   rw [List.take_length,hA0,hp2] at hv
   refine Calls.mono (yn hf.rd (by omega) ol) ?_
   rw [hv]
   rintro e w3 ⟨h3,s,rfl,os⟩
   exact ⟨_,rfl,hf.base.trans h3,_,rfl,os.mono hf.base.size⟩
theorem zc8 {w x} {l:List Nat} {t ty:TypeId} (hx:Rd .u64 w x (nn l)) (h0:0<l.length) (hl:l.length≤2^44) {K:Slc→World→Prop} {S:World→Prop} (hk:∀s' w',Fill w w' s' l (fun _=>True)→K s' w') (hT:isSl pr t .u64=some tU64:=by kernel_rfl):semS pr (Builtin.append_ #[t,t] ty #[Slc.v ⟨none,0,0⟩,x.v]) w fun s' w'=>K s' w':=by
 refine app (base:=w.heap.size) (l:= []) (ys:=nn l) hT hx (by rw [nn_length];exact h0) (.inl ⟨rfl,rfl⟩) (Nat.le_refl _) (by rw [nn_length];simp;omega) ?_
 intro s' w' b' hb' hc' ho hbel _
 exact hk s' w' ⟨b',w,by simpa using ho,hc',hb',hbel,hbel,hb',trivial⟩
theorem jf {w a} {A:List Nat} {n:Nat} (ra:Rd .u64 w a (nn A)) (hl:A.length≤2^44) (oA:ok B64 A) (hn:n≤9223372036854775807):Calls pr rounded_right_id #[a.v, .int .i64 (n:Int)] w fun e w'=>Ahead w w'∧∃s,e= .returned (Slc.v s)∧OwnNil w.heap.size w' s (digs B64 (val B64 A/2^n)):=by
 have hB:=B64v
 have h64:B64=2^64:=rfl
 have hw:n % 64<64:=Nat.mod_lt _ (by omega)
 have hp2:B64^(n/64)*2^(n % 64)=2^n:=(tf n 64).symm
 have hna:a.n=A.length:=by rw [ra.n,nn_length]
 have hac:=ra.c
 have hN:∀i,val B64 A/2^n/B64^i % B64=A.getD (n/64+i) 0/2^(n % 64)+2^(64 -n % 64)*(A.getD (n/64+i+1) 0 % 2^(n % 64)):=fun i=>by rw [←hp2];exact rdig oA hw
 refine Xh a (n:Int) w _ (fun t1 t5 t18 t19 w'=>t1=(n:Int)∧t18=((A.length -n/64:Nat):Int)∧n/64<A.length∧∃(l:List Nat) (j:Nat),t19=(j:Int)∧j≤A.length -n/64∧
  Fill w w' t5 l (fun _=>True)∧l.length=A.length -n/64∧ok B64 l∧(∀i,i<j→l.getD i 0=val B64 A/2^n/B64^i % B64)∧∀i,j≤i→l.getD i 0=A.getD (n/64+i) 0) (fun _ _ n i _=>(n -i).toNat) ?_ ?_
 ·rw [tdiv64 hn]
  refine zm (fun h0=> ?_) (fun h0=> ?_)
  ·have h0':A.length≤n/64:=by have:=of_decide_eq_true h0;omega
   have:val B64 A/2^n=0:=by
    refine Nat.div_eq_of_lt (Nat.lt_of_lt_of_le (xa oA) ?_)
    rw [gg]
    exact Nat.pow_le_pow_right (by omega) (by omega)
   rw [this,yq]
   exact ⟨Ahead.refl _,_,rfl,OwnNil.nil⟩
  ·have h0':n/64<A.length:=by have:=of_decide_eq_false h0;omega
   unfold semS
   rw [Sem.wp_iff_run,Gk (k:= .u64) (e:=tU64) (by kernel_rfl) w a (by omega) (by omega)]
   refine ⟨_,rfl, ?_⟩
   have rd:=ra.drop (m:=n/64) (by rw [nn_length];omega)
   rw [Ck] at rd
   rw [Int.toNat_natCast]
   refine zc8 (S:=fun _=>True) rd (by simp;omega) (by simp;omega) fun s' w' hf=> ?_
   have hsn:s'.n=A.length -n/64:=by rw [hf.rd.n,nn_length,List.length_drop]
   exact ⟨rfl,by rw [hsn],h0',_,0,rfl,Nat.zero_le _,hf,by simp,jj oA _,fun i hi=>by omega,fun i _=>by rw [km]⟩
 ·rintro t1 c t18 t19 w' ⟨rfl,rfl,h0,l,j,rfl,hj,hf,hl2,ol,hd,hr⟩
  have hcn:c.n=l.length:=by rw [hf.rd.n,nn_length]
  refine zm (fun hlt=> ?_) (fun hge=> ?_)
  ·have hj':j<A.length -n/64:=by have:=of_decide_eq_true hlt;omega
   have hx:=yi oA (by omega:0<B64) (n/64+j)
   have hN':=hN j
   rw [tmod64,t63,yd (x:=((n % 64:Nat):Int)) (by omega) (by omega)]
   have e8:IntKind.i64.wrap ((j:Int)+1)=((j+1:Nat):Int):=by rw [zp (by omega) (by omega)];omega
   rw [e8]
   refine ldN hf.rd (by omega) (by omega) ?_
   refine semShr (by omega) ?_
   repeat rw [Int.toNat_natCast]
   rw [hr j (Nat.le_refl _)]
   have hq:A.getD (n/64+j) 0/2^(n % 64)<B64:=Nat.lt_of_le_of_lt (Nat.div_le_self _ _) hx
   have hvlt:val B64 A/2^n/B64^j % B64<B64:=Nat.mod_lt _ (by omega)
   refine stF hf (by omega) (by omega) ?_
   intro w6 hf6
   rw [Int.toNat_natCast] at hf6
   have fin:∀{w7:World},Fill w w7 c (l.set j (val B64 A/2^n/B64^j % B64)) (fun _=>True)→
     (∃(l:List Nat) (j':Nat),((j+1:Nat):Int)=(j':Int)∧j'≤A.length -n/64∧Fill w w7 c l (fun _=>True)∧l.length=A.length -n/64∧ok B64 l∧(∀i,i<j'→l.getD i 0=val B64 A/2^n/B64^i % B64)∧∀i,j'≤i→l.getD i 0=A.getD (n/64+i) 0):=by
    intro w7 hf7
    refine ⟨_,j+1,rfl,by omega,hf7,by simpa using hl2,xb ol hvlt,fun i hi=> ?_,fun i hi=> ?_⟩
    ·rw [xd _ _ _ _ (by omega)]
     split
     ·rename_i h;subst h;rfl
     ·exact hd i (by omega)
    ·rw [xd _ _ _ _ (by omega),if_neg (by omega)]
     exact hr i (by omega)
   refine zm (fun hin=> ?_) (fun hin=> ?_)
   ·have hin':j+1<l.length:=by have:=of_decide_eq_true hin;omega
    refine ldNf hf6.rd (by omega) (by simp;omega) ?_
    refine ldNf hf6.rd (by omega) (by simp;omega) ?_
    repeat rw [Int.toNat_natCast]
    have e9:(l.set j (A.getD (n/64+j) 0/2^(n % 64))).getD (j+1) 0=A.getD (n/64+j+1) 0:=by
     rw [xd _ _ _ _ (by omega),if_neg (by omega),hr (j+1) (by omega)];rfl
    rw [e9]
    have hx1:=yi oA (by omega:0<B64) (n/64+j+1)
    have ew:IntKind.u64.wrap ((A.getD (n/64+j+1) 0:Int)*2^(1:Nat))=((A.getD (n/64+j+1) 0*2 % B64:Nat):Int):=by rw [xt,hB];omega
    rw [ew]
    refine fixShl (by omega) ?_
    rw [rhigh hw,xd _ _ _ _ (by omega),if_pos rfl,uj hq (by
     have h1:A.getD (n/64+j+1) 0 % 2^(n % 64)<2^(n % 64):=Nat.mod_lt _ (Nat.pow_pos (by omega))
     have h2:=(Nat.mul_lt_mul_left (a:=2^(64 -n % 64)) (Nat.pow_pos (by omega))).2 h1
     rwa [←Nat.pow_add,show 64 -n % 64+n % 64=64 by omega] at h2),kr (rlow hx hw),←hN']
    refine stFf hf6 (Ahead.drew _) (by omega) (by simp;omega) ?_
    intro w7 hf7
    rw [Int.toNat_natCast,List.set_set] at hf7
    exact ⟨⟨rfl,rfl,h0,fin hf7⟩,by omega⟩
   ·have hin':l.length≤j+1:=by have:=of_decide_eq_false hin;omega
    rw [ui A 0 (i:=n/64+j+1) (by omega),Nat.zero_mod,Nat.mul_zero,Nat.add_zero] at hN'
    rw [←hN'] at hf6
    exact ⟨⟨rfl,rfl,h0,fin hf6⟩,by omega⟩
  ·have hj':j=A.length -n/64:=by have:=of_decide_eq_false hge;omega
   subst hj'
   have hv:val B64 l=val B64 A/2^n:=by
    refine tq (by omega) l _ ?_ (fun i hi=>hd i (by omega))
    rw [Nat.div_lt_iff_lt_mul (Nat.pow_pos (by omega)),←hp2,←Nat.mul_assoc,hl2,←Nat.pow_add,show A.length -n/64+n/64=A.length by omega]
    exact Nat.lt_of_lt_of_le (xa oA) (Nat.le_mul_of_pos_right _ (Nat.pow_pos (by omega)))
   refine Calls.mono (yn hf.rd (by omega) ol) ?_
   rw [hv]
   rintro e w3 ⟨h3,s,rfl,os⟩
   exact ⟨_,rfl,hf.base.trans h3,_,rfl,os.mono hf.base.size⟩
theorem za6 {w a b} {x y:Nat} (ha:Num w a x) (hb:Num w b y) (la:bl x≤33554432) (lb:bl y≤33554432) (hp:bl (x*y)≤67108864):Calls pr rounded_times_id #[a.v,b.v] w fun e w'=>Ahead w w'∧∃s,e= .returned (Slc.v s)∧OwnNil w.heap.size w' s (digs B64 (x*y)):=by
 have l1:=zw (N:=x) (m:=2^20) (by omega)
 have l2:=zw (N:=y) (m:=2^20) (by omega)
 refine Xi a b w _ (fun _ _ _ _ _=>False) (fun _ _ _ _ _=>0) (Calls.mono (m7 ha hb (by omega) (by omega)) ?_) (fun _ _ _ _ _ h=>h.elim)
 intro e w1 hr
 obtain ⟨h1,s,rfl,os,ns⟩:=hr.num (xc hp) hp
 exact ⟨_,_,rfl,yz rfl ⟨h1,_,rfl,os⟩⟩
end Ro
end
section
open Go Go.RowKit Eng Sp Dg Kd L2
namespace Ro
open _root_.Go.Proofs.YtbeiopoejdkheaaGreatDoor.Nat (ldN ldNf stF stFf mkF Fill Fill.rd Fill.base Fill.src Fill.ahead OwnNil OwnNil.rd OwnNil.ahead OwnNil.mono OwnNil.nil OwnNil.ext Num Num.ahead Num.bl xj yn xk xe xf Ret Ret.num pq uf bigC xc zw)
open _root_.Go.Proofs.YtbeiopoejdkheaaGreatDoor.Ref (xh)
open _root_.Go.Proofs.YtbeiopoejdkheaaGreatDoor.Dq (jm quoC)
open Dy Sb
theorem zbr {w x} {l:List Nat} {t ty:TypeId} (hx:Rd .u64 w x (nn l)) (h0:0<l.length) (hl:l.length≤2^44) {K:Slc→World→Prop} {S:World→Prop} (hS:S w) (hk:∀s' w',Fill w w' s' l S→K s' w') (hT:isSl pr t .u64=some tU64:=by kernel_rfl):semS pr (Builtin.append_ #[t,t] ty #[Slc.v ⟨none,0,0⟩,x.v]) w fun s' w'=>K s' w':=by
 refine app (base:=w.heap.size) (l:= []) (ys:=nn l) hT hx (by rw [nn_length];exact h0) (.inl ⟨rfl,rfl⟩) (Nat.le_refl _) (by rw [nn_length];simp;omega) ?_
 intro s' w' b' hb' hc' ho hbel _
 exact hk s' w' ⟨b',w,by simpa using ho,hc',hb',hbel,hbel,hb',hS⟩
theorem zan {w a b} {x y:Nat} (ra:Rd .u64 w a (nn (digs B64 x))) (rb:Rd .u64 w b (nn (digs B64 y))) (hl:(digs B64 x).length≤2^44) (hle:y≤x):Calls pr rounded_minus_id #[a.v,b.v] w fun e w'=>Ahead w w'∧∃s,e= .returned (Slc.v s)∧OwnNil w.heap.size w' s (digs B64 (x -y)):=by
 have hB:=B64v
 have vx:=zu two64 x
 have vy:=zu two64 y
 have ox:=yb two64 x
 have oy:=yb two64 y
 have hlen:=xh two64 hle
 have hna:a.n=(digs B64 x).length:=by rw [ra.n,nn_length]
 have hnb:b.n=(digs B64 y).length:=by rw [rb.n,nn_length]
 have hz:(digs B64 x).length=0→x=0:=fun h=>by
  rcases Nat.eq_zero_or_pos x with h0|h0
  ·exact h0
  ·have:=List.length_pos_iff.2 (xv two64 (show x≠0 by omega));omega
 generalize digs B64 x=A at*
 generalize digs B64 y=C at*
 refine Xg a b w _ (fun t1 t5 t6 t13 t14 w'=>t1=b∧t13=(A.length:Int)∧((A.length=0∧t5=⟨none,0,0⟩∧t14=0∧w'=w)∨∃(l:List Nat) (i bo:Nat),t6=(bo:Int)∧bo≤1∧t14=(i:Int)∧i≤A.length∧
  Fill w w' t5 l (fun w'=>Rd .u64 w' b (nn C))∧l.length=A.length∧ok B64 l∧val B64 (A.take i)+bo*B64^i=val B64 (l.take i)+val B64 (C.take i)∧∀k,i≤k→l.getD k 0=A.getD k 0)) (fun _ _ _ n i _=>(n -i).toNat) ?_ ?_
 ·rcases Nat.eq_zero_or_pos A.length with h0|h0
  ·refine app0 (e:=tU64) (k:= .u64) (by kernel_rfl) (by omega) ?_
   exact ⟨rfl,by simp [h0], .inl ⟨h0,rfl,rfl,rfl⟩⟩
  ·refine zbr (S:=fun w'=>Rd .u64 w' b (nn C)) ra h0 hl rb fun s' w' hf=> ?_
   exact ⟨rfl,by rw [hf.rd.n,nn_length], .inr ⟨A,0,0,rfl,by omega,rfl,Nat.zero_le _,hf,rfl,ox,by simp [val],fun _ _=>rfl⟩⟩
 ·rintro t1 c t6 t13 t14 w1 ⟨rfl,rfl,⟨h0,rfl,rfl,rfl⟩|⟨l,i,bo,rfl,hbo,rfl,hi,hf,hll,okl,hv,hr⟩⟩
  ·refine zt (by rw [h0];rfl) ?_
   have hx:=hz h0
   refine Calls.mono (yn (l:= []) Rd.nil (by simp) Zb) ?_
   rintro e w3 ⟨h3,s,rfl,os⟩
   refine ⟨_,rfl,h3,_,rfl, ?_⟩
   try dsimp only
   rw [show x -y=0 by omega]
   exact os
  ·have hS:=hf.src (fun _ h hs=>Rd.ahead hs h)
   refine zm (fun hlt=> ?_) (fun hge=> ?_)
   ·have hi':i<A.length:=by have:=of_decide_eq_true hlt;omega
    have hx1:=yi ox (by omega:0<B64) i
    have hy1:=yi oy (by omega:0<B64) i
    have e8:IntKind.i64.wrap ((i:Int)+1)=((i+1:Nat):Int):=by rw [zp (by omega) (by omega)];omega
    have next:∀(bo':Nat) (w5:World) (z:Nat),bo'≤1→z<B64→A.getD i 0+B64*bo'=z+C.getD i 0+bo→Fill w w5 c (l.set i z) (fun w'=>Rd .u64 w' t1 (nn C))→
      (t1=t1∧(A.length:Int)=(A.length:Int)∧((A.length=0∧c=⟨none,0,0⟩∧((i+1:Nat):Int)=0∧w5=w)∨∃(l:List Nat) (i' b':Nat),(bo':Int)=(b':Int)∧b'≤1∧((i+1:Nat):Int)=(i':Int)∧i'≤A.length∧
  Fill w w5 c l (fun w'=>Rd .u64 w' t1 (nn C))∧l.length=A.length∧ok B64 l∧val B64 (A.take i')+b'*B64^i'=val B64 (l.take i')+val B64 (C.take i')∧∀k,i'≤k→l.getD k 0=A.getD k 0))∧((A.length:Int) -((i+1:Nat):Int)).toNat<((A.length:Int) -(i:Int)).toNat:=by
     intro bo' w5 z hb' hzB heq hf5
     refine ⟨⟨rfl,rfl, .inr ⟨_,i+1,bo',rfl,hb',rfl,hi',hf5,by simpa using hll,xb okl hzB, ?_,fun k hk=> ?_⟩⟩,by omega⟩
     ·rw [xu _ _ _ (by omega),yj,yj,Nat.pow_succ]
      have e1:B64^i*(A.getD i 0+B64*bo')=B64^i*(z+C.getD i 0+bo):=by rw [heq]
      rw [Nat.mul_add,Nat.mul_add,Nat.mul_add] at e1
      have e2:bo'*(B64^i*B64)=B64^i*(B64*bo'):=by ac_rfl
      rw [Nat.mul_comm bo] at hv
      omega
     ·rw [xd _ _ _ _ (by omega),if_neg (by omega)]
      exact hr k (by omega)
    rw [e8]
    have lastA:l.getD i 0=A.getD i 0:=hr i (Nat.le_refl _)
    refine zm (fun hin=> ?_) (fun hin=> ?_)
    ·have hin':i<C.length:=by have:=of_decide_eq_true hin;omega
     refine ldN hS (by omega) (by omega) ?_
     refine ldN hf.rd (by omega) (by omega) ?_
     repeat rw [Int.toNat_natCast]
     rw [lastA]
     have ew:IntKind.u64.wrap (IntKind.u64.wrap ((A.getD i 0:Int) -(C.getD i 0:Int)) -(bo:Int))=(((A.getD i 0+2*B64 -C.getD i 0 -bo) % B64:Nat):Int):=by
      rw [xt,xt,hB];omega
     rw [ew]
     refine stF hf (by omega) (by omega) ?_
     intro w5 hf5
     rw [Int.toNat_natCast] at hf5
     have hm:(A.getD i 0+2*B64 -C.getD i 0 -bo) % B64<B64:=Nat.mod_lt _ (by omega)
     have hz1:(A.getD i 0+2*B64 -C.getD i 0 -bo) % B64=(A.getD i 0+2*B64 -C.getD i 0 -bo) % 18446744073709551616:=by rw [←hB]
     refine zm (fun q1=> ?_) (fun q1=>zm (fun q2=>zm (fun q3=> ?_) (fun q3=> ?_)) (fun q2=> ?_))
     ·exact next 1 w5 _ (by omega) hm (by have:=of_decide_eq_true q1;omega) hf5
     ·exact next 1 w5 _ (by omega) hm (by have:=eq_of_beq q2;have:=eq_of_beq q3;omega) hf5
     ·exact next 0 w5 _ (by omega) hm (by
       have h1:=eq_of_beq q2;have h2:¬bo=1:=fun h=>by rw [h] at q3;simp at q3
       omega) hf5
     ·exact next 0 w5 _ (by omega) hm (by
       have h1:=of_decide_eq_false q1;have h2:¬A.getD i 0=C.getD i 0:=fun h=>by rw [h] at q2;simp at q2
       omega) hf5
    ·have hin':C.length≤i:=by have:=of_decide_eq_false hin;omega
     have hc0:C.getD i 0=0:=ui C 0 hin'
     refine ldN hf.rd (by omega) (by omega) ?_
     repeat rw [Int.toNat_natCast]
     rw [lastA]
     have ew:IntKind.u64.wrap (IntKind.u64.wrap ((A.getD i 0:Int) -0) -(bo:Int))=(((A.getD i 0+2*B64 -bo) % B64:Nat):Int):=by
      rw [xt,xt,hB];omega
     rw [ew]
     refine stF hf (by omega) (by omega) ?_
     intro w5 hf5
     rw [Int.toNat_natCast] at hf5
     have hm:(A.getD i 0+2*B64 -bo) % B64<B64:=Nat.mod_lt _ (by omega)
     have hz1:(A.getD i 0+2*B64 -bo) % B64=(A.getD i 0+2*B64 -bo) % 18446744073709551616:=by rw [←hB]
     refine zm (fun q1=> ?_) (fun q1=>zm (fun q2=>zm (fun q3=> ?_) (fun q3=> ?_)) (fun q2=> ?_))
     ·have:=of_decide_eq_true q1;omega
     ·exact next 1 w5 _ (by omega) hm (by have:=eq_of_beq q2;have:=eq_of_beq q3;omega) hf5
     ·exact next 0 w5 _ (by omega) hm (by
       have h1:=eq_of_beq q2;have h2:¬bo=1:=fun h=>by rw [h] at q3;simp at q3
       omega) hf5
     ·exact next 0 w5 _ (by omega) hm (by
       have h2:¬A.getD i 0=0:=fun h=>by rw [h] at q2;simp at q2
       omega) hf5
   ·have hi':i=A.length:=by have:=of_decide_eq_false hge;omega
    subst hi'
    rw [List.take_length,List.take_of_length_le hlen,List.take_of_length_le (by omega),vx,vy] at hv
    have hlt:=xa okl
    rw [hll] at hlt
    have h0:bo=0:=by
     rcases Nat.eq_zero_or_pos bo with h|h
     ·exact h
     ·have:bo=1:=by omega
      subst this
      rw [Nat.one_mul] at hv
      omega
    subst h0
    refine Calls.mono (yn hf.rd (by omega) okl) ?_
    rw [show val B64 l=x -y by omega]
    rintro e w3 ⟨h3,s,rfl,os⟩
    exact ⟨_,rfl,hf.base.trans h3,_,rfl,os.mono hf.base.size⟩
def upB (m:Int) (neg:Bool) (q bh:Nat):Bool:=if m=0 then neg&&decide (0<bh) else if m=1 then !neg&&decide (0<bh) else decide (bh=3∨bh=2∧q % 2=1)
def rdQ (m:Int) (neg:Bool) (q bh:Nat):Nat:=q+if upB m neg q bh then 1 else 0
theorem zdt {w} {m:Int} {neg:Bool} {a} {q bh:Nat} (rq:Rd .u64 w a (nn (digs B64 q))) (hl:(digs B64 q).length≤2^44) {K:Ending→World→Prop} (hk:∀v,(∀w',Ahead w w'→∀K':Ending→World→Prop,K' (.returned (.bool (upB m neg q bh))) w'→callX pr v #[.bool neg,a.v, .int .i64 (bh:Int)] w' K')→K (.returned v) w):Calls pr rounded_way_id #[.int .i64 m] w K:=by
 refine Qf m w _ (zm (fun h=>hk _ fun w' ha K' hK=> ?_) (fun h=>zm (fun h2=>hk _ fun w' ha K' hK=> ?_) (fun h2=>hk _ fun w' ha K' hK=> ?_)))
 ·have hm:m=0:=eq_of_beq h
  subst hm
  refine j5 (by kernel_rfl) (Xj neg a (bh:Int) w' _ ?_)
  have e:decide ((bh:Int)>0)=decide (0<bh):=decide_eq_decide.2 (by omega)
  cases neg
  ·exact zt rfl (by simpa [upB] using hK)
  ·refine yz rfl ?_
   rw [e];simpa [upB] using hK
 ·have hm:m=1:=eq_of_beq h2
  subst hm
  refine j5 (by kernel_rfl) (Xk neg a (bh:Int) w' _ ?_)
  have e:decide ((bh:Int)>0)=decide (0<bh):=decide_eq_decide.2 (by omega)
  cases neg
  ·refine yz rfl ?_
   rw [e];simpa [upB] using hK
  ·exact zt rfl (by simpa [upB] using hK)
 ·have hm:¬m=0:=fun h'=>by rw [h'] at h;simp at h
  have hm1:¬m=1:=fun h'=>by rw [h'] at h2;simp at h2
  have eu:upB m neg q bh=decide (bh=3∨bh=2∧q % 2=1):=by rw [upB,if_neg hm,if_neg hm1]
  rw [eu] at hK
  refine j5 (by kernel_rfl) (Xm neg a (bh:Int) w' _ (zm (fun h3=> ?_) (fun h3=>zm (fun h4=> ?_) (fun h4=> ?_))))
  ·have h3':bh=3:=by have:=eq_of_beq h3;omega
   rw [decide_eq_true (Or.inl h3')] at hK;exact hK
  ·have h4':bh=2:=by have:=eq_of_beq h4;omega
   have hb:=Nat.kq (i:=0) (rq.ahead ha) (by omega) (yb two64 q) (by omega)
   refine Calls.mono hb ?_
   rintro e w2 ⟨rfl,rfl⟩
   rw [zu two64,Nat.pow_zero,Nat.div_one]
   refine ⟨_,rfl, ?_⟩
   have e2:(((q % 2:Nat):Int)==1)=decide (bh=3∨bh=2∧q % 2=1):=by
    rw [Bool.eq_iff_iff,beq_iff_eq,decide_eq_true_iff];omega
   try dsimp only
   rw [e2];exact hK
  ·have h3':¬bh=3:=fun h'=>by rw [h'] at h3;simp at h3
   have h4':¬bh=2:=fun h'=>by rw [h'] at h4;simp at h4
   rw [decide_eq_false (by omega)] at hK;exact hK
theorem j6 {w} {neg:Bool} {a} {q bh:Nat} {pos m:Int} (hT:Tab w) (rq:Rd .u64 w a (nn (digs B64 q))) (hq:bl (q+1)≤67108864) (hp:wi pos):Calls pr rounded_finish_id #[.bool neg,a.v, .int .i64 (bh:Int), .int .i64 pos, .int .i64 m] w (DOut w (tC (rdQ m neg q bh) pos) neg (rdQ m neg q bh) pos):=by
 have hB:=B64v
 have hq0:bl q≤67108864:=Nat.le_trans (yw (by omega)) hq
 have lq:=zw (N:=q) (m:=2^20) (by omega)
 have hq':bl (rdQ m neg q bh)≤67108864:=Nat.le_trans (yw (by unfold rdQ;split<;>omega)) hq
 have lq':=zw (N:=rdQ m neg q bh) (m:=2^20) (by omega)
 have hpp:=hp
 unfold wi at hpp
 refine Z7 neg a (bh:Int) pos m w _ (fun t0 t1 t3 t10 w'=>t0=neg∧t3=pos∧t10=⟨w.heap.size,0,none⟩∧Ahead w w'∧Blk w' w.heap.size (c3 false ⟨none,0,0⟩ 0)∧w.heap.size<w'.heap.size∧Rd .u64 w' t1 (nn (digs B64 (rdQ m neg q bh)))) (yv fun b w1 hb1 h1 hs1 B1=> ?_) ?_
 ·subst hb1
  refine zdt (neg:=neg) (bh:=bh) (rq.ahead h1) (by omega) fun v hv=>⟨v,rfl, ?_⟩
  refine hv w1 (Ahead.refl _) _ ⟨_,rfl,zm (fun hu=> ?_) (fun hu=> ?_)⟩
  ·have eq1:rdQ m neg q bh=q+1:=by rw [rdQ,hu];rfl
   refine Calls.mono (xk (v:=1) (by omega)) ?_
   rintro e w4 ⟨h4,s1,rfl,o1⟩
   have b1:bl 1≤1:=vw (by omega)
   refine ⟨_,rfl,Calls.mono (pq (vd ((rq.ahead h1).ahead h4) (by omega)) (xf o1 (by omega))) ?_⟩
   intro e w5 hr
   obtain ⟨h5,u,rfl,ou,nu⟩:=hr.num (xc hq) hq
   have h15:=h4.trans h5
   have:=h15.size
   exact ⟨_,_,rfl,zt rfl ⟨rfl,rfl,rfl,h1.trans h15,B1.ahead h15,by omega,by rw [eq1];exact ou.rd⟩⟩
  ·have eq1:rdQ m neg q bh=q:=by rw [rdQ,hu];rfl
   exact ⟨rfl,rfl,rfl,h1,B1,by omega,by rw [eq1];exact rq.ahead h1⟩
 ·rintro t0 t1 t3 t10 w1 ⟨rfl,rfl,rfl,h1,B1,hsz,r1⟩
  generalize rdQ m t0 q bh=Q at*
  have nQ:Num w1 t1 Q:=vd r1 (by omega)
  have hn:t1.n=(digs B64 Q).length:=by rw [r1.n,nn_length]
  refine Calls.mono (xe nQ) ?_
  rintro e w2 ⟨rfl,rfl⟩
  refine ⟨_,rfl,zt (decide_eq_false (by omega)) (zm (fun h0=> ?_) (fun h0=> ?_))⟩
  ·have hQ:Q=0:=by
    have h2:=eq_of_beq h0
    rcases Nat.eq_zero_or_pos Q with h|h
    ·exact h
    ·have:=List.length_pos_iff.2 (xv two64 (show Q≠0 by omega));omega
   subst hQ
   refine ret3 B1 fun w' u' B'=> ?_
   have hc:tC 0 t3=0:=by
    have e0:bl (od 0)=0:=by rw [vq,xm]
    rw [tC,e0,if_neg (by omega),pu,if_pos (by unfold wi;omega)]
   refine ⟨u'.ahead h1 (Nat.le_refl _),⟨none,0,0⟩,by rw [hc,if_pos rfl,if_pos rfl,gj,pu], ?_⟩
   rw [hc,if_pos rfl,vq,yq];exact OwnNil.nil
  ·have hQ:Q≠0:=fun h=>by rw [hn,h,yq] at h0;simp at h0
   refine Calls.mono (mj (hT.ahead h1) r1 (by omega) (yb two64 Q)) ?_
   rw [zu two64]
   rintro e w3 ⟨rfl,rfl⟩
   have htz:=qv Q
   have hw:IntKind.i64.wrap (t3+((tz Q:Nat):Int))=eD Q t3:=by rw [zp (by omega) (by omega),eD,if_neg hQ]
   have hbo:bl (od Q)≤67108864:=Nat.le_trans (yw (ms Q)) hq'
   have heD:eD Q t3=t3+(tz Q:Int):=by rw [eD,if_neg hQ]
   refine ⟨_,rfl, ?_⟩
   try dsimp only
   rw [hw]
   refine zm (fun hb=> ?_) (fun hb=> ?_)
   ·have hb':=of_decide_eq_true hb
    have hc:tC Q t3=80:=by rw [tC,if_neg (by omega),if_neg (by unfold wi;omega)]
    refine ret3 B1 fun w' u' B'=> ?_
    exact DOut.refused (u'.ahead h1 (Nat.le_refl _)) hc (by omega)
   ·have hb':=of_decide_eq_false hb
    have hc:tC Q t3=0:=by rw [tC,if_neg (by omega),if_pos (by unfold wi;omega)]
    refine Calls.mono (jf r1 (by omega) (yb two64 Q) (by omega)) ?_
    rw [zu two64]
    rintro e w4 ⟨h4,s,rfl,os⟩
    refine ⟨_,rfl,ret3 (B1.ahead h4) fun w' u' B'=> ?_⟩
    have h14:=h1.trans h4
    refine ⟨u'.ahead h14 (Nat.le_refl _),s,by rw [hc,if_pos rfl,if_pos rfl,pw hQ], ?_⟩
    rw [hc,if_pos rfl]
    exact (u'.own os hsz).mono h1.size
end Ro
end
section
open Go Go.RowKit Eng Sp Dg Kd L2
namespace Ro
open _root_.Go.Proofs.YtbeiopoejdkheaaGreatDoor.Nat (OwnNil OwnNil.rd OwnNil.ahead OwnNil.mono OwnNil.nil OwnNil.ext Num Num.ahead Num.ext Num.bl xj yn xk xe xf Ret Ret.num uf bigC xc zw)
open _root_.Go.Proofs.YtbeiopoejdkheaaGreatDoor.Ref (xh)
open _root_.Go.Proofs.YtbeiopoejdkheaaGreatDoor.Dq (jm quoC)
open Dy Sb
theorem Y3 {w s} {x:Nat} (h:Rd .u64 w s (nn (digs B64 x))):((s.n:Int)==0)=decide (x=0):=by
 have hn:s.n=(digs B64 x).length:=by rw [h.n,nn_length]
 rw [Bool.eq_iff_iff,beq_iff_eq,decide_eq_true_iff]
 constructor
 ·intro h0
  rcases Nat.eq_zero_or_pos x with h1|h1
  ·exact h1
  ·have:=List.length_pos_iff.2 (xv two64 (show x≠0 by omega));omega
 ·rintro rfl;rw [hn,yq];rfl
theorem qe {w} {neg:Bool} {s} {x:Nat} {e:Int} (hT:Tab w) (h:Num w s x) (he:wi e):Calls pr rounded_read_id #[.agg (c3 neg s e)] w fun en w'=>Ahead w w'∧∃s',en= .returned (.tuple #[.agg (c3 (nD neg x) s' (eD x e)), .int .i64 0])∧OwnNil w.heap.size w' s' (digs B64 (od x)):=by
 have he':=he
 unfold wi at he'
 have hbl:=Num.bl h
 have lx:=zw (N:=x) (m:=2^44) (by omega)
 refine Ux neg s e w (fun en w'=>∃s',en= .returned (.tuple #[.agg (c3 (nD neg x) s' (eD x e)), .int .i64 0])∧OwnNil w.heap.size w' s' (digs B64 (od x))) (zt (decide_eq_false (by omega)) (zt (decide_eq_false (by omega)) ?_))
 intro w3 x3 a3
 obtain ⟨l,rl,ll,ol,vl⟩:=h.ahead a3
 refine Calls.mono (yn rl ll ol) ?_
 rw [vl]
 rintro en w4 ⟨h4,s1,rfl,o1⟩
 refine ⟨_,rfl,h4, ?_⟩
 try dsimp only
 rw [Y3 o1.rd]
 refine zm (fun h0=> ?_) (fun h0=> ?_)
 ·have hx:=of_decide_eq_true h0
  subst hx
  intro w5 x5 a5
  exact ⟨_,by rw [gj,pu],by rw [vq,yq];exact OwnNil.nil⟩
 ·have hx:=of_decide_eq_false h0
  have a4:=a3.trans h4
  refine Calls.mono (mj (hT.ahead a4) o1.rd (by omega) (yb two64 x)) ?_
  rw [zu two64]
  rintro en w6 ⟨rfl,rfl⟩
  have htz:=qv x
  refine ⟨_,rfl,Ahead.refl _,fun w7 x7 a7=> ?_⟩
  refine Calls.mono (jf (o1.ext x7).rd (by omega) (yb two64 x) (by omega)) ?_
  rw [zu two64]
  rintro en w8 ⟨h8,s2,rfl,o2⟩
  refine ⟨_,rfl,h8,fun w9 x9 a9=>⟨_, ?_,(o2.ext x9).mono a7.size⟩⟩
  rw [zp (by omega) (by omega),pw hx,eD,if_neg hx]
theorem fi {w:World} {pos m:Int} (hp:wi pos) (hm:0≤m∧m≤2):Calls pr rounded_asked_id #[.int .i64 pos, .int .i64 m] w fun e w'=>w'=w∧e= .returned (.int .i64 0):=by
 unfold wi at hp
 exact Xd pos m w _ (zt (decide_eq_false (by omega)) (zt (decide_eq_false (by omega)) (zt (decide_eq_false (by omega)) (zt (decide_eq_false (by omega)) ⟨rfl,rfl⟩))))
def bhv (N D:Nat):Nat:=if N % D=0 then 0 else if 2*(N % D)<D then 1 else if 2*(N % D)=D then 2 else 3
theorem zeh {N D P:Nat} (hP:0<P):bhv (N*P) (D*P)=bhv N D∧N*P/(D*P)=N/D:=by
 have h1:N*P % (D*P)=N % D*P:=Nat.mul_mod_mul_right ..
 refine ⟨?_,Nat.mul_div_mul_right _ _ hP⟩
 unfold bhv
 rw [h1]
 have e1:N % D*P=0↔N % D=0:=by
  constructor
  ·intro h
   rcases Nat.mul_eq_zero.1 h with h|h
   ·exact h
   ·omega
  ·intro h;rw [h,Nat.zero_mul]
 have e2:2*(N % D*P)<D*P↔2*(N % D)<D:=by
  rw [←Nat.mul_assoc];exact Nat.mul_lt_mul_right hP
 have e3:2*(N % D*P)=D*P↔2*(N % D)=D:=by
  rw [←Nat.mul_assoc];exact Nat.mul_left_inj (by omega)
 simp only [e1,e2,e3]
def nu (x:Nat) (s:Int):Nat:=x*2^s.toNat
def de (y:Nat) (s:Int):Nat:=y*2^(-s).toNat
theorem fk {x n:Nat} (hx:x≠0):bl (x*2^n)=bl x+n:=by
 have h:=tc hx
 have e:bl x+n=(bl x+n -1)+1:=by have:=vf hx;omega
 rw [e]
 refine V6 ?_ ?_
 ·have:=Nat.mul_le_mul_right (2^n) h.1
  rw [←Nat.pow_add] at this
  rwa [show bl x -1+n=bl x+n -1 by have:=vf hx;omega] at this
 ·have:=Nat.mul_lt_mul_of_pos_right h.2 (Nat.pow_pos (n:=n) (show 0<2 by omega))
  rw [←Nat.pow_add] at this
  rwa [show bl x+n=bl x+n -1+1 by have:=vf hx;omega] at this
theorem qz (x n:Nat):bl (x*2^n)≤bl x+n:=by
 by_cases hx:x=0
 ·subst hx;rw [Nat.zero_mul,xm];omega
 ·rw [fk hx];exact Nat.le_refl _
theorem fe {x t:Nat} (h:t≤tz x):x/2^t*2^t=x:=by
 have h1:=gm x
 rw [show tz x=t+(tz x -t) by omega,Nat.pow_add] at h1
 rw [←h1,Nat.mul_assoc,Nat.mul_div_cancel_left _ (Nat.pow_pos (by omega)),Nat.mul_comm]
theorem zdm {r y:Nat} (hr:0<r):IntKind.i64.wrap (2+cmpI (r*2^1) y)=(((if 2*r<y then 1 else if 2*r=y then 2 else 3:Nat)):Int):=by
 unfold cmpI
 rw [Nat.pow_one]
 split
 ·rw [if_pos (by omega)];rfl
 ·split
  ·rw [if_neg (by omega),if_neg (by omega)];rfl
  ·rw [if_neg (by omega),if_pos (by omega)];rfl
theorem fy {w} {neg:Bool} {a b} {x y:Nat} {k pos m:Int} (hT:Tab w) (ra:Rd .u64 w a (nn (digs B64 x))) (rb:Rd .u64 w b (nn (digs B64 y))) (hx:bl x≤1048576) (hy:bl y≤1048576) (hy0:y≠0) (hk: -4194304≤k∧k≤4194304) (hp: -4194304≤pos∧pos≤4194304):Calls pr rounded_quotient_id #[.bool neg,a.v,b.v, .int .i64 k, .int .i64 pos, .int .i64 m] w (DOut w (tC (rdQ m neg (nu x (k -pos)/de y (k -pos)) (bhv (nu x (k -pos)) (de y (k -pos)))) pos) neg (rdQ m neg (nu x (k -pos)/de y (k -pos)) (bhv (nu x (k -pos)) (de y (k -pos)))) pos):=by
 have hB:=B64v
 have hwp:wi pos:=by unfold wi;omega
 have lx:=zw (N:=x) (m:=2^15) (by omega)
 have ly:=zw (N:=y) (m:=2^15) (by omega)
 obtain ⟨s,hs⟩:∃s,s=k -pos:=⟨_,rfl⟩
 have ws:IntKind.i64.wrap (k -pos)=s:=by rw [zp (by omega) (by omega),hs]
 rw [←hs]
 obtain ⟨QQ,hQQ⟩:∃QQ,QQ=rdQ m neg (nu x s/de y s) (bhv (nu x s) (de y s)):=⟨_,rfl⟩
 rw [←hQQ]
 refine Calls.mono (dt neg a b k pos m w (fun en w'=>∃s',en= .returned (.tuple #[.agg (c3 (if tC QQ pos=0 then nD neg QQ else false) s' (if tC QQ pos=0 then eD QQ pos else 0)), .int .i64 (tC QQ pos)])∧OwnNil w.heap.size w' s' (if tC QQ pos=0 then digs B64 (od QQ) else []))
  (fun t0 t1 t2 t4 t5 _ _ _ w'=>neg=t0∧pos=t4∧m=t5∧∃A C P:Nat,0<P∧C≠0∧nu x s=A*P∧de y s=C*P∧bl A≤16777216∧bl C≤16777216∧Rd .u64 w' t1 (nn (digs B64 A))∧Rd .u64 w' t2 (nn (digs B64 C))) ?_ ?_) fun en w' ⟨h1,h2⟩=>⟨h1,h2⟩
 ·rw [Y3 ra,ws]
  refine zm (fun h0=> ?_) (fun h0=> ?_)
  ·have hx0:=of_decide_eq_true h0
   subst hx0
   intro w1 x1 a1
   have hn:nu 0 s=0:=Nat.zero_mul _
   have hz:QQ=0:=by
    rw [hQQ,hn,Nat.zero_div]
    have:bhv 0 (de y s)=0:=by unfold bhv;rw [Nat.zero_mod,if_pos rfl]
    rw [this]
    have hu:upB m neg 0 0=false:=by
     unfold upB
     by_cases g0:m=0
     ·simp [g0]
     ·by_cases g1:m=1
      ·simp [g1]
      ·simp [g0,g1]
    unfold rdQ
    rw [hu];rfl
   have hc:tC QQ pos=0:=by
    have e0:bl (od 0)=0:=by rw [vq,xm]
    rw [hz,tC,e0,if_neg (by omega),pu,if_pos (by unfold wi;omega)]
   rw [hc,if_pos rfl,if_pos rfl,if_pos rfl,hz,gj,pu,vq,yq]
   exact ⟨_,rfl,OwnNil.nil⟩
  ·have hx0:=of_decide_eq_false h0
   intro w2 x2 a2
   refine Calls.mono (xe (vd (ra.ahead a2) (by omega))) ?_
   rintro en w3 ⟨rfl,rfl⟩
   refine ⟨_,rfl,Ahead.refl _,Calls.mono (xe (vd (rb.ahead a2) (by omega))) ?_⟩
   rintro en w4 ⟨rfl,rfl⟩
   refine ⟨_,rfl,Ahead.refl _, ?_⟩
   have hbx:=vf hx0
   have hby:=vf hy0
   rw [zp (x:=(bl x:Int) -(bl y:Int)) (by omega) (by omega),zp (x:=(bl x:Int) -(bl y:Int)+s) (by omega) (by omega)]
   refine zt (decide_eq_false (by omega)) (zm (fun hlow=> ?_) (fun hlow=> ?_))
   ·have hlow':=of_decide_eq_true hlow
    have hD:2*nu x s<de y s:=by
     have hb0:bl (nu x s)=bl x+s.toNat:=fk hx0
     have hb1:bl (de y s)=bl y+(-s).toNat:=fk hy0
     have h2:=uv (nu x s)
     have h3:=(tc (n:=de y s) (fun h=>by rw [h,xm] at hb1;omega)).1
     rw [hb1] at h3
     rw [hb0] at h2
     have h4:2^(bl x+s.toNat+1)≤2^(bl y+(-s).toNat -1):=Nat.pow_le_pow_right (by omega) (by omega)
     rw [Nat.pow_succ] at h4
     omega
    have hn0:nu x s≠0:=Nat.ne_of_gt (Nat.mul_pos (Nat.pos_of_ne_zero hx0) (Nat.pow_pos (by omega)))
    have hq:nu x s/de y s=0:=Nat.div_eq_of_lt (by omega)
    have hb:bhv (nu x s) (de y s)=1:=by
     unfold bhv;rw [Nat.mod_eq_of_lt (by omega),if_neg hn0,if_pos hD]
    rw [hq,hb] at hQQ
    have b1:bl (0+1)≤1:=vw (by omega)
    have hf:=j6 (neg:=neg) (q:=0) (bh:=1) (m:=m) (a:=⟨none,0,0⟩) (hT.ahead a2) (by rw [yq];exact Rd.nil) (by omega) hwp
    rw [←hQQ] at hf
    refine Calls.mono hf ?_
    rintro en w6 ⟨h6,s',rfl,o6⟩
    exact ⟨_,_,_,_,rfl,h6,fun w7 x7 a7=>⟨_,rfl,(o6.ext x7).mono a2.size⟩⟩
   ·have hlow':=of_decide_eq_false hlow
    refine zm (fun hge=> ?_) (fun hlt=> ?_)
    ·have hge':0≤s:=of_decide_eq_true hge
     obtain ⟨S,rfl⟩:=Int.eq_ofNat_of_zero_le hge'
     refine Calls.mono (mj (hT.ahead a2) (rb.ahead a2) (by omega) (yb two64 y)) ?_
     rw [zu two64]
     rintro en w8 ⟨rfl,rfl⟩
     obtain ⟨t,ht⟩:∃t,t=min S (tz y):=⟨_,rfl⟩
     have emin:minI (S:Int) ((tz y:Nat):Int)=(t:Int):=by unfold minI;split<;>omega
     refine ⟨_,rfl,Ahead.refl _, ?_⟩
     try dsimp only
     rw [emin,zp (x:=(S:Int) -(t:Int)) (by omega) (by omega),show (S:Int) -(t:Int)=((S -t:Nat):Int) by omega]
     refine Calls.mono (cx (n:=S -t) (ra.ahead a2) (by omega)) ?_
     rintro en w9 ⟨h9,s2,rfl,o2⟩
     refine ⟨_,rfl,h9,Calls.mono (jf (n:=t) ((rb.ahead a2).ahead h9) (by omega) (yb two64 y) (by omega)) ?_⟩
     try dsimp only
     rw [zu two64]
     rintro en w10 ⟨h10,s3,rfl,o3⟩
     have hyt:=fe (x:=y) (t:=t) (by omega)
     refine ⟨_,rfl,h10,rfl,rfl,rfl,x*2^(S -t),y/2^t,2^t,Nat.pow_pos (by omega),fun h=>by rw [h,Nat.zero_mul] at hyt;omega, ?_, ?_, ?_, ?_,(o2.ahead h10).rd,o3.rd⟩
     ·unfold nu
      rw [Int.toNat_natCast,Nat.mul_assoc,←Nat.pow_add,Nat.sub_add_cancel (by omega)]
     ·unfold de
      rw [hyt,show (-(S:Int)).toNat=0 by omega,Nat.pow_zero,Nat.mul_one]
     ·exact Nat.le_trans (qz _ _) (by omega)
     ·exact Nat.le_trans (yw (Nat.div_le_self _ _)) (by omega)
    ·have hlt':¬0≤s:=of_decide_eq_false hlt
     obtain ⟨S,hS⟩:∃S:Nat,-s=(S:Int):=⟨(-s).toNat,by omega⟩
     refine Calls.mono (mj (hT.ahead a2) (ra.ahead a2) (by omega) (yb two64 x)) ?_
     rw [zu two64]
     rintro en w8 ⟨rfl,rfl⟩
     obtain ⟨t,ht⟩:∃t,t=min S (tz x):=⟨_,rfl⟩
     refine ⟨_,rfl,Ahead.refl _, ?_⟩
     have emin:minI (S:Int) ((tz x:Nat):Int)=(t:Int):=by unfold minI;split<;>omega
     rw [zp (x:=0 -s) (by omega) (by omega),show 0 -s=(S:Int) by omega,emin,zp (x:=(S:Int) -(t:Int)) (by omega) (by omega),show (S:Int) -(t:Int)=((S -t:Nat):Int) by omega]
     refine Calls.mono (jf (n:=t) (ra.ahead a2) (by omega) (yb two64 x) (by omega)) ?_
     rw [zu two64]
     rintro en w9 ⟨h9,s2,rfl,o2⟩
     refine ⟨_,rfl,h9,Calls.mono (cx (n:=S -t) ((rb.ahead a2).ahead h9) (by omega)) ?_⟩
     rintro en w10 ⟨h10,s3,rfl,o3⟩
     have hxt:=fe (x:=x) (t:=t) (by omega)
     refine ⟨_,rfl,h10,rfl,rfl,rfl,x/2^t,y*2^(S -t),2^t,Nat.pow_pos (by omega),fun h=> ?_, ?_, ?_, ?_, ?_,(o2.ahead h10).rd,o3.rd⟩
     ·have:=Nat.mul_pos (Nat.pos_of_ne_zero hy0) (Nat.pow_pos (n:=S -t) (show 0<2 by omega));omega
     ·unfold nu
      rw [hxt,show s.toNat=0 by omega,Nat.pow_zero,Nat.mul_one]
     ·unfold de
      rw [show (-s).toNat=S by omega,Nat.mul_assoc,←Nat.pow_add,Nat.sub_add_cancel (by omega)]
     ·exact Nat.le_trans (yw (Nat.div_le_self _ _)) (by omega)
     ·exact Nat.le_trans (qz _ _) (by omega)
 ·rintro t0 t1 t2 t4 t5 b1 sx e1 w1 a1 ⟨rfl,rfl,rfl,A,C,P,hP,hC,hA,hD,lA,lC,r1,r2⟩
  obtain ⟨m1,m2⟩:=zeh (N:=A) (D:=C) hP
  rw [hA,hD,m1,m2] at hQQ
  have dA:=zw (N:=A) (m:=2^18) (by omega)
  have dC:=zw (N:=C) (m:=2^18) (by omega)
  have nA:=vd r1 (by omega)
  have nC:=vd r2 (by omega)
  have hle:A/C≤A:=Nat.div_le_self _ _
  have bq:=yw hle
  have hqc:quoC A C=0:=by rw [quoC,if_neg hC,xc (by omega)]
  refine Calls.mono (jm nA nC) ?_
  intro en w11 hr
  obtain ⟨h11,q,rfl,oq,nq⟩:=hr.num hqc (by omega)
  have hmul:A/C*C≤A:=Nat.div_mul_le_self _ _
  have bm:=yw hmul
  refine ⟨_,_,rfl,h11,zt rfl (Calls.mono (za6 nq (nC.ahead h11) (by omega) (by omega) (by omega)) ?_)⟩
  rintro en w13 ⟨h13,s5,rfl,o5⟩
  have h1113:=h11.trans h13
  refine ⟨_,rfl,h13,Calls.mono (zan (r1.ahead h1113) o5.rd (by omega) hmul) ?_⟩
  rintro en w14 ⟨h14,s6,rfl,o6⟩
  have hmod:A -A/C*C=A % C:=by have:=Nat.div_add_mod A C;rw [Nat.mul_comm] at this;omega
  rw [hmod] at o6
  have h114:=h1113.trans h14
  have hml:A % C<C:=Nat.mod_lt _ (by omega)
  have hn6:s6.n=(digs B64 (A % C)).length:=by rw [o6.rd.n,nn_length]
  have rq14:Rd .u64 w14 q (nn (digs B64 (A/C))):=((oq.ahead h13).ahead h14).rd
  have bq1:bl (A/C+1)≤67108864:=Nat.le_trans (yw (show A/C+1≤A*2^1+1 by omega)) (Nat.le_trans (vw (k:=bl A+2) (by
   have:=uv A
   rw [Nat.pow_add];omega)) (by omega))
  refine ⟨_,rfl,h14,zm (fun hpos=> ?_) (fun hpos=> ?_)⟩
  ·have hr0:A % C≠0:=fun h=>by
    have h0:=of_decide_eq_true hpos
    rw [hn6,h,yq] at h0;simp at h0
   have lr:=xh two64 (Nat.le_of_lt hml)
   refine Calls.mono (cx (n:=1) o6.rd (by omega)) ?_
   rintro en w15 ⟨h15,s7,rfl,o7⟩
   have b2:bl (A % C*2^1)≤67108864:=Nat.le_trans (qz _ _) (by have:=yw (Nat.le_of_lt hml);omega)
   refine ⟨_,rfl,h15,Calls.mono (uf (xf o7 b2) ((nC.ahead h114).ahead h15)) ?_⟩
   rintro en w16 ⟨h16,rfl⟩
   refine ⟨_,rfl,h16, ?_⟩
   try dsimp only
   rw [zdm (by omega)]
   have hb:bhv A C=(if 2*(A % C)<C then 1 else if 2*(A % C)=C then 2 else 3):=by unfold bhv;rw [if_neg hr0]
   rw [←hb]
   have h1416:=h15.trans h16
   have hf:=j6 (neg:=neg) (q:=A/C) (bh:=bhv A C) (m:=m) (pos:=pos) (hT.ahead ((a1.trans h114).trans h1416)) (rq14.ahead h1416) bq1 hwp
   rw [←hQQ] at hf
   refine Calls.mono hf ?_
   rintro en w17 ⟨h17,s8,rfl,o8⟩
   have hbs:=((a1.trans h114).trans h1416).size
   exact ⟨_,_,_,_,rfl,h17,fun w18 x18 a18=>⟨_,rfl,(o8.ext x18).mono hbs⟩⟩
  ·have hr0:A % C=0:=by
    have h0:=of_decide_eq_false hpos
    rcases Nat.eq_zero_or_pos (A % C) with h|h
    ·exact h
    ·have:=List.length_pos_iff.2 (xv two64 (show A % C≠0 by omega));omega
   have hb:bhv A C=0:=by unfold bhv;rw [if_pos hr0]
   rw [hb] at hQQ
   have hf:=j6 (neg:=neg) (q:=A/C) (bh:=0) (m:=m) (pos:=pos) (hT.ahead (a1.trans h114)) rq14 bq1 hwp
   rw [←hQQ] at hf
   refine Calls.mono hf ?_
   rintro en w19 ⟨h19,s9,rfl,o9⟩
   have hbs:=(a1.trans h114).size
   exact ⟨_,_,_,_,rfl,h19,fun w18 x18 a18=>⟨_,rfl,(o9.ext x18).mono hbs⟩⟩
end Ro
end
section
open Go Go.RowKit Eng Sp Dg L2
namespace R7
open _root_.Go.Proofs.YtbeiopoejdkheaaGreatDoor.Ref (RN RN.ahead RN.ext RN.nil RN.n ks pe tg qp uz n9 me qh v7 qw)
open _root_.Go.Proofs.YtbeiopoejdkheaaGreatDoor.Rt (Zd qx qn)
open _root_.Go.Proofs.YtbeiopoejdkheaaGreatDoor.Ro (qz fe)
open Dy
theorem mr {w a b} {x y k l:Nat} (ha:RN w a x) (hb:RN w b y) (hx:bl x≤k) (hy:bl y≤l) (hk:k≤67108864) (hl:l≤67108864):Calls pr surdref01_Mul_id #[a.v,b.v] w fun e w'=>Ahead w w'∧∃s',e= .returned (Slc.v s')∧RN w' s' (x*y)∧bl (x*y)≤k+l:=by
 have lx:=l32 (N:=x) (m:=2^22) (by omega)
 have ly:=l32 (N:=y) (m:=2^22) (by omega)
 refine Calls.mono (ks ha hb (by omega)) ?_
 rintro e w' ⟨h1,s,rfl,rs⟩
 exact ⟨h1,s,rfl,rs,Nat.le_trans (nh x y) (by omega)⟩
theorem Tj {w a} {b:Bool} {s t} {u v:Slc} {p p':Int} {q q' k k':Nat} (h:RV w a s t p q k) (h':RV w b u v p' q' k') (hk:k+k'≤67108864):Calls pr surdref07_Mul_id #[.agg #[.bool a,s.v,t.v], .agg #[.bool b,u.v,v.v]] w fun e w'=>Ahead w w'∧RA (p*p') (q*q') (k+k') e w':=by
 obtain ⟨hq,n,d,r1,r2,hd,b1,b2,hv⟩:=h
 obtain ⟨hq',n',d',r1',r2',hd',b1',b2',hv'⟩:=h'
 refine Vf a s t b u v w (RA (p*p') (q*q') (k+k')) fun w1 x1 a1=> ?_
 refine Calls.mono (mr (r1.ahead a1) (r1'.ahead a1) b1 b1' (by omega) (by omega)) ?_
 rintro e w2 ⟨h2,x,rfl,rx,bx⟩
 have a2:=a1.trans h2
 refine ⟨_,rfl,h2,Calls.mono (mr (r2.ahead a2) (r2'.ahead a2) b2 b2' (by omega) (by omega)) ?_⟩
 rintro e w3 ⟨h3,y,rfl,ry,by'⟩
 refine ⟨_,rfl,h3,Calls.mono (mi (rx.ahead h3) ry (Nat.mul_pos hd hd') bx by' hk) ?_⟩
 rintro e w4 ⟨h4,c,x1,y1,rfl,hr⟩
 refine ⟨_,_,_,rfl,h4,fun w5 x5 a5=>⟨_,_,_,rfl,(hr.ext x5).conv (Nat.mul_pos hq hq') ?_⟩⟩
 rw [U2,Int.natCast_mul,Int.natCast_mul]
 calc sg a n*sg b n'*((q:Int)*(q':Int))=(sg a n*(q:Int))*(sg b n'*(q':Int)):=by ac_rfl
  _=(p*(d:Int))*(p'*(d':Int)):=by rw [hv,hv']
  _=p*p'*((d:Int)*(d':Int)):=by ac_rfl
theorem Cy (p:Int):sgZ p*p=(p.natAbs:Int):=by
 unfold sgZ
 split
 ·subst_vars;rfl
 ·split
  ·omega
  ·omega
theorem D4 {w a} {b:Bool} {s t} {u v:Slc} {p p':Int} {q q' k k':Nat} (h:RV w a s t p q k) (h':RV w b u v p' q' k') (hp:p'≠0) (hk:k+k'≤67108864):Calls pr surdref07_Quo_id #[.agg #[.bool a,s.v,t.v], .agg #[.bool b,u.v,v.v]] w fun e w'=>Ahead w w'∧RA (sgZ p'*(p*(q':Int))) (q*p'.natAbs) (k+k') e w':=by
 obtain ⟨hq,n,d,r1,r2,hd,b1,b2,hv⟩:=h
 obtain ⟨hq',n',d',r1',r2',hd',b1',b2',hv'⟩:=h'
 have hsg:=Zw hq' hd' hv'
 have hn':n'≠0:=fun h0=>by
  rw [h0,uq,Int.zero_mul] at hv'
  rcases Int.mul_eq_zero.1 hv'.symm with h1|h1
  ·exact hp h1
  ·omega
 refine Vj a s t b u v w (RA (sgZ p'*(p*(q':Int))) (q*p'.natAbs) (k+k')) fun w1 x1 a1=> ?_
 refine Calls.mono (mr (r1.ahead a1) (r2'.ahead a1) b1 b2' (by omega) (by omega)) ?_
 rintro e w2 ⟨h2,x,rfl,rx,bx⟩
 have a2:=a1.trans h2
 refine ⟨_,rfl,h2,Calls.mono (mr (r2.ahead a2) (r1'.ahead a2) b2 b1' (by omega) (by omega)) ?_⟩
 rintro e w3 ⟨h3,y,rfl,ry,by'⟩
 refine ⟨_,rfl,h3,Calls.mono (mi (rx.ahead h3) ry (Nat.mul_pos hd (by omega)) bx by' hk) ?_⟩
 rintro e w4 ⟨h4,c,x1,y1,rfl,hr⟩
 refine ⟨_,_,_,rfl,h4,fun w5 x5 a5=>⟨_,_,_,rfl,(hr.ext x5).conv (Nat.mul_pos hq (by omega)) ?_⟩⟩
 have e1:sg (!(a==b)) (n*d')=sgZ p'*(sg a n*(d':Int)):=by
  rw [←hsg,if_neg hn']
  cases a<;>cases b<;>simp [sg,Int.neg_mul,Int.natCast_mul]
 have e2:((p'.natAbs:Nat):Int)*(d':Int)=(n':Int)*(q':Int):=by
  rw [←Cy,Int.mul_assoc,←hv',←hsg,if_neg hn']
  cases b<;>simp [sg,Int.neg_mul,Int.mul_neg]
 rw [e1,Int.natCast_mul,Int.natCast_mul]
 calc sgZ p'*(sg a n*(d':Int))*((q:Int)*(p'.natAbs:Int))=sgZ p'*((sg a n*(q:Int))*((p'.natAbs:Int)*(d':Int))):=by ac_rfl
  _=sgZ p'*((p*(d:Int))*((n':Int)*(q':Int))):=by rw [hv,e2]
  _=sgZ p'*(p*(q':Int))*((d:Int)*(n':Int)):=by ac_rfl
theorem zd5 {w a s t} {p:Int} {q k:Nat} (h:RV w a s t p q k):Calls pr surdref07_Neg_id #[.agg #[.bool a,s.v,t.v]] w fun e w'=>Ahead w w'∧RA (-p) q k e w':=by
 obtain ⟨hq,n,d,r1,r2,hd,b1,b2,hv⟩:=h
 have hsg:=Zw hq hd hv
 refine Vh a s t w (RA (-p) q k) fun w1 x1 a1=> ?_
 refine Calls.mono (ug (r1.ahead a1)) ?_
 rintro e w2 ⟨h2,rfl⟩
 have a2:=a1.trans h2
 refine ⟨_,rfl,h2,zm (fun hz=> ?_) (fun hz=> ?_)⟩
 ·intro w3 x3 a3
  refine ⟨_,_,_,rfl,hq,n,d,(r1.ahead a2).ext x3,(r2.ahead a2).ext x3,hd,b1,b2, ?_⟩
  try dsimp only
  rw [Int.neg_mul,←hv]
  cases a<;>simp [sg,Int.neg_mul]
 ·have hn:n=0:=by
   by_cases h0:n=0
   ·exact h0
   ·rw [if_neg h0] at hz
    cases a<;>simp at hz
  intro w4 x4 a4
  refine ⟨_,_,_,rfl,hq,n,d,(r1.ahead a2).ext x4,(r2.ahead a2).ext x4,hd,b1,b2, ?_⟩
  try dsimp only
  rw [Int.neg_mul,←hv,hn,uq,Int.zero_mul];rfl
theorem zd2 {w a s t} {p:Int} {q k:Nat} (h:RV w a s t p q k):Calls pr surdref07_Abs_id #[.agg #[.bool a,s.v,t.v]] w fun e w'=>Ahead w w'∧RA (p.natAbs:Int) q k e w':=by
 obtain ⟨hq,n,d,r1,r2,hd,b1,b2,hv⟩:=h
 have hsg:=Zw hq hd hv
 refine X0 a s t w (RA (p.natAbs:Int) q k) fun w1 x1 a1=>⟨_,_,_,rfl,hq,n,d,r1.ext x1,r2.ext x1,hd,b1,b2, ?_⟩
 rw [←Cy,Int.mul_assoc,←hv,←hsg]
 by_cases h0:n=0
 ·rw [if_pos h0,h0,uq,uq,Int.zero_mul,Int.zero_mul]
 ·rw [if_neg h0]
  cases a<;>simp [sg,Int.neg_mul,Int.mul_neg]
theorem D0 {w:World} {v:Nat} (hv:v<9223372036854775808):Calls pr surdref07_Int_id #[.int .i64 (v:Int)] w fun e w'=>Ahead w w'∧RA (v:Int) 1 64 e w':=by
 refine Vd (v:Int) w (RA (v:Int) 1 64) (zt (decide_eq_false (by omega)) fun w6 x6 a6=> ?_)
 refine Calls.mono (uz hv) ?_
 rintro e w7 ⟨h7,s,rfl,rs⟩
 refine ⟨_,rfl,h7,Calls.mono (uz (v:=1) (by omega)) ?_⟩
 rintro e w8 ⟨h8,t,rfl,rt⟩
 refine ⟨_,rfl,h8,fun w9 x9 a9=>⟨_,_,_,rfl,by omega,v,1,(rs.ahead h8).ext x9,rt.ext x9,by omega,vw (by omega),by rw [qn];omega, ?_⟩⟩
 simp [sg]
theorem zaq {a b c:Int} (hc:0<c):a*c<b*c↔a<b:=
 ⟨fun h=>Int.lt_of_mul_lt_mul_right h (Int.le_of_lt hc),fun h=>Int.mul_lt_mul_of_pos_right h hc⟩
theorem fm {a b c:Int} (hc:0<c):cmpZ (a*c) (b*c)=cmpZ a b:=by
 unfold cmpZ
 have h1:=zaq (a:=a) (b:=b) hc
 have h2:a*c=b*c↔a=b:=⟨fun h=>Int.eq_of_mul_eq_mul_right (by omega) h,fun h=>by rw [h]⟩
 simp only [h1,h2]
theorem Ti {w a} {b:Bool} {s t} {u v:Slc} {p p':Int} {q q' k k':Nat} (h:RV w a s t p q k) (h':RV w b u v p' q' k') (hk:k+k'≤67108864):Calls pr surdref07_Cmp_id #[.agg #[.bool a,s.v,t.v], .agg #[.bool b,u.v,v.v]] w fun e w'=>Ahead w w'∧e= .returned (.int .i64 (cmpZ (p*(q':Int)) (p'*(q:Int)))):=by
 obtain ⟨hq,n,d,r1,r2,hd,b1,b2,hv⟩:=h
 obtain ⟨hq',n',d',r1',r2',hd',b1',b2',hv'⟩:=h'
 have key:cmpZ (p*(q':Int)) (p'*(q:Int))=cmpZ (sg a (n*d')) (sg b (n'*d)):=by
  have c1:(0:Int)<(d:Int)*(d':Int):=Int.mul_pos (by omega) (by omega)
  have c2:(0:Int)<(q:Int)*(q':Int):=Int.mul_pos (by omega) (by omega)
  rw [←fm c1,←fm (a:=sg a (n*d')) c2,qf,qf]
  congr 1
  ·calc p*(q':Int)*((d:Int)*(d':Int))=(p*(d:Int))*((q':Int)*(d':Int)):=by ac_rfl
    _=(sg a n*(q:Int))*((q':Int)*(d':Int)):=by rw [hv]
    _=sg a n*(d':Int)*((q:Int)*(q':Int)):=by ac_rfl
  ·calc p'*(q:Int)*((d:Int)*(d':Int))=(p'*(d':Int))*((q:Int)*(d:Int)):=by ac_rfl
    _=(sg b n'*(q':Int))*((q:Int)*(d:Int)):=by rw [hv']
    _=sg b n'*(d:Int)*((q:Int)*(q':Int)):=by ac_rfl
 rw [key]
 have z1:n*d'=0↔n=0:=⟨fun h=>(Nat.mul_eq_zero.1 h).resolve_right (by omega),fun h=>by rw [h,Nat.zero_mul]⟩
 have z2:n'*d=0↔n'=0:=⟨fun h=>(Nat.mul_eq_zero.1 h).resolve_right (by omega),fun h=>by rw [h,Nat.zero_mul]⟩
 refine Vb a s t b u v w (fun e w'=>e= .returned (.int .i64 (cmpZ (sg a (n*d')) (sg b (n'*d))))) fun w1 x1 a1=> ?_
 refine Calls.mono (ug (r1.ahead a1)) ?_
 rintro e w2 ⟨h2,rfl⟩
 have a2:=a1.trans h2
 refine ⟨_,rfl,h2,Calls.mono (ug (r1'.ahead a2)) ?_⟩
 rintro e w3 ⟨h3,rfl⟩
 have a3:=a2.trans h3
 refine ⟨_,rfl,h3,zm (fun hne=> ?_) (fun heq=> ?_)⟩
 ·intro w4 x4 a4
  refine Calls.mono (ug (r1.ahead a4)) ?_
  rintro e w5 ⟨h5,rfl⟩
  have a5:=a4.trans h5
  refine ⟨_,rfl,h5,Calls.mono (ug (r1'.ahead a5)) ?_⟩
  rintro e w6 ⟨h6,rfl⟩
  refine ⟨_,rfl,h6,zm (fun hlt=> ?_) (fun hlt=> ?_)⟩
  ·have hlt':=of_decide_eq_true hlt
   have:cmpZ (sg a (n*d')) (sg b (n'*d))= -1:=by
    generalize n*d'=P at*
    generalize n'*d=P' at*
    by_cases g1:n=0<;>by_cases g2:n'=0<;>cases a<;>cases b<;>simp [g1,g2,sg,cmpZ] at* <;>omega
   rw [this]
  ·have hlt':=of_decide_eq_false hlt
   have hne':(if n=0 then 0 else if a then -1 else 1:Int)≠(if n'=0 then 0 else if b then -1 else 1:Int):=by simpa using hne
   have:cmpZ (sg a (n*d')) (sg b (n'*d))=1:=by
    generalize n*d'=P at*
    generalize n'*d=P' at*
    by_cases g1:n=0<;>by_cases g2:n'=0<;>cases a<;>cases b<;>simp [g1,g2,sg,cmpZ] at* <;>omega
   rw [this]
 ·have heq':(if n=0 then 0 else if a then -1 else 1:Int)=(if n'=0 then 0 else if b then -1 else 1:Int):=by simpa using heq
  intro w7 x7 a7
  refine Calls.mono (ug (r1.ahead a7)) ?_
  rintro e w8 ⟨h8,rfl⟩
  have a8:=a7.trans h8
  refine ⟨_,rfl,h8,Calls.mono (mr (r1.ahead a8) (r2'.ahead a8) b1 b2' (by omega) (by omega)) ?_⟩
  rintro e w9 ⟨h9,x,rfl,rx,bx⟩
  have a9:=a8.trans h9
  refine ⟨_,rfl,h9,Calls.mono (mr (r1'.ahead a9) (r2.ahead a9) b1' b2 (by omega) (by omega)) ?_⟩
  rintro e w10 ⟨h10,y,rfl,ry,by'⟩
  have l1:=l32 (N:=n*d') (m:=2^22) (by omega)
  have l2:=l32 (N:=n'*d) (m:=2^22) (by omega)
  refine ⟨_,rfl,h10,Calls.mono (qh (rx.ahead h10) ry (by omega) (by omega)) ?_⟩
  rintro e w11 ⟨h11,rfl⟩
  refine ⟨_,rfl,h11, ?_⟩
  have:IntKind.i64.wrap ((if n=0 then 0 else if a then -1 else 1:Int)*cmpI (n*d') (n'*d))=cmpZ (sg a (n*d')) (sg b (n'*d)):=by
   generalize n*d'=P at*
   generalize n'*d=P' at*
   by_cases g1:n=0
   ·have g2:n'=0:=by
     by_cases g2:n'=0
     ·exact g2
     ·rw [if_pos g1,if_neg g2] at heq'
      cases b<;>simp at heq'
    rw [if_pos g1,Int.zero_mul,z1.2 g1,z2.2 g2,uq,uq]
    rfl
   ·have g2:n'≠0:=fun g2=>by
     rw [if_neg g1,if_pos g2] at heq'
     cases a<;>simp at heq'
    have hab:a=b:=by
     rw [if_neg g1,if_neg g2] at heq'
     cases a<;>cases b<;>simp at heq'⊢
    subst hab
    rw [if_neg g1]
    rcases Nat.lt_trichotomy P P' with g|g|g
    ·have e1:cmpI P P'= -1:=by unfold cmpI;rw [if_pos g]
     rw [e1]
     cases a
     ·have:cmpZ (sg false P) (sg false P')= -1:=by simp [cmpZ,sg];omega
      rw [this];rfl
     ·have:cmpZ (sg true P) (sg true P')=1:=by
       unfold cmpZ;rw [if_neg (by simp [sg];omega),if_neg (by simp [sg];omega)]
      rw [this];rfl
    ·subst g
     have e1:cmpI P P=0:=by unfold cmpI;rw [if_neg (by omega),if_neg (by omega)]
     have:cmpZ (sg a P) (sg a P)=0:=by unfold cmpZ;rw [if_neg (by omega),if_pos rfl]
     rw [e1,this,Int.mul_zero];rfl
    ·have e1:cmpI P P'=1:=by unfold cmpI;rw [if_neg (by omega),if_pos g]
     rw [e1]
     cases a
     ·have:cmpZ (sg false P) (sg false P')=1:=by
       unfold cmpZ;rw [if_neg (by simp [sg];omega),if_neg (by simp [sg];omega)]
      rw [this];rfl
     ·have:cmpZ (sg true P) (sg true P')= -1:=by
       unfold cmpZ;rw [if_pos (by simp [sg];omega)]
      rw [this];rfl
  rw [this]
end R7
end
section
open Go Go.RowKit Eng
open _root_.Go.IntKind (wrap)
def Ys (J0:Int→Slc→Int→Int→World→Prop) (m0:Int→Slc→Int→Int→World→Nat):Nat→Option ((Act→World→Prop)×(Act→World→Nat))
 |0=>some (fun a_ w_=>atSz a_ 19 (atI .i64 a_ 0 fun t0_most=>atS a_ 7 fun t7=>atI .i64 a_ 8 fun t8=>atI .i64 a_ 9 fun t9=>J0 t0_most t7 t8 t9 w_),fun a_ w_=>mI a_ 0 fun t0_most=>mS a_ 7 fun t7=>mI a_ 8 fun t8=>mI a_ 9 fun t9=>m0 t0_most t7 t8 t9 w_)
 |_=>none
theorem Vr (ac:Int) (ad:Slc) (w:World) (R:Ending→World→Prop) (J0:Int→Slc→Int→Int→World→Prop) (m0:Int→Slc→Int→Int→World→Nat) (h:J0 ac ad (ad.n:Int) 0 w) (h0:∀aa t7 t8 t9 w_,J0 aa t7 t8 t9 w_→br (decide (t9<t8)) (semA pr (Instr.indexAt 62 t7.v (vi t9)) w_ fun ad1 w1=>ldS ad1 w1 fun s1=>kS 33 #[s1.v] w1 fun w2 s2=>(kI 34 #[s2.v] w2 fun w3 x1=>(br (decide (x1>aa)) (R (.returned (.bool false)) w3) (J0 aa t7 t8 (wrap .i64 (t9+1)) w3∧m0 aa t7 t8 (wrap .i64 (t9+1)) w3<m0 aa t7 t8 t9 w_)))) (R (.returned (.bool true)) w_)):Calls pr 5 #[vi ac,ad.v] w R:=by
 refine zk (Ys J0 m0) (by kernel_rfl) Tryz.func5 rfl ?_ ?_
 ·refine kcast h ?_;kernel_rfl
 ·exact (za rfl (ze (za rfl (za rfl (ze (yg _ rfl (fun a_ w_ ab=>(by
  obtain ⟨ae,af,ab⟩:=ya ab
  obtain ⟨aa,ag,ab⟩:=zq ab
  obtain ⟨t7,ah,ab⟩:=zr ab
  obtain ⟨t8,ai,ab⟩:=zq ab
  obtain ⟨t9,aj,ab⟩:=zq ab
  obtain ⟨g0,rfl⟩:∃g,a_=Fr 19 [(0,vi aa),(7,t7.v),(8,vi t8),(9,vi t9)] g:=⟨_,yp ae af _ (zf ag (zf ah (zf ai (zf aj yc))))⟩
  clear ae af ag ah ai aj
  have ak:=ab
  refine ⟨(fun _=>none),kcast (h0 aa t7 t8 t9 w_ ak) ?_, ?_⟩
  ·kernel_rfl
  ·exact (za rfl (ze (za rfl (zh (zi (ye (za rfl (yh rfl (za rfl (ze (za rfl (ze (zh (za rfl (ze (zg (zi (ze trivial)))))))))))))))))))) (za rfl (ze (zg trivial)))))))))
theorem ck (w:World) (R:Ending→World→Prop) (h:newC w #[.int .u64 1] 65 fun ad1 w1=>newC w1 #[.int .u64 3] 65 fun ad2 w2=>kV 35 #[.agg #[.bool false,(⟨some ad1,1,1⟩:Slc).v,(⟨some ad2,1,1⟩:Slc).v],vi (-4)] w2 fun w3 b1 s1 x1 b2 s2 x2 x3=>(newC w3 (zS false nSl 0 false nSl 0) 50 fun ad3 w4=>xS ad3 b1 s1 x1 b2 s2 x2 w4 fun w10=>kB 36 #[] w10 fun w11 b3=>(br b3 (br (x3==0) (ld3 ad3 w11 fun b4 s3 x4=>kI 37 #[uD b4 s3 x4] w11 fun w12 x5=>(br (x5==1) (ldI .i64 (ad3.add 2) w12 fun x6=>br (x6==(-4)) (kR 38 #[vi 5] w12 fun w13 b5 s4 s5=>(semA pr (Instr.indexAt 23 s4.v (vi 0)) w13 fun ad4 w14=>ldI .u64 ad4 w14 fun x7=>R (.returned (.bool (x7==5))) w14)) (R (.returned (.bool false)) w12)) (R (.returned (.bool false)) w12))) (R (.returned (.bool false)) w11)) (R (.returned (.bool false)) w11)))):Calls pr 6 #[] w R:=by
 refine zk (fun _=>none) (by kernel_rfl) Tryz.func6 rfl ?_ ?_
 ·refine kcast h ?_;kernel_rfl
 ·exact (za rfl (ze (za rfl (ze (za rfl (ze (zg trivial)))))))
theorem Tc (aa:Bool) (ab:Slc) (ac:Int) (w:World) (R:Ending→World→Prop) (h:newC w (zD aa ab ac) 27 fun ad1 w1=>newC w1 (zD false nSl 0) 27 fun ad2 w2=>ldI .i64 (ad1.add 2) w2 fun x1=>kI 8 #[vi x1,vi (-99),vi 99] w2 fun w3 x2=>(stC (ad1.add 2) (vi x2) w3 fun w4=>ld3 ad1 w4 fun b1 s1 x3=>xD ad2 b1 s1 x3 w4 fun w7=>ld3 ad2 w7 fun b2 s2 x4=>R (.returned (uD b2 s2 x4)) w7)):Calls pr 7 #[uD aa ab ac] w R:=by
 refine zk (fun _=>none) (by kernel_rfl) Tryz.func7 rfl ?_ ?_
 ·refine kcast h ?_;kernel_rfl
 ·exact (za rfl (ze (za rfl (ze (za rfl (ze (zg trivial)))))))
theorem Qw (ac:Int) (aa:Int) (ab:Int) (w:World) (R:Ending→World→Prop) (h:semI pr .i64 (binOp .rem 3 (vi ac) (vi (wrap .i64 ((wrap .i64 (ab -aa))+1)))) w fun x1 w1=>br (decide (x1<0)) (R (.returned (vi (wrap .i64 (aa+(wrap .i64 (x1+(wrap .i64 ((wrap .i64 (ab -aa))+1)))))))) w1) (R (.returned (vi (wrap .i64 (aa+x1)))) w1)):Calls pr 8 #[vi ac,vi aa,vi ab] w R:=by
 refine zk (fun _=>none) (by kernel_rfl) Tryz.func8 rfl ?_ ?_
 ·refine kcast h ?_;kernel_rfl
 ·exact (za rfl (ze (za rfl (ze (za rfl (za rfl (ze (zh (ze (zi (za rfl (ze (zg trivial)))))))))))))
theorem cg (aa:Bool) (ab:Slc) (ac:Int) (w:World) (R:Ending→World→Prop) (h:newC w (zD aa ab ac) 27 fun ad1 w1=>newC w1 (zR false nSl nSl) 34 fun ad2 w2=>ld3 ad1 w2.drew fun b1 s1 x1=>kR 39 #[.bool b1,s1.v] w2.drew fun w3 b2 s2 s3=>(Ahead w2.drew w3∧(kR 15 #[uR b2 s2 s3,vi x1] w3 fun w4 b3 s4 s5=>(Ahead w3 w4∧(xR ad2 b3 s4 s5 w4 fun w7=>ldr ad2 w7 fun b4 s6 s7=>R (.returned (uR b4 s6 s7)) w7))))):Calls pr 9 #[uD aa ab ac] w R:=by
 refine zk (fun _=>none) (by kernel_rfl) Tryz.func9 rfl ?_ ?_
 ·refine kcast h ?_;kernel_rfl
 ·exact (za rfl (ze (za rfl (yy (by kernel_rfl) (by kernel_rfl) (by kernel_rfl) (zg trivial)))))
theorem ci (ab:Bool) (aa:Slc) (w:World) (R:Ending→World→Prop) (h:newC w (zR false nSl nSl) 34 fun ad1 w1=>kS 33 #[aa.v] w1 fun w2 s1=>(kS 56 #[vi 1] w2 fun w3 s2=>(Calls pr 44 (zR ab s1 s2) w3 fun e3 w4=>jR e3 fun b1 s3 s4=>(xR ad1 b1 s3 s4 w4 fun w7=>ldr ad1 w7 fun b2 s5 s6=>R (.returned (uR b2 s5 s6)) w7)))):Calls pr 39 #[.bool ab,aa.v] w R:=by
 refine zk (fun _=>none) (by kernel_rfl) Tryz.func39 rfl ?_ ?_
 ·refine kcast h ?_;kernel_rfl
 ·exact (za rfl (ze (za rfl (ze (zg trivial)))))
theorem Vt (w:World) (R:Ending→World→Prop) (h:newC w #[.int .u64 6] 65 fun ad1 w1=>newC w1 #[.int .u64 7] 65 fun ad2 w2=>Calls pr 79 #[(⟨some ad1,1,1⟩:Slc).v,(⟨some ad2,1,1⟩:Slc).v] w2 fun e1 w3=>∃s1:Slc,∃x1:Int,e1= .returned (.tuple #[s1.v,vi x1])∧(newC w3 #[.int .u64 49] 65 fun ad3 w4=>Calls pr 51 #[(⟨some ad3,1,1⟩:Slc).v] w4 fun e2 w5=>∃s2:Slc,∃s3:Slc,∃x2:Int,e2= .returned (.tuple #[s2.v,s3.v,vi x2])∧(Calls pr 80 #[s1.v,vi 10] w5 fun e3 w6=>∃n1:ByteArray,∃x3:Int,e3= .returned (.tuple #[.string n1,vi x3])∧(br (x1==0) (br (x2==0) (br (x3==0) (br (n1.toList==(⟨#[52,50]⟩:ByteArray).toList) (newC w6 #[.int .u64 7] 65 fun ad4 w7=>kI 81 #[s2.v,(⟨some ad4,1,1⟩:Slc).v] w7 fun w8 x4=>(br (x4==0) (newC w8 #[.int .u64 1] 65 fun ad5 w9=>kI 82 #[.agg #[.bool true,(⟨some ad5,1,1⟩:Slc).v]] w9 fun w10 x5=>(R (.returned (.bool (x5==(-1)))) w10)) (R (.returned (.bool false)) w8))) (R (.returned (.bool false)) w6)) (R (.returned (.bool false)) w6)) (R (.returned (.bool false)) w6)) (R (.returned (.bool false)) w6))))):Calls pr 36 #[] w R:=by
 refine zk (fun _=>none) (by kernel_rfl) Tryz.func36 rfl ?_ ?_
 ·refine kcast h ?_;kernel_rfl
 ·exact (za rfl (ze (za rfl (ze (za rfl (ze (za rfl (ze (za rfl (ze (zg trivial)))))))))))
end
section
open Go Go.RowKit Eng L2
theorem cj (w:World) (R:Ending→World→Prop) (h:newC w #[.int .u64 1] 65 fun ad1 w1=>newC w1 #[.int .u64 3] 65 fun ad2 w2=>kV 35 #[.agg #[.bool false,(⟨some ad1,1,1⟩:Slc).v,(⟨some ad2,1,1⟩:Slc).v],vi (-4)] w2 fun w3 b1 s1 x1 b2 s2 x2 x3=>Ahead w2 w3∧(xw w w3 fun w4=>(kB 36 #[] w4 fun w5 b3=>Ahead w4 w5∧(br b3 (br (x3==0) (kI 37 #[uD b1 s1 x1] w5 fun w6 x4=>Ahead w5 w6∧(br (x4==1) (br (x1==(-4)) (kR 38 #[vi 5] w6 fun w7 b4 s3 s4=>Ahead w6 w7∧(semA pr (Instr.indexAt 23 s3.v (vi 0)) w7 fun ad3 w8=>w8=w7∧(ldI .u64 ad3 w7 fun x5=>R (.returned (.bool (x5==5))) w7))) (R (.returned (.bool false)) w6)) (R (.returned (.bool false)) w6))) (R (.returned (.bool false)) w5)) (R (.returned (.bool false)) w5))))):Calls pr 6 #[] w (fun e_ w_=>Ahead w w_∧R e_ w_):=by
  refine ck w _ ?_
  · have A:Ahead w w:=Ahead.refl w
    have X:Ext w w:=Ext.refl w
    refine tb h fun ad1 w1 a h_=> ?_;replace h:=h_;clear h_;obtain ⟨A,X⟩:=axr2 a A;refine tb h fun ad2 w2 a h_=> ?_;replace h:=h_;clear h_;obtain ⟨A,X⟩:=axr2 a A;refine Calls.mono h ?_;clear h;rintro e1 w3 ⟨b1,s1,x1,b2,s2,x2,x3,he_,a,h⟩;refine ⟨b1,s1,x1,b2,s2,x2,x3,he_, ?_⟩;clear he_;obtain ⟨A,X⟩:=axr2 a A;refine zn fun bk1 u1 hb a _ B1=> ?_;have g1:=zj A.size hb;obtain ⟨A,X⟩:=axa2 a A X;refine s6_t B1 fun u2 k B1=> ?_;obtain ⟨A,X⟩:=axu2 k g1 A X;replace h:=h _ X A;refine Calls.mono h ?_;clear h;rintro e2 w5 ⟨b3,he_,a,h⟩;refine ⟨b3,he_, ?_⟩;clear he_;replace B1:=B1.ahead a;obtain ⟨A,X⟩:=axr2 a A;refine zv h (fun h_=> ?_) (fun h_=> ?_)
    ·replace h:=h_;clear h_;refine zv h (fun h_=> ?_) (fun h_=> ?_)
     ·replace h:=h_;clear h_;refine v9 B1 ?_;refine Calls.mono h ?_;clear h;rintro e3 w6 ⟨x4,he_,a,h⟩;refine ⟨x4,he_, ?_⟩;clear he_;replace B1:=B1.ahead a;obtain ⟨A,X⟩:=axr2 a A;refine zv h (fun h_=> ?_) (fun h_=> ?_)
      ·replace h:=h_;clear h_;refine xg 2 B1 rfl ?_;refine zv h (fun h_=> ?_) (fun h_=> ?_)
       ·replace h:=h_;clear h_;refine Calls.mono h ?_;clear h;rintro e4 w7 ⟨b4,s3,s4,he_,a,h⟩;refine ⟨b4,s3,s4,he_, ?_⟩;clear he_;replace B1:=B1.ahead a;obtain ⟨A,X⟩:=axr2 a A;refine Gn h ?_;clear h;rintro ad3 _ ⟨rfl,h⟩;obtain ⟨x5,hc_,h⟩:=h;refine ⟨x5,hc_, ?_⟩;clear hc_;exact ⟨A,h⟩
       ·replace h:=h_;clear h_;exact ⟨A,h⟩
      ·replace h:=h_;clear h_;exact ⟨A,h⟩
     ·replace h:=h_;clear h_;exact ⟨A,h⟩
    ·replace h:=h_;clear h_;exact ⟨A,h⟩
theorem Tb (aa:Bool) (ab:Slc) (ac:Int) (w:World) (R:Ending→World→Prop) (h:xw w w fun w1=>(kI 8 #[vi ac,vi (-99),vi 99] w1 fun w2 x1=>Ahead w1 w2∧(xw w w2 fun w3=>(R (.returned (uD aa ab x1)) w3)))):Calls pr 7 #[uD aa ab ac] w (fun e_ w_=>Ahead w w_∧R e_ w_):=by
 refine Tc aa ab ac w _ ?_
 ·have A:Ahead w w:=Ahead.refl w
  have X:Ext w w:=Ext.refl w
  refine zn fun bk1 u1 hb a _ B1=> ?_;have g1:=zj A.size hb;obtain ⟨A,X⟩:=axa2 a A X;refine zn fun bk2 u2 hb a _ B2=> ?_;have g2:=zj A.size hb;have l1_2:=lt1 hb B1;replace B1:=B1.ahead a;obtain ⟨A,X⟩:=axa2 a A X;refine xg 2 B1 rfl ?_;replace h:=h _ X A;refine Calls.mono h ?_;clear h;rintro e1 w2 ⟨x1,he_,a,h⟩;refine ⟨x1,he_, ?_⟩;clear he_;obtain ⟨B1,B2⟩:=ah2 a B1 B2;obtain ⟨A,X⟩:=axr2 a A;refine uh 2 B1 rfl rfl rfl fun u3 k_u3 B1_=> ?_;replace B1:Blt u3 bk1 27 #[Value.bool aa,ab.v,vi x1]:=B1_;clear B1_;replace B2:=up1 k_u3 B2;obtain ⟨A,X⟩:=axu2 k_u3 g1 A X;refine l3_t B1 ?_;refine s3_t B2 fun u4 k B2=> ?_;replace B1:=up1 k B1;obtain ⟨A,X⟩:=axu2 k g2 A X;refine l3_t B2 ?_;replace h:=h _ X A;exact ⟨A,h⟩
theorem cf (aa:Bool) (ab:Slc) (ac:Int) (w:World) (R:Ending→World→Prop) (h:xw w w fun w1=>(kR 39 #[.bool aa,ab.v] w1 fun w2 b1 s1 s2=>Ahead w1 w2∧(kR 15 #[uR b1 s1 s2,vi ac] w2 fun w3 b2 s3 s4=>Ahead w2 w3∧(xw w w3 fun w4=>(R (.returned (uR b2 s3 s4)) w4))))):Calls pr 9 #[uD aa ab ac] w (fun e_ w_=>Ahead w w_∧R e_ w_):=by
 refine cg aa ab ac w _ ?_
 ·have A:Ahead w w:=Ahead.refl w
  have X:Ext w w:=Ext.refl w
  refine zn fun bk1 u1 hb a _ B1=> ?_;have g1:=zj A.size hb;obtain ⟨A,X⟩:=axa2 a A X;refine zn fun bk2 u2 hb a _ B2=> ?_;have g2:=zj A.size hb;have l1_2:=lt1 hb B1;replace B1:=B1.ahead a;obtain ⟨A,X⟩:=axa2 a A X;have ad:=Sp.Ahead.drew u2;obtain ⟨B1,B2⟩:=ah2 ad B1 B2;obtain ⟨A,X⟩:=axa2 ad A X;clear ad;refine yt 0 B1 rfl ?_;refine ym 1 B1 rfl ?_;refine xg 2 B1 rfl ?_;replace h:=h _ X A;refine Calls.mono h ?_;clear h;rintro e1 w2 ⟨b1,s1,s2,he_,a,h⟩;refine ⟨b1,s1,s2,he_, ?_⟩;clear he_;obtain ⟨B1,B2⟩:=ah2 a B1 B2;obtain ⟨A,X⟩:=axr2 a A;refine ⟨a, ?_⟩;refine Calls.mono h ?_;clear h;rintro e2 w3 ⟨b2,s3,s4,he_,a,h⟩;refine ⟨b2,s3,s4,he_, ?_⟩;clear he_;obtain ⟨B1,B2⟩:=ah2 a B1 B2;obtain ⟨A,X⟩:=axr2 a A;refine ⟨a, ?_⟩;refine s3_t B2 fun u3 k B2=> ?_;replace B1:=up1 k B1;obtain ⟨A,X⟩:=axu2 k g2 A X;refine yu B2 ?_;replace h:=h _ X A;exact ⟨A,h⟩
theorem ch (ab:Bool) (aa:Slc) (w:World) (R:Ending→World→Prop) (h:xw w w fun w1=>(kS 33 #[aa.v] w1 fun w2 s1=>Ahead w1 w2∧(kS 56 #[vi 1] w2 fun w3 s2=>Ahead w2 w3∧(Calls pr 44 (zR ab s1 s2) w3 fun e3 w4=>jR e3 fun b1 s3 s4=>Ahead w3 w4∧(xw w w4 fun w5=>(R (.returned (uR b1 s3 s4)) w5)))))):Calls pr 39 #[.bool ab,aa.v] w (fun e_ w_=>Ahead w w_∧R e_ w_):=by
 refine ci ab aa w _ ?_
 ·have A:Ahead w w:=Ahead.refl w
  have X:Ext w w:=Ext.refl w
  refine zn fun bk1 u1 hb a _ B1=> ?_;have g1:=zj A.size hb;obtain ⟨A,X⟩:=axa2 a A X;replace h:=h _ X A;refine Calls.mono h ?_;clear h;rintro e1 w2 ⟨s1,he_,a,h⟩;refine ⟨s1,he_, ?_⟩;clear he_;replace B1:=B1.ahead a;obtain ⟨A,X⟩:=axr2 a A;refine Calls.mono h ?_;clear h;rintro e2 w3 ⟨s2,he_,a,h⟩;refine ⟨s2,he_, ?_⟩;clear he_;replace B1:=B1.ahead a;obtain ⟨A,X⟩:=axr2 a A;refine Calls.mono h ?_;clear h;rintro e3 w4 ⟨b1,s3,s4,he_,a,h⟩;refine ⟨b1,s3,s4,he_, ?_⟩;clear he_;replace B1:=B1.ahead a;obtain ⟨A,X⟩:=axr2 a A;refine s3_t B1 fun u2 k B1=> ?_;obtain ⟨A,X⟩:=axu2 k g1 A X;refine yu B1 ?_;replace h:=h _ X A;exact ⟨A,h⟩
theorem Vs (w:World) (R:Ending→World→Prop) (h:newC w #[.int .u64 6] 65 fun ad1 w1=>newC w1 #[.int .u64 7] 65 fun ad2 w2=>Calls pr 79 #[(⟨some ad1,1,1⟩:Slc).v,(⟨some ad2,1,1⟩:Slc).v] w2 fun e1 w3=>∃s1:Slc,∃x1:Int,e1= .returned (.tuple #[s1.v,vi x1])∧Ahead w2 w3∧(newC w3 #[.int .u64 49] 65 fun ad3 w4=>Calls pr 51 #[(⟨some ad3,1,1⟩:Slc).v] w4 fun e2 w5=>∃s2:Slc,∃s3:Slc,∃x2:Int,e2= .returned (.tuple #[s2.v,s3.v,vi x2])∧Ahead w4 w5∧(Calls pr 80 #[s1.v,vi 10] w5 fun e3 w6=>∃n1:ByteArray,∃x3:Int,e3= .returned (.tuple #[.string n1,vi x3])∧Ahead w5 w6∧(br (x1==0) (br (x2==0) (br (x3==0) (br (n1.toList==(⟨#[52,50]⟩:ByteArray).toList) (newC w6 #[.int .u64 7] 65 fun ad4 w7=>kI 81 #[s2.v,(⟨some ad4,1,1⟩:Slc).v] w7 fun w8 x4=>Ahead w7 w8∧(br (x4==0) (newC w8 #[.int .u64 1] 65 fun ad5 w9=>kI 82 #[.agg #[.bool true,(⟨some ad5,1,1⟩:Slc).v]] w9 fun w10 x5=>Ahead w9 w10∧(R (.returned (.bool (x5==(-1)))) w10)) (R (.returned (.bool false)) w8))) (R (.returned (.bool false)) w6)) (R (.returned (.bool false)) w6)) (R (.returned (.bool false)) w6)) (R (.returned (.bool false)) w6))))):Calls pr 36 #[] w (fun e_ w_=>Ahead w w_∧R e_ w_):=by
  refine Vt w _ ?_
  · have A:Ahead w w:=Ahead.refl w
    have X:Ext w w:=Ext.refl w
    refine tb h fun ad1 w1 a h_=> ?_;replace h:=h_;clear h_;obtain ⟨A,X⟩:=axr2 a A;refine tb h fun ad2 w2 a h_=> ?_;replace h:=h_;clear h_;obtain ⟨A,X⟩:=axr2 a A;refine Calls.mono h ?_;clear h;rintro e1 w3 ⟨s1,x1,he_,a,h⟩;refine ⟨s1,x1,he_, ?_⟩;clear he_;obtain ⟨A,X⟩:=axr2 a A;refine tb h fun ad3 w4 a h_=> ?_;replace h:=h_;clear h_;obtain ⟨A,X⟩:=axr2 a A;refine Calls.mono h ?_;clear h;rintro e2 w5 ⟨s2,s3,x2,he_,a,h⟩;refine ⟨s2,s3,x2,he_, ?_⟩;clear he_;obtain ⟨A,X⟩:=axr2 a A;refine Calls.mono h ?_;clear h;rintro e3 w6 ⟨n1,x3,he_,a,h⟩;refine ⟨n1,x3,he_, ?_⟩;clear he_;obtain ⟨A,X⟩:=axr2 a A;refine zv h (fun h_=> ?_) (fun h_=> ?_)
    ·replace h:=h_;clear h_;refine zv h (fun h_=> ?_) (fun h_=> ?_)
     ·replace h:=h_;clear h_;refine zv h (fun h_=> ?_) (fun h_=> ?_)
      ·replace h:=h_;clear h_;refine zv h (fun h_=> ?_) (fun h_=> ?_)
       ·replace h:=h_;clear h_;refine tb h fun ad4 w7 a h_=> ?_;replace h:=h_;clear h_;obtain ⟨A,X⟩:=axr2 a A;refine Calls.mono h ?_;clear h;rintro e4 w8 ⟨x4,he_,a,h⟩;refine ⟨x4,he_, ?_⟩;clear he_;obtain ⟨A,X⟩:=axr2 a A;refine zv h (fun h_=> ?_) (fun h_=> ?_)
        ·replace h:=h_;clear h_;refine tb h fun ad5 w9 a h_=> ?_;replace h:=h_;clear h_;obtain ⟨A,X⟩:=axr2 a A;refine Calls.mono h ?_;clear h;rintro e5 w10 ⟨x5,he_,a,h⟩;refine ⟨x5,he_, ?_⟩;clear he_;obtain ⟨A,X⟩:=axr2 a A;exact ⟨A,h⟩
        ·replace h:=h_;clear h_;exact ⟨A,h⟩
       ·replace h:=h_;clear h_;exact ⟨A,h⟩
      ·replace h:=h_;clear h_;exact ⟨A,h⟩
     ·replace h:=h_;clear h_;exact ⟨A,h⟩
    ·replace h:=h_;clear h_;exact ⟨A,h⟩
end
section
open Go Go.RowKit Eng Sp Dg L2
namespace R7
open _root_.Go.Proofs.YtbeiopoejdkheaaGreatDoor.Ref (RN RN.ahead RN.ext RN.nil RN.n ks pe tg qp uz n9 me qh v7 qw)
open _root_.Go.Proofs.YtbeiopoejdkheaaGreatDoor.Rt (Zd qx qn)
open _root_.Go.Proofs.YtbeiopoejdkheaaGreatDoor.Ro (qz fe)
open _root_.Go.Proofs.YtbeiopoejdkheaaGreatDoor.Nat (Num Num.ahead)
open Dy
theorem Th {w a} {b:Bool} {s t} {u v:Slc} {p p':Int} {q q' k k':Nat} (h:RV w a s t p q k) (h':RV w b u v p' q' k') (hk:k+k'+1≤67108864):Calls pr surdref07_Add_id #[.agg #[.bool a,s.v,t.v], .agg #[.bool b,u.v,v.v]] w fun e w'=>Ahead w w'∧RA (p*(q':Int)+p'*(q:Int)) (q*q') (k+k'+1) e w':=by
 obtain ⟨hq,n,d,r1,r2,hd,b1,b2,hv⟩:=h
 obtain ⟨hq',n',d',r1',r2',hd',b1',b2',hv'⟩:=h'
 have hdd:=Nat.mul_pos hd hd'
 have hqq:=Nat.mul_pos hq hq'
 have val:∀(c:Bool) (m:Nat),sg c m=sg a (n*d')+sg b (n'*d)→sg c m*((q*q':Nat):Int)=(p*(q':Int)+p'*(q:Int))*((d*d':Nat):Int):=by
  intro c m hm
  rw [hm,qf,qf,Int.natCast_mul,Int.natCast_mul,Int.add_mul,Int.add_mul]
  congr 1
  ·calc sg a n*(d':Int)*((q:Int)*(q':Int))=(sg a n*(q:Int))*((q':Int)*(d':Int)):=by ac_rfl
    _=(p*(d:Int))*((q':Int)*(d':Int)):=by rw [hv]
    _=p*(q':Int)*((d:Int)*(d':Int)):=by ac_rfl
  ·calc sg b n'*(d:Int)*((q:Int)*(q':Int))=(sg b n'*(q':Int))*((q:Int)*(d:Int)):=by ac_rfl
    _=(p'*(d':Int))*((q:Int)*(d:Int)):=by rw [hv']
    _=p'*(q:Int)*((d:Int)*(d':Int)):=by ac_rfl
 refine X9 a s t b u v w (RA (p*(q':Int)+p'*(q:Int)) (q*q') (k+k'+1)) fun w1 x1 a1=> ?_
 refine Calls.mono (mr (r1.ahead a1) (r2'.ahead a1) b1 b2' (by omega) (by omega)) ?_
 rintro e w2 ⟨h2,x,rfl,rx,bx⟩
 have a2:=a1.trans h2
 refine ⟨_,rfl,h2,Calls.mono (mr (r1'.ahead a2) (r2.ahead a2) b1' b2 (by omega) (by omega)) ?_⟩
 rintro e w3 ⟨h3,y,rfl,ry,by'⟩
 have a3:=a2.trans h3
 refine ⟨_,rfl,h3,Calls.mono (mr (r2.ahead a3) (r2'.ahead a3) b2 b2' (by omega) (by omega)) ?_⟩
 rintro e w4 ⟨h4,z,rfl,rz,bz⟩
 have rx4:=(rx.ahead h3).ahead h4
 have ry4:=ry.ahead h4
 have lx:=l32 (N:=n*d') (m:=2^22) (by omega)
 have ly:=l32 (N:=n'*d) (m:=2^22) (by omega)
 refine ⟨_,rfl,h4,zm (fun hab=> ?_) (fun hab=> ?_)⟩
 ·have hab':a=b:=eq_of_beq hab
  subst hab'
  intro w5 x5 a5
  refine Calls.mono (n9 (rx4.ext x5) (ry4.ext x5) (by omega) (by omega)) ?_
  rintro e w6 ⟨h6,m,rfl,rm⟩
  have bm:=qx (k:=k+k') bx (show bl (n'*d)≤k+k' by omega)
  refine ⟨_,rfl,h6,Calls.mono (mi (neg:=a) rm ((rz.ext x5).ahead h6) hdd bm (by omega) hk) ?_⟩
  rintro e w7 ⟨h7,c,x2,y2,rfl,hr⟩
  refine ⟨_,_,_,rfl,h7,fun w8 x8 a8=>⟨_,_,_,rfl,(hr.ext x8).conv hqq (val a _ ?_)⟩⟩
  cases a<;>simp [sg]<;>omega
 ·have hab':a≠b:=fun h=>by rw [h] at hab;simp at hab
  refine Calls.mono (qh rx4 ry4 (by omega) (by omega)) ?_
  rintro e w9 ⟨h9,rfl⟩
  refine ⟨_,rfl,h9,zm (fun hge=> ?_) (fun hlt=> ?_)⟩
  ·have hle:n'*d≤n*d':=by
    have h0:=of_decide_eq_true hge
    exact Nat.le_of_not_lt fun h=>by have:=ta.2 h;omega
   intro w10 x10 a10
   refine Calls.mono (me ((rx4.ahead h9).ext x10) ((ry4.ahead h9).ext x10) hle (by omega)) ?_
   rintro e w11 ⟨h11,m,rfl,rm⟩
   have bm:=Nat.le_trans (yw (Nat.sub_le (n*d') (n'*d))) bx
   refine ⟨_,rfl,h11,Calls.mono (mi (neg:=a) rm (((rz.ahead h9).ext x10).ahead h11) hdd (Nat.le_trans bm (Nat.le_succ _)) (by omega) hk) ?_⟩
   rintro e w12 ⟨h12,c,x2,y2,rfl,hr⟩
   refine ⟨_,_,_,rfl,h12,fun w13 x13 a13=>⟨_,_,_,rfl,(hr.ext x13).conv hqq (val a _ ?_)⟩⟩
   cases a<;>cases b<;>simp [sg] at hab'⊢<;>omega
  ·have hle:n*d'≤n'*d:=by
    have h0:=of_decide_eq_false hlt
    have h1:cmpI (n*d') (n'*d)<0:=by omega
    exact Nat.le_of_lt (ta.1 h1)
   intro w14 x14 a14
   refine Calls.mono (me ((ry4.ahead h9).ext x14) ((rx4.ahead h9).ext x14) hle (by omega)) ?_
   rintro e w15 ⟨h15,m,rfl,rm⟩
   have bm:=Nat.le_trans (yw (Nat.sub_le (n'*d) (n*d'))) by'
   refine ⟨_,rfl,h15,Calls.mono (mi (neg:=b) rm (((rz.ahead h9).ext x14).ahead h15) hdd (k:=k+k'+1) (by omega) (by omega) hk) ?_⟩
   rintro e w16 ⟨h16,c,x2,y2,rfl,hr⟩
   refine ⟨_,_,_,rfl,h16,fun w17 x17 a17=>⟨_,_,_,rfl,(hr.ext x17).conv hqq (val b _ ?_)⟩⟩
   cases a<;>cases b<;>simp [sg] at hab'⊢<;>omega
theorem Ca {w a} {b:Bool} {s t} {u v:Slc} {p p':Int} {q q' k k':Nat} (h:RV w a s t p q k) (h':RV w b u v p' q' k') (hk:k+k'+1≤67108864):Calls pr surdref07_Sub_id #[.agg #[.bool a,s.v,t.v], .agg #[.bool b,u.v,v.v]] w fun e w'=>Ahead w w'∧RA (p*(q':Int) -p'*(q:Int)) (q*q') (k+k'+1) e w':=by
 refine Vm a s t b u v w (RA (p*(q':Int) -p'*(q:Int)) (q*q') (k+k'+1)) fun w1 x1 a1=> ?_
 refine Calls.mono (zd5 (h'.ahead a1)) ?_
 rintro e w2 ⟨h2,c,x,y,rfl,hr⟩
 refine ⟨_,_,_,rfl,h2,Calls.mono (Th ((h.ahead a1).ahead h2) hr hk) ?_⟩
 rintro e w3 ⟨h3,c2,x2,y2,rfl,hr2⟩
 rw [Int.neg_mul,←Int.sub_eq_add_neg] at hr2
 exact ⟨_,_,_,rfl,h3,fun w4 x4 a4=>⟨_,_,_,rfl,hr2.ext x4⟩⟩
theorem zbi {w a s t} {p:Int} {q k:Nat} {n:Int} (h:RV w a s t p q k) (hn: -16777216≤n∧n≤16777216) (hk:k≤16777216):Calls pr surdref07_Scale_id #[.agg #[.bool a,s.v,t.v], .int .i64 n] w fun e w'=>Ahead w w'∧RA (p*((2^n.toNat:Nat):Int)) (q*2^(-n).toNat) (k+n.natAbs) e w':=by
 obtain ⟨hq,N,D,r1,r2,hd,b1,b2,hv⟩:=h
 have hq2:0<q*2^(-n).toNat:=Nat.mul_pos hq (Nat.pow_pos (by omega))
 have lN:=l32 (N:=N) (m:=2^20) (by omega)
 have lD:=l32 (N:=D) (m:=2^20) (by omega)
 have tN:=qv N
 have tD:=qv D
 refine Zi a s t n w (RA (p*((2^n.toNat:Nat):Int)) (q*2^(-n).toNat) (k+n.natAbs)) fun w1 x1 a1=> ?_
 refine Calls.mono (tg (r1.ahead a1)) ?_
 rintro e w2 ⟨rfl,rfl⟩
 refine ⟨_,rfl,Ahead.refl _,zm (fun hz=> ?_) (fun hz=> ?_)⟩
 ·have hN:=of_decide_eq_true hz
  intro w3 x3 a3
  refine ⟨_,_,_,rfl,hq2,N,D,(r1.ahead a1).ext x3,(r2.ahead a1).ext x3,hd,by omega,by omega, ?_⟩
  have hp:p=0:=by
   rw [hN,uq,Int.zero_mul] at hv
   rcases Int.mul_eq_zero.1 hv.symm with h|h
   ·exact h
   ·omega
  rw [hN,uq,hp,Int.zero_mul,Int.zero_mul,Int.zero_mul]
 ·have hN:=of_decide_eq_false hz
  have up:∀(i j:Nat) (w3 w4:World),n=(i:Int)+j→j≤tz D→Ext w2 w3→Ahead w w3→Ext w3 w4→∀(u v:Slc),RN w4 u (N*2^i)→RN w4 v (D/2^j)→RV w4 a u v (p*((2^n.toNat:Nat):Int)) (q*2^(-n).toNat) (k+n.natAbs):=by
   intro i j w3 w4 hij hj _ _ _ u v ru rv
   have hDj:=fe hj
   refine ⟨hq2,_,_,ru,rv, ?_,Nat.le_trans (qz _ _) (by omega),Nat.le_trans (yw (Nat.div_le_self _ _)) (by omega), ?_⟩
   ·rcases Nat.eq_zero_or_pos (D/2^j) with h0|h0
    ·rw [h0,Nat.zero_mul] at hDj;omega
    ·exact h0
   ·rw [show (-n).toNat=0 by omega,Nat.pow_zero,Nat.mul_one,show n.toNat=i+j by omega,Nat.pow_add,Int.natCast_mul,qf]
    have e2:(D:Int)=((D/2^j:Nat):Int)*((2^j:Nat):Int):=by rw [←Int.natCast_mul,hDj]
    calc sg a N*((2^i:Nat):Int)*(q:Int)=(sg a N*(q:Int))*((2^i:Nat):Int):=by ac_rfl
     _=(p*(((D/2^j:Nat):Int)*((2^j:Nat):Int)))*((2^i:Nat):Int):=by rw [hv,←e2]
     _=p*(((2^i:Nat):Int)*((2^j:Nat):Int))*((D/2^j:Nat):Int):=by ac_rfl
  have down:∀(i j:Nat) (w3 w4:World),-n=(i:Int)+j→j≤tz N→Ext w2 w3→Ahead w w3→Ext w3 w4→∀(u v:Slc),RN w4 u (N/2^j)→RN w4 v (D*2^i)→RV w4 a u v (p*((2^n.toNat:Nat):Int)) (q*2^(-n).toNat) (k+n.natAbs):=by
   intro i j w3 w4 hij hj _ _ _ u v ru rv
   have hNj:=fe hj
   refine ⟨hq2,_,_,ru,rv,Nat.mul_pos hd (Nat.pow_pos (by omega)),Nat.le_trans (yw (Nat.div_le_self _ _)) (by omega),Nat.le_trans (qz _ _) (by omega), ?_⟩
   have e0:n.toNat=0:=by omega
   rw [e0,Nat.pow_zero,show (-n).toNat=j+i by omega,Nat.pow_add,Int.natCast_mul,Int.natCast_mul,Int.natCast_mul]
   have e2:sg a N=sg a (N/2^j)*((2^j:Nat):Int):=by rw [←qf,hNj]
   calc sg a (N/2^j)*((q:Int)*(((2^j:Nat):Int)*((2^i:Nat):Int)))=(sg a (N/2^j)*((2^j:Nat):Int))*(q:Int)*((2^i:Nat):Int):=by ac_rfl
    _=sg a N*(q:Int)*((2^i:Nat):Int):=by rw [←e2]
    _=p*(D:Int)*((2^i:Nat):Int):=by rw [hv]
    _=p*((1:Nat):Int)*((D:Int)*((2^i:Nat):Int)):=by simp [Int.mul_assoc]
  refine zm (fun hge=> ?_) (fun hlt=> ?_)
  ·have hge':=of_decide_eq_true hge
   refine Calls.mono (Uu (r2.ahead a1) (by omega)) ?_
   rintro e w4 ⟨rfl,rfl⟩
   refine ⟨_,rfl,Ahead.refl _,zm (fun hgt=> ?_) (fun hle=> ?_)⟩
   ·have hgt':=of_decide_eq_true hgt
    intro w5 x5 a5
    rw [Int.sub_self,zp (by omega) (by omega)]
    refine Calls.mono (v7 (n:=0) ((r1.ahead a1).ext x5) (by omega) (by omega) (by simp;omega)) ?_
    rintro e w6 ⟨h6,u,rfl,ru⟩
    refine ⟨_,rfl,h6,Calls.mono (qw (n:=n) (((r2.ahead a1).ext x5).ahead h6) (by omega) (by omega) (by omega)) ?_⟩
    rintro e w7 ⟨h7,v,rfl,rv⟩
    exact ⟨_,rfl,h7,fun w8 x8 a8=>⟨_,_,_,rfl,up 0 n.toNat w5 w8 (by omega) (by omega) x5 a5 (((Ext.of_ahead h6).trans (Ext.of_ahead h7)).trans x8) u v ((ru.ahead h7).ext x8) (rv.ext x8)⟩⟩
   ·have hle':=of_decide_eq_false hle
    intro w9 x9 a9
    rw [zp (by omega) (by omega)]
    obtain ⟨i,hi⟩:∃i:Nat,n -((tz D:Nat):Int)=(i:Int):=⟨(n -tz D).toNat,by omega⟩
    rw [hi]
    refine Calls.mono (v7 (n:=(i:Int)) ((r1.ahead a1).ext x9) (by omega) (by omega) (by omega)) ?_
    rw [Int.toNat_natCast]
    rintro e w6 ⟨h6,u,rfl,ru⟩
    refine ⟨_,rfl,h6,Calls.mono (qw (n:=((tz D:Nat):Int)) (((r2.ahead a1).ext x9).ahead h6) (by omega) (by omega) (by omega)) ?_⟩
    try dsimp only
    rw [Int.toNat_natCast]
    rintro e w7 ⟨h7,v,rfl,rv⟩
    exact ⟨_,rfl,h7,fun w8 x8 a8=>⟨_,_,_,rfl,up i (tz D) w9 w8 (by omega) (Nat.le_refl _) x9 a9 (((Ext.of_ahead h6).trans (Ext.of_ahead h7)).trans x8) u v ((ru.ahead h7).ext x8) (rv.ext x8)⟩⟩
  ·have hlt':=of_decide_eq_false hlt
   refine Calls.mono (Uu (r1.ahead a1) (by omega)) ?_
   rintro e w4 ⟨rfl,rfl⟩
   have e0:IntKind.i64.wrap (0 -n)= -n:=by rw [zp (by omega) (by omega)];omega
   rw [e0]
   refine ⟨_,rfl,Ahead.refl _,zm (fun hgt=> ?_) (fun hle=> ?_)⟩
   ·have hgt':=of_decide_eq_true hgt
    intro w5 x5 a5
    rw [Int.sub_self,zp (by omega) (by omega)]
    refine Calls.mono (qw (n:= -n) ((r1.ahead a1).ext x5) (by omega) (by omega) (by omega)) ?_
    rintro e w6 ⟨h6,u,rfl,ru⟩
    refine ⟨_,rfl,h6,Calls.mono (v7 (n:=0) (((r2.ahead a1).ext x5).ahead h6) (by omega) (by omega) (by simp;omega)) ?_⟩
    rintro e w7 ⟨h7,v,rfl,rv⟩
    exact ⟨_,rfl,h7,fun w8 x8 a8=>⟨_,_,_,rfl,down 0 (-n).toNat w5 w8 (by omega) (by omega) x5 a5 (((Ext.of_ahead h6).trans (Ext.of_ahead h7)).trans x8) u v ((ru.ahead h7).ext x8) (rv.ext x8)⟩⟩
   ·have hle':=of_decide_eq_false hle
    intro w9 x9 a9
    rw [zp (by omega) (by omega)]
    obtain ⟨i,hi⟩:∃i:Nat,-n -((tz N:Nat):Int)=(i:Int):=⟨(-n -tz N).toNat,by omega⟩
    rw [hi]
    refine Calls.mono (qw (n:=((tz N:Nat):Int)) ((r1.ahead a1).ext x9) (by omega) (by omega) (by omega)) ?_
    rw [Int.toNat_natCast]
    rintro e w6 ⟨h6,u,rfl,ru⟩
    refine ⟨_,rfl,h6,Calls.mono (v7 (n:=(i:Int)) (((r2.ahead a1).ext x9).ahead h6) (by omega) (by omega) (by omega)) ?_⟩
    try dsimp only
    rw [Int.toNat_natCast]
    rintro e w7 ⟨h7,v,rfl,rv⟩
    exact ⟨_,rfl,h7,fun w8 x8 a8=>⟨_,_,_,rfl,down i (tz N) w9 w8 (by omega) (Nat.le_refl _) x9 a9 (((Ext.of_ahead h6).trans (Ext.of_ahead h7)).trans x8) u v ((ru.ahead h7).ext x8) (rv.ext x8)⟩⟩
theorem Gf {w} {neg:Bool} {s} {l:List Nat} (h:Rd .u64 w s (nn l)) (hl:l.length*8≤140737488351232) (ol:ok B64 l) (hb:bl (val B64 l)≤1048576):Calls pr surdtop_rational_id #[.bool neg,s.v] w fun e w'=>Ahead w w'∧RA (sg neg (val B64 l)) 1 1048576 e w':=by
 refine ch neg s w (RA (sg neg (val B64 l)) 1 1048576) fun w1 x1 a1=> ?_
 refine Calls.mono (qp (h.ahead a1) hl ol) ?_
 rintro e w2 ⟨h2,x,rfl,rx⟩
 refine ⟨_,rfl,h2,Calls.mono (uz (v:=1) (by omega)) ?_⟩
 rintro e w3 ⟨h3,y,rfl,ry⟩
 refine ⟨_,rfl,h3,Calls.mono (mi (rx.ahead h3) ry (by omega) hb (by rw [qn];omega) (by omega)) ?_⟩
 rintro e w4 ⟨h4,c,x2,y2,rfl,hr⟩
 exact ⟨_,_,_,rfl,h4,fun w5 x5 a5=>⟨_,_,_,rfl,hr.ext x5⟩⟩
theorem Hq {w} {neg:Bool} {s} {l:List Nat} {e0:Int} (h:Rd .u64 w s (nn l)) (hl:l.length*8≤140737488351232) (ol:ok B64 l) (hb:bl (val B64 l)≤1048576) (he: -1048576≤e0∧e0≤1048576):Calls pr surdtop_dyadicOf_id #[.agg #[.bool neg,s.v, .int .i64 e0]] w fun e w'=>Ahead w w'∧RA (sg neg (val B64 l)*((2^e0.toNat:Nat):Int)) (2^(-e0).toNat) 2097152 e w':=by
 refine cf neg s e0 w (RA (sg neg (val B64 l)*((2^e0.toNat:Nat):Int)) (2^(-e0).toNat) 2097152) fun w1 x1 a1=> ?_
 refine Calls.mono (Gf (h.ahead a1) hl ol hb) ?_
 rintro e w2 ⟨h2,c,x,y,rfl,hr⟩
 refine ⟨_,_,_,rfl,h2,Calls.mono (zbi hr (by omega) (by omega)) ?_⟩
 rintro e w3 ⟨h3,c2,x2,y2,rfl,hr2⟩
 rw [Nat.one_mul] at hr2
 exact ⟨_,_,_,rfl,h3,fun w4 x4 a4=>⟨_,_,_,rfl,(hr2.ext x4).mono (by omega)⟩⟩
end R7
end
section
open Go Go.RowKit Eng Sp Dg Kd L2
namespace Ro
open _root_.Go.Proofs.YtbeiopoejdkheaaGreatDoor.Nat (OwnNil OwnNil.rd OwnNil.ahead OwnNil.mono OwnNil.nil OwnNil.ext Num Num.ahead Num.ext Num.bl xj yn xk xe xf Ret Ret.num uf bigC xc zw kq)
open _root_.Go.Proofs.YtbeiopoejdkheaaGreatDoor.Ref (xh)
open _root_.Go.Proofs.YtbeiopoejdkheaaGreatDoor.Rt (isR)
open Dy Sb
def quQ (m:Int) (neg:Bool) (x y:Nat) (s:Int):Nat:=rdQ m neg (nu x s/de y s) (bhv (nu x s) (de y s))
theorem py {w} {n1 n2:Bool} {s1 s2} {X Y:Nat} {e1 e2 pos m:Int} (hT:Tab w) (h1:Num w s1 X) (h2:Num w s2 Y) (hX:bl X≤1048576) (hY:bl Y≤1048576) (hY0:Y≠0) (he1: -1048576≤e1∧e1≤1048576) (he2: -1048576≤e2∧e2≤1048576) (hp: -1048576≤pos∧pos≤1048576) (hm:0≤m∧m≤2):Calls pr rounded_Quo_id #[.agg (c3 n1 s1 e1), .agg (c3 n2 s2 e2), .int .i64 pos, .int .i64 m] w (DOut w (tC (quQ m (!(nD n1 X==nD n2 Y)) (od X) (od Y) (eD X e1 -eD Y e2 -pos)) pos) (!(nD n1 X==nD n2 Y)) (quQ m (!(nD n1 X==nD n2 Y)) (od X) (od Y) (eD X e1 -eD Y e2 -pos)) pos):=by
 obtain ⟨Q,hQ⟩:∃Q,Q=quQ m (!(nD n1 X==nD n2 Y)) (od X) (od Y) (eD X e1 -eD Y e2 -pos):=⟨_,rfl⟩
 rw [←hQ]
 have wi1:wi e1:=by unfold wi;omega
 have wi2:wi e2:=by unfold wi;omega
 have wip:wi pos:=by unfold wi;omega
 have oX:=ms X
 have oY:=ms Y
 have bX:bl (od X)≤1048576:=Nat.le_trans (yw oX) hX
 have bY:bl (od Y)≤1048576:=Nat.le_trans (yw oY) hY
 have lX:=zw (N:=od X) (m:=2^15) (by omega)
 have lY:=zw (N:=od Y) (m:=2^15) (by omega)
 have oY0:=M9 hY0
 have tX:=qv X
 have tY:=qv Y
 have eX: -4000000≤eD X e1∧eD X e1≤2097152:=by unfold eD;split<;>omega
 have eY: -2097152≤eD Y e2∧eD Y e2≤2097152:=by unfold eD;split<;>omega
 have eX2: -1048576≤eD X e1:=by unfold eD;split<;>omega
 refine Calls.mono (Qd n1 s1 e1 n2 s2 e2 pos m w (fun en w'=>∃s',en= .returned (.tuple #[.agg (c3 (if tC Q pos=0 then nD (!(nD n1 X==nD n2 Y)) Q else false) s' (if tC Q pos=0 then eD Q pos else 0)), .int .i64 (tC Q pos)])∧OwnNil w.heap.size w' s' (if tC Q pos=0 then digs B64 (od Q) else [])) ?_) fun en w' h=>h
 intro w1 x1 a1
 refine Calls.mono (qe (hT.ahead a1) (h1.ahead a1) wi1) ?_
 rintro en w2 ⟨h2',sa,rfl,oa⟩
 refine ⟨_,_,_,_,rfl,h2',zt rfl fun w4 x4 a4=> ?_⟩
 refine Calls.mono (qe (hT.ahead a4) (h2.ahead a4) wi2) ?_
 rintro en w5 ⟨h5,sb,rfl,ob⟩
 refine ⟨_,_,_,_,rfl,h5,zt rfl fun w7 x7 a7=> ?_⟩
 refine Calls.mono (fi wip hm) ?_
 rintro en w8 ⟨rfl,rfl⟩
 have oa8:=((oa.ext x4).ahead h5).ext x7
 have ob8:=ob.ext x7
 refine ⟨_,rfl,Ahead.refl _,zt rfl ?_⟩
 try dsimp only
 rw [Y3 ob8.rd]
 refine zt (decide_eq_false oY0) ?_
 rw [zp (by omega) (by omega)]
 have hq:=fy (neg:= !(nD n1 X==nD n2 Y)) (k:=eD X e1 -eD Y e2) (pos:=pos) (m:=m) (hT.ahead a7) oa8.rd ob8.rd bX bY oY0 (by omega) (by omega)
 unfold quQ at hQ
 rw [←hQ] at hq
 refine Calls.mono hq ?_
 rintro en w11 ⟨h11,s',rfl,o'⟩
 exact ⟨_,_,_,_,rfl,h11,fun w12 x12 a12=>⟨_,rfl,(o'.ext x12).mono a7.size⟩⟩
end Ro
end
section
open Go Go.RowKit Eng Sp Dg
namespace Mm
open _root_.Go.Proofs.YtbeiopoejdkheaaGreatDoor.Ref (RN RN.ahead Lent Lent.whole)
abbrev nilS:Slc:=⟨none,0,0⟩
def slcs (ss:List Slc):List Value:=ss.map Slc.v
theorem fz {ss:List Slc} {i:Nat} (hi:i<ss.length):(slcs ss)[i]? =some (ss.getD i nilS).v:=by
 rw [slcs,List.getElem?_map,List.getD_eq_getElem?_getD,List.getElem?_eq_getElem hi];rfl
structure RdL (w:World) (s:Slc) (ss:List Slc):Prop where
  n:s.n=ss.length
  c:s.n≤s.c
  get:∀i,i<ss.length→∃ad,s.A=some ad∧w.cell? (ad.add i)=some (ss.getD i nilS).v
theorem RdL.ahead {w w' s} {ss:List Slc} (h:RdL w s ss) (ha:Ahead w w'):RdL w' s ss:=
 ⟨h.n,h.c,fun i hi=>by obtain ⟨ad,e,hc⟩:=h.get i hi;exact ⟨ad,e,ha.cell hc⟩⟩
def slB (P:Program) (t e:TypeId):Bool:=match P.underlying t with
 |some (.slice e')=>Nat.beq e' e&&(match P.info? e with
  |some i=>Nat.beq i.size 1&&Nat.beq i.bytes 24&&(match i.zero with
   |some (.slice none 0 0)=>true
   |_=>false)
  |none=>false)
 |_=>false
theorem ze6 {P:Program} {t e:TypeId} (h:slB P t e=true):P.underlying t=some (.slice e)∧∃i,P.info? e=some i∧i.size=1∧i.bytes=24∧i.zero=some (.slice none 0 0):=by
 unfold slB at h
 split at h
 ·rename_i e' hu
  simp only [Bool.and_eq_true] at h
  obtain ⟨h1,h2⟩:=h
  have:e'=e:=Nat.eq_of_beq_eq_true h1
  subst this
  split at h2
  ·rename_i i hi
   simp only [Bool.and_eq_true] at h2
   obtain ⟨⟨h3,h4⟩,h5⟩:=h2
   split at h5
   ·rename_i hz
    exact ⟨hu,i,hi,Nat.eq_of_beq_eq_true h3,Nat.eq_of_beq_eq_true h4,hz⟩
   ·cases h5
  ·cases h2
 ·cases h
def slA (P:Program) (t:TypeId):Bool:=match P.underlying t with
 |some (.slice e)=>slB P t e
 |_=>false
theorem ze5 {P:Program} {t:TypeId} (h:slA P t=true):∃e,slB P t e=true:=by
 unfold slA at h
 split at h
 ·exact ⟨_,h⟩
 ·cases h
theorem ze2 {t:TypeId} (hT:slA pr t=true) (w:World) {s:Slc} {ss:List Slc} {ad:Addr} (hA:s.A=some ad) {i:Nat} (hi:i<s.n):(Instr.indexAt t s.v (.int .i64 (i:Int))).run pr w= .ok (.pointer (some (ad.add i))) w:=by
 obtain ⟨e,hT⟩:=ze5 hT
 obtain ⟨hu,inf,hinf,hs,_⟩:=ze6 hT
 obtain ⟨A,n,c⟩:=s
 simp only at hA hi
 subst hA
 simp only [Instr.indexAt,asIntOf,Slc.v,underlying,program,Sem.run_bind,Sem.run,Result.andThen,hu,Sem.run_pure]
 simp [hi,show (i:Int)<(n:Int) by omega,sizeOf,typeInfo,program,Sem.run,hinf,hs,hu]
theorem ixL {t:TypeId} {w s} {ss:List Slc} (h:RdL w s ss) {i:Nat} (hi:i<ss.length) {K:Slc→World→Prop} (hk:K (ss.getD i nilS) w) (hT:slA pr t=true:=by kernel_rfl):semA pr (Instr.indexAt t s.v (.int .i64 (i:Int))) w fun ad w1=>ldS ad w1 fun x=>K x w1:=by
 obtain ⟨ad,hA,hc⟩:=h.get i hi
 unfold semA
 rw [Sem.wp_iff_run,ze2 hT w (ss:=ss) hA (by rw [h.n];exact hi)]
 exact ⟨_,rfl,_,hc,hk⟩
def SRow (e:TypeId) (base:Nat) (w:World) (s:Slc) (ss:List Slc):Prop:=(s=nilS∧ss= [])∨(ss≠ []∧w.ownsRow base e 1 s.v ss.length (slcs ss))
theorem SRow.nil {e:TypeId} {base:Nat} {w:World} :SRow e base w nilS []:= .inl ⟨rfl,rfl⟩
theorem SRow.out {e:TypeId} {base:Nat} {w s} {ss:List Slc} (h:SRow e base w s ss) (hne:ss≠ []):∃g cap cur,s=⟨some ⟨g,0,none⟩,ss.length,cap⟩∧base≤g∧w.heap[g]? =some (.cells cur e (0,0))∧ss.length≤cap∧cur.toList.take ss.length=slcs ss:=by
 rcases h with ⟨_,rfl⟩|⟨_,_,h⟩
 ·exact absurd rfl hne
 ·rcases h with ⟨_,h0⟩|⟨g,cap,cur,hv,hg,hh,hc,_,_,ht⟩
  ·exact absurd (List.eq_nil_of_length_eq_zero h0) hne
  ·obtain ⟨A,n,c⟩:=s
   have:=Value.slice.inj hv
   obtain ⟨rfl,rfl,rfl⟩:=this
   exact ⟨g,_,cur,rfl,hg,hh,hc,by simpa using ht⟩
theorem SRow.at_ {e:TypeId} {base:Nat} {w s} {ss:List Slc} (h:SRow e base w s ss) {ad:Addr} (hA:s.A=some ad):∃g cur,ad=⟨g,0,none⟩∧base≤g∧w.heap[g]? =some (.cells cur e (0,0)):=by
 by_cases hp:ss= []
 ·rcases h with ⟨rfl,rfl⟩|⟨h,_⟩
  ·cases hA
  ·exact absurd hp h
 ·obtain ⟨g,cap,cur,rfl,h1,h2,_⟩:=h.out hp
  exact ⟨g,cur,(Option.some.inj hA).symm,h1,h2⟩
theorem SRow.block {e:TypeId} {base:Nat} {w s} {ss:List Slc} (h:SRow e base w s ss) {g:Nat} (hg:some g=s.v.ownBlock):base≤g∧∃cur,w.heap[g]? =some (.cells cur e (0,0)):=by
 obtain ⟨A,n,c⟩:=s
 cases A with
 |none=>simp [Slc.v,Value.ownBlock] at hg
 |some ad=>
  obtain ⟨g',cur,rfl,h1,h2⟩:=h.at_ rfl
  simp [Slc.v,Value.ownBlock] at hg
  subst hg
  exact ⟨h1,cur,h2⟩
end Mm
end
section
open Go Go.RowKit Eng Sp Dg L2
namespace Wr
open _root_.Go.Proofs.YtbeiopoejdkheaaGreatDoor.Ref (RN RN.ahead RN.ext qp tt)
open _root_.Go.Proofs.YtbeiopoejdkheaaGreatDoor.Nat (Num Num.ahead Num.ext Num.bl xj OwnNil OwnNil.rd zw)
open _root_.Go.Proofs.YtbeiopoejdkheaaGreatDoor.Mm (RdL ixL nilS slcs fz)
open _root_.Go.Proofs.YtbeiopoejdkheaaGreatDoor.Ro (nu de bhv rdQ upB quQ py)
open _root_.Go.Proofs.YtbeiopoejdkheaaGreatDoor.Rt (qx qn)
open R7
open Dy
theorem semRemI {x:Int} {n:Nat} {t:TypeId} {w:World} {K:Int→World→Prop} (hn:0<n) (h:K (Int.tmod x (n:Int)) w):semI pr .i64 (binOp .rem t (.int .i64 x) (.int .i64 (n:Int))) w K:=by
 have e:binOp .rem t (.int .i64 x) (.int .i64 (n:Int))=pure (.int .i64 (Int.tmod x (n:Int))):=by
  unfold binOp
  simp only [Op.intDiv]
  rw [if_neg (by simp),if_neg (by omega)]
 unfold semI
 rw [e,Sem.wp_iff_run]
 exact ⟨_,rfl,h⟩
theorem js {w:World} {n lo hi:Int} (h0: -1048576≤lo) (h1:lo≤hi) (h2:hi≤1048576):Calls pr surdtop_put_id #[.int .i64 n, .int .i64 lo, .int .i64 hi] w fun e w'=>w'=w∧∃r,e= .returned (.int .i64 r)∧lo≤r∧r≤hi:=by
 obtain ⟨M,hM⟩:∃M:Nat,hi -lo+1=(M:Int):=⟨(hi -lo+1).toNat,by omega⟩
 have eM:IntKind.i64.wrap (IntKind.i64.wrap (hi -lo)+1)=(M:Int):=by rw [zp (x:=hi -lo) (by omega) (by omega),zp (by omega) (by omega)];omega
 refine Qw n lo hi w _ ?_
 rw [eM]
 have t1:=Int.tmod_lt_of_pos n (show (0:Int)<(M:Int) by omega)
 have t2:=Int.lt_tmod_of_pos n (show (0:Int)<(M:Int) by omega)
 refine semRemI (by omega) (zm (fun hneg=> ?_) (fun hneg=> ?_))
 ·have hneg':=of_decide_eq_true hneg
  rw [zp (x:=Int.tmod n (M:Int)+(M:Int)) (by omega) (by omega),zp (by omega) (by omega)]
  exact ⟨rfl,_,rfl,by omega,by omega⟩
 ·have hneg':=of_decide_eq_false hneg
  rw [zp (by omega) (by omega)]
  exact ⟨rfl,_,rfl,by omega,by omega⟩
theorem Pi {w:World} {neg:Bool} {s:Slc} {e0:Int} :Calls pr surdtop_tame_id #[.agg #[.bool neg,s.v, .int .i64 e0]] w fun e w'=>Ahead w w'∧∃x,e= .returned (.agg #[.bool neg,s.v, .int .i64 x])∧-99≤x∧x≤99:=by
 refine Tb neg s e0 w (fun e w'=>∃x,e= .returned (.agg #[.bool neg,s.v, .int .i64 x])∧-99≤x∧x≤99) fun w1 x1 a1=> ?_
 refine Calls.mono (js (by omega) (by omega) (by omega)) ?_
 rintro e w2 ⟨rfl,r,rfl,h1,h2⟩
 exact ⟨_,rfl,Ahead.refl _,fun w3 x3 a3=>⟨_,rfl,h1,h2⟩⟩
theorem Cv (w:World) (t:TypeId) (ss:List Slc):RdL (w.alloc (.cells (slcs ss).toArray t (0,0))) ⟨some ⟨w.heap.size,0,none⟩,ss.length,ss.length⟩ ss:=
 ⟨rfl,Nat.le_refl _,fun i hi=>⟨_,rfl,by
  rw [zz]
  have:=fz hi
  simp only [World.cell?,te]
  simpa using this⟩⟩
def Lims (w:World) (ss:List Slc) (ls:List (List Nat)):Prop:=ss.length=ls.length∧∀i,i<ss.length→Rd .u64 w (ss.getD i nilS) (nn (ls.getD i []))∧(ls.getD i []).length*8≤140737488351232∧ok B64 (ls.getD i [])
theorem Lims.ahead {w w'} {ss:List Slc} {ls:List (List Nat)} (h:Lims w ss ls) (a:Ahead w w'):Lims w' ss ls:=⟨h.1,fun i hi=>by obtain ⟨h1,h2⟩:=h.2 i hi;exact ⟨h1.ahead a,h2⟩⟩
theorem U5 {w s} {ss:List Slc} {ls:List (List Nat)} {most:Nat} (h:RdL w s ss) (hl:Lims w ss ls) (hm:most≤1048576) (hn:ss.length≤1000):Calls pr surdtop_small_id #[.int .i64 (most:Int),s.v] w fun e w'=>Ahead w w'∧∃b,e= .returned (.bool b)∧(b=true→∀i,i<ss.length→bl (val B64 (ls.getD i []))≤most):=by
 refine Vr (most:Int) s w _ (fun t0 t7 t8 t9 w'=>t0=(most:Int)∧t7=s∧t8=(ss.length:Int)∧Ahead w w'∧∃i:Nat,t9=(i:Int)∧i≤ss.length∧∀j,j<i→bl (val B64 (ls.getD j []))≤most) (fun _ _ t8 t9 _=>(t8 -t9).toNat)
  ⟨rfl,rfl,by rw [h.n],Ahead.refl _,0,rfl,Nat.zero_le _,fun j hj=>by omega⟩ ?_
 rintro t0 t7 t8 t9 w1 ⟨rfl,rfl,rfl,h1,i,rfl,hi,hd⟩
 refine zm (fun hlt=> ?_) (fun hge=> ?_)
 ·have hi':i<ss.length:=by have:=of_decide_eq_true hlt;omega
  obtain ⟨q1,q2,q3⟩:=(hl.ahead h1).2 i hi'
  refine ixL (h.ahead h1) hi' (Calls.mono (qp q1 q2 q3) ?_)
  rintro e w2 ⟨h2,x,rfl,rx⟩
  have hb:=kj q3
  have h32:=l32 (N:=val B64 (ls.getD i [])) (m:=2^45) (by omega)
  refine ⟨_,rfl,Calls.mono (tt rx (by omega)) ?_⟩
  rintro e w3 ⟨rfl,rfl⟩
  refine ⟨_,rfl,zm (fun hb=>⟨h1.trans h2,false,rfl,fun h=>by cases h⟩) (fun hb=> ?_)⟩
  have hb':=of_decide_eq_false hb
  rw [zp (by omega) (by omega)]
  refine ⟨⟨rfl,rfl,rfl,h1.trans h2,i+1,rfl,hi',fun j hj=> ?_⟩,by omega⟩
  rcases Nat.lt_or_ge j i with h|h
  ·exact hd j h
  ·have:j=i:=by omega
   subst this;omega
 ·have hi':i=ss.length:=by have:=of_decide_eq_false hge;omega
  subst hi'
  exact ⟨h1,true,rfl,fun _=>hd⟩
abbrev up (e:Int):Int:=((2^e.toNat:Nat):Int)
abbrev dn (e:Int):Nat:=2^(-e).toNat
theorem zfy (e:Int):0<up e:=by have:=Nat.pow_pos (n:=e.toNat) (show 0<2 by omega);show (0:Int)<((2^e.toNat:Nat):Int);omega
def Bes (L Z:Int) (D:Nat) (H:Int):Prop:=(L*(D:Int)=Z∧H=L)∨(L*(D:Int)<Z∧Z<H*(D:Int)∧H=L+1)
end Wr
end
section
open Go Go.RowKit Eng Sp Dg L2
namespace Wr
open _root_.Go.Proofs.YtbeiopoejdkheaaGreatDoor.Ref (RN RN.ahead RN.ext qp tt)
open _root_.Go.Proofs.YtbeiopoejdkheaaGreatDoor.Nat (Num Num.ahead Num.ext Num.bl xj OwnNil OwnNil.rd OwnNil.ext zw)
open _root_.Go.Proofs.YtbeiopoejdkheaaGreatDoor.Mm (RdL ixL nilS slcs fz)
open _root_.Go.Proofs.YtbeiopoejdkheaaGreatDoor.Ro (nu de bhv rdQ upB quQ py)
open _root_.Go.Proofs.YtbeiopoejdkheaaGreatDoor.Rt (qx qn)
open R7
open Dy
theorem Tk (neg:Bool) (N D:Nat) (hD:0<D):Bes (sg neg (rdQ 0 neg (N/D) (bhv N D))) (sg neg N) D (sg neg (rdQ 1 neg (N/D) (bhv N D))):=by
 have h1:=Nat.div_add_mod N D
 have h2:=Nat.mod_lt N hD
 have hb:(0<bhv N D)↔N % D≠0:=by unfold bhv;split<;>(try split)<;>(try split)<;>omega
 have e1:(((N/D:Nat):Int))*(D:Int)=((D*(N/D):Nat):Int):=by rw [Int.natCast_mul,Int.mul_comm]
 have e2:(((N/D+1:Nat):Int))*(D:Int)=((D*(N/D)+D:Nat):Int):=by rw [←Int.natCast_mul,Nat.add_mul,Nat.one_mul,Nat.mul_comm]
 generalize D*(N/D)=DQ at*
 generalize N/D=q at*
 unfold rdQ Ro.upB Bes
 cases neg
 ·by_cases h0:0<bhv N D
  ·have:=hb.1 h0
   simp only [h0,sg]
   right
   simp
   simp at e1 e2
   refine ⟨?_, ?_⟩<;>omega
  ·have:N % D=0:=by
    by_cases h3:N % D=0
    ·exact h3
    ·exact absurd (hb.2 h3) h0
   simp only [h0,sg]
   left
   simp
   omega
 ·by_cases h0:0<bhv N D
  ·have:=hb.1 h0
   simp only [h0,sg]
   right
   simp [Int.neg_mul]
   simp at e1 e2
   refine ⟨?_, ?_, ?_⟩<;>omega
  ·have:N % D=0:=by
    by_cases h3:N % D=0
    ·exact h3
    ·exact absurd (hb.2 h3) h0
   simp only [h0,sg]
   left
   simp [Int.neg_mul]
   omega
theorem Gg (m:Int) (neg:Bool) (q bh:Nat):rdQ m neg q bh≤q+1:=by unfold rdQ;split<;>omega
theorem Td {Q:Nat} {pos:Int} (hb:bl Q≤262144) (hp: -1000≤pos∧pos≤1000):tC Q pos=0:=by
 have h1:=yw (ms Q)
 have h2:=qv Q
 rw [tC,if_neg (by omega),if_pos]
 unfold wi eD;split<;>omega
theorem Hi {y:Nat} (hy:y≠0) (s:Int):0<de y s:=Nat.mul_pos (by omega) (Nat.pow_pos (by omega))
theorem Qb {n1 n2:Bool} {X Y:Nat} {e1 e2 pos:Int} (hY:Y≠0):sgZ (sg n2 Y*up e2)*(sg n1 X*up e1*(dn e2:Int))*((de (od Y) (eD X e1 -eD Y e2 -pos)*dn pos:Nat):Int)=sg (!(nD n1 X==nD n2 Y)) (nu (od X) (eD X e1 -eD Y e2 -pos))*up pos*((dn e1*(sg n2 Y*up e2).natAbs:Nat):Int):=by
 by_cases hX:X=0
 ·subst hX
  have:nu (od 0) (eD 0 e1 -eD Y e2 -pos)=0:=by rw [vq];exact Nat.zero_mul _
  rw [this,uq,uq];simp
 ·have hsg:sgZ (sg n2 Y*up e2)=if n2 then -1 else 1:=by
   have h1:=zfy e2
   cases n2
   ·have:0<sg false Y*up e2:=Int.mul_pos (by simp [sg];omega) h1
    rw [sgZ,if_neg (by omega),if_neg (by omega)];rfl
   ·have:sg true Y*up e2<0:=Int.mul_neg_of_neg_of_pos (by simp [sg];omega) h1
    have e:sgZ (sg true Y*up e2)= -1:=by rw [sgZ,if_neg (by omega),if_pos this]
    rw [e];rfl
  have habs:(sg n2 Y*up e2).natAbs=Y*2^e2.toNat:=by
   rw [Int.natAbs_mul,qa];rfl
  have key:X*2^e1.toNat*dn e2*(de (od Y) (eD X e1 -eD Y e2 -pos)*dn pos)=nu (od X) (eD X e1 -eD Y e2 -pos)*2^pos.toNat*(dn e1*(Y*2^e2.toNat)):=by
   obtain ⟨S,hS⟩:∃S,S=eD X e1 -eD Y e2 -pos:=⟨_,rfl⟩
   have hS2:S=(e1+tz X) -(e2+tz Y) -pos:=by rw [hS,eD,if_neg hX,eD,if_neg hY]
   rw [←hS]
   have oX:=gm X
   have oY:=gm Y
   have eX:X=od X*2^tz X:=by rw [Nat.mul_comm];exact oX.symm
   have eY:Y=od Y*2^tz Y:=by rw [Nat.mul_comm];exact oY.symm
   unfold nu de
   show X*2^e1.toNat*2^(-e2).toNat*(od Y*2^(-S).toNat*2^(-pos).toNat)=od X*2^S.toNat*2^pos.toNat*(2^(-e1).toNat*(Y*2^e2.toNat))
   have l1:X*2^e1.toNat*2^(-e2).toNat*(od Y*2^(-S).toNat*2^(-pos).toNat)=od X*od Y*2^(tz X+e1.toNat+(-e2).toNat+(-S).toNat+(-pos).toNat):=by
    conv=>lhs;rw [eX]
    simp only [Nat.pow_add];ac_rfl
   have l2:od X*2^S.toNat*2^pos.toNat*(2^(-e1).toNat*(Y*2^e2.toNat))=od X*od Y*2^(S.toNat+pos.toNat+(-e1).toNat+tz Y+e2.toNat):=by
    conv=>lhs;rw [eY]
    simp only [Nat.pow_add];ac_rfl
   rw [l1,l2]
   congr 2
   omega
  have hneg:sg (!(nD n1 X==nD n2 Y)) (nu (od X) (eD X e1 -eD Y e2 -pos))=(if n2 then -1 else 1)*sg n1 (nu (od X) (eD X e1 -eD Y e2 -pos)):=by
   rw [pw hX,pw hY]
   cases n1<;>cases n2<;>simp [sg]
  rw [hsg,hneg,habs]
  generalize nu (od X) (eD X e1 -eD Y e2 -pos)=N at*
  generalize de (od Y) (eD X e1 -eD Y e2 -pos)=D at*
  have kz:(X:Int)*up e1*(dn e2:Int)*((D*dn pos:Nat):Int)=(N:Int)*up pos*((dn e1*(Y*2^e2.toNat):Nat):Int):=by
   have:=congrArg (fun n:Nat=>(n:Int)) key
   simpa only [Int.natCast_mul] using this
  have hs1:sg n1 X=(if n1 then -1 else 1)*(X:Int):=by cases n1<;>simp [sg]
  have hs2:sg n1 N=(if n1 then -1 else 1)*(N:Int):=by cases n1<;>simp [sg]
  rw [hs1,hs2]
  generalize (if n1 then -1 else 1:Int)=σ
  generalize (if n2 then -1 else 1:Int)=τ
  calc τ*(σ*(X:Int)*up e1*(dn e2:Int))*((D*dn pos:Nat):Int)=τ*σ*((X:Int)*up e1*(dn e2:Int)*((D*dn pos:Nat):Int)):=by ac_rfl
   _=τ*σ*((N:Int)*up pos*((dn e1*(Y*2^e2.toNat):Nat):Int)):=by rw [kz]
   _=τ*(σ*(N:Int))*up pos*((dn e1*(Y*2^e2.toNat):Nat):Int):=by ac_rfl
end Wr
end
section
open Go Go.RowKit Eng
open _root_.Go.IntKind (wrap)
theorem za3 (ab:Bool) (ac:Slc) (ad:Slc) (aa:Int) (w:World) (R:Ending→World→Prop) (h:newC w (zR ab ac ad) 67 fun ad1 w1=>newC w1 (zS false nSl 0 false nSl 0) 50 fun ad2 w2=>ldr ad1 w2 fun b1 s1 s2=>kU 77 #[uR b1 s1 s2,vi aa,vi 0] w2 fun w3 b2 s3 x1 x2=>(newC w3 (zD false nSl 0) 27 fun ad3 w4=>xD ad3 b2 s3 x1 w4 fun w7=>br (x2==70) (xS ad2 false nSl 0 false nSl 0 w7 fun w13=>ld6 ad2 w13 fun b3 s4 x3 b4 s5 x4=>R (.returned (.tuple #[uS b3 s4 x3 b4 s5 x4,vi x2])) w13) (br (x2==1) (xS ad2 false nSl 0 false nSl 0 w7 fun w19=>ld6 ad2 w19 fun b5 s6 x5 b6 s7 x6=>R (.returned (.tuple #[uS b5 s6 x5 b6 s7 x6,vi x2])) w19) (ldr ad1 w7 fun b7 s8 s9=>kU 77 #[uR b7 s8 s9,vi aa,vi 1] w7 fun w20 b8 s10 x7 x8=>(newC w20 (zD false nSl 0) 27 fun ad4 w21=>xD ad4 b8 s10 x7 w21 fun w24=>ld3 ad3 w24 fun b9 s11 x9=>ld3 ad4 w24 fun b10 s12 x10=>kV 78 #[uD b9 s11 x9,vi x2,uD b10 s12 x10,vi x8] w24 fun w25 b11 s13 x11 b12 s14 x12 x13=>(xS ad2 b11 s13 x11 b12 s14 x12 w25 fun w31=>ld6 ad2 w31 fun b13 s15 x14 b14 s16 x15=>R (.returned (.tuple #[uS b13 s15 x14 b14 s16 x15,vi x13])) w31)))))):Calls pr 35 #[uR ab ac ad,vi aa] w R:=by
 refine zk (fun _=>none) (by kernel_rfl) Tryz.func35 rfl ?_ ?_
 ·refine kcast h ?_;kernel_rfl
 ·exact (za rfl (ze (za rfl (ze (za rfl (za rfl (ze (zh (za rfl (ze (zg (zi (za rfl (ze (za rfl (ze (zg trivial)))))))))))))))))
theorem Gt (aa:Bool) (ab:Slc) (ac:Int) (ag:Int) (ad:Bool) (ae:Slc) (af:Int) (ah:Int) (w:World) (R:Ending→World→Prop) (h:newC w (zD aa ab ac) 27 fun ad1 w1=>newC w1 (zD ad ae af) 27 fun ad2 w2=>newC w2 (zS false nSl 0 false nSl 0) 50 fun ad3 w3=>kI 64 #[vi ag,vi ah] w3 fun w4 x1=>(br (x1 !=0) (xS ad3 false nSl 0 false nSl 0 w4 fun w10=>ld6 ad3 w10 fun b1 s1 x2 b2 s2 x3=>R (.returned (.tuple #[uS b1 s1 x2 b2 s2 x3,vi x1])) w10) (ld3 ad1 w4 fun b3 s3 x4=>ld3 ad2 w4 fun b4 s4 x5=>xS ad3 b3 s3 x4 b4 s4 x5 w4 fun w16=>ld6 ad3 w16 fun b5 s5 x6 b6 s6 x7=>R (.returned (.tuple #[uS b5 s5 x6 b6 s6 x7,vi 0])) w16))):Calls pr 78 #[uD aa ab ac,vi ag,uD ad ae af,vi ah] w R:=by
 refine zk (fun _=>none) (by kernel_rfl) Tryz.func78 rfl ?_ ?_
 ·refine kcast h ?_;kernel_rfl
 ·exact (za rfl (ze (za rfl (za rfl (ze (za rfl (ze (zh (za rfl (ze (zg (zi (za rfl (ze (zg trivial)))))))))))))))
theorem Mx (aa:Int) (ab:Int) (w:World) (R:Ending→World→Prop) (h:br (aa==3) (R (.returned (vi 3)) w) (br (ab==3) (R (.returned (vi 3)) w) (br (aa !=0) (R (.returned (vi aa)) w) (R (.returned (vi ab)) w)))):Calls pr 64 #[vi aa,vi ab] w R:=by
 refine zk (fun _=>none) (by kernel_rfl) Tryz.func64 rfl ?_ ?_
 ·refine kcast h ?_;kernel_rfl
 ·exact (za rfl (ze (za rfl (za rfl (ze (zh (za rfl (ze (zg (zi (za rfl (za rfl (ze (zh (za rfl (ze (zg (zi (za rfl (ze (zg trivial)))))))))))))))))))))
theorem Db (ab:Bool) (ac:Slc) (ad:Int) (ae:Bool) (af:Slc) (ag:Int) (ah:Bool) (ai:Slc) (aj:Int) (ak:Bool) (al:Slc) (am:Int) (aa:Int) (w:World) (R:Ending→World→Prop) (h:newC w (zS ab ac ad ae af ag) 50 fun ad1 w1=>newC w1 (zS ah ai aj ak al am) 50 fun ad2 w2=>newC w2 (zS false nSl 0 false nSl 0) 50 fun ad3 w3=>ld6 ad1 w3 fun b1 s1 x1 b2 s2 x2=>ld6 ad2 w3 fun b3 s3 x3 b4 s4 x4=>newC w3 #[.bool b1,s1.v,vi x1,.bool b2,s2.v,vi x2,.bool b3,s3.v,vi x3,.bool b4,s4.v,vi x4] 50 fun ad4 w4=>kI 60 #[vi aa,(⟨some ad4,2,2⟩:Slc).v] w4 fun w5 x5=>(br (x5 !=0) (xS ad3 false nSl 0 false nSl 0 w5 fun w11=>ld6 ad3 w11 fun b5 s5 x6 b6 s6 x7=>R (.returned (.tuple #[uS b5 s5 x6 b6 s6 x7,vi x5])) w11) (ld6 ad1 w5 fun b7 s7 x8 b8 s8 x9=>ld6 ad2 w5 fun b9 s9 x10 b10 s10 x11=>kV 61 #[uS b7 s7 x8 b8 s8 x9,uS b9 s9 x10 b10 s10 x11,vi aa] w5 fun w12 b11 s11 x12 b12 s12 x13 x14=>(xS ad3 b11 s11 x12 b12 s12 x13 w12 fun w18=>ld6 ad3 w18 fun b13 s13 x15 b14 s14 x16=>R (.returned (.tuple #[uS b13 s13 x15 b14 s14 x16,vi x14])) w18)))):Calls pr 23 #[uS ab ac ad ae af ag,uS ah ai aj ak al am,vi aa] w R:=by
 refine zk (fun _=>none) (by kernel_rfl) Tryz.func23 rfl ?_ ?_
 ·refine kcast h ?_;kernel_rfl
 ·exact (za rfl (ze (za rfl (za rfl (ze (za rfl (ze (zh (za rfl (ze (zg (zi (za rfl (ze (zg trivial)))))))))))))))
theorem Dr (ab:Bool) (ac:Slc) (ad:Int) (ae:Bool) (af:Slc) (ag:Int) (ah:Bool) (ai:Slc) (aj:Int) (ak:Bool) (al:Slc) (am:Int) (aa:Int) (w:World) (R:Ending→World→Prop) (h:newC w (zS ab ac ad ae af ag) 50 fun ad1 w1=>newC w1 (zS ah ai aj ak al am) 50 fun ad2 w2=>newC w2 (zS false nSl 0 false nSl 0) 50 fun ad3 w3=>ld6 ad1 w3 fun b1 s1 x1 b2 s2 x2=>ld6 ad2 w3 fun b3 s3 x3 b4 s4 x4=>newC w3 #[.bool b1,s1.v,vi x1,.bool b2,s2.v,vi x2,.bool b3,s3.v,vi x3,.bool b4,s4.v,vi x4] 50 fun ad4 w4=>kI 60 #[vi aa,(⟨some ad4,2,2⟩:Slc).v] w4 fun w5 x5=>(br (x5 !=0) (xS ad3 false nSl 0 false nSl 0 w5 fun w11=>ld6 ad3 w11 fun b5 s5 x6 b6 s6 x7=>R (.returned (.tuple #[uS b5 s5 x6 b6 s6 x7,vi x5])) w11) (∃V1:Nat→Nat→Prop,Out (V1 1) (ad2.add 3) (ld3 (ad2.add 3) w5.drew fun b7 s7 x8=>Out (V1 4) ad2 (ld3 ad2 w5.drew fun b8 s8 x9=>kD 62 #[uD b7 s7 x8] w5.drew fun w12 b9 s9 x10=>(Bar (V1 4) w5.drew w12∧(kD 62 #[uD b8 s8 x9] w12 fun w13 b10 s10 x11=>(xD ad2 b9 s9 x10 w13 fun w16=>xD (ad2.add 3) b10 s10 x11 w16 fun w19=>ld6 ad1 w19 fun b11 s11 x12 b12 s12 x13=>ld6 ad2 w19 fun b13 s13 x14 b14 s14 x15=>kV 61 #[uS b11 s11 x12 b12 s12 x13,uS b13 s13 x14 b14 s14 x15,vi aa] w19 fun w20 b15 s15 x16 b16 s16 x17 x18=>(xS ad3 b15 s15 x16 b16 s16 x17 w20 fun w26=>ld6 ad3 w26 fun b17 s17 x19 b18 s18 x20=>R (.returned (.tuple #[uS b17 s17 x19 b18 s18 x20,vi x18])) w26))))))))):Calls pr 24 #[uS ab ac ad ae af ag,uS ah ai aj ak al am,vi aa] w R:=by
 refine zk (marks [2000004] (fun _=>none)) (by kernel_rfl) Tryz.func24 rfl ?_ ?_
 ·refine kcast h ?_;kernel_rfl
 ·exact (za rfl (ze (za rfl (za rfl (ze (za rfl (ze (zh (za rfl (ze (zg (zi (za rfl (xq _ rfl (by kernel_rfl) (za rfl (ze (zg trivial)))))))))))))))))
def U7 (J0:Int→Slc→Int→Int→World→Prop) (m0:Int→Slc→Int→Int→World→Nat):Nat→Option ((Act→World→Prop)×(Act→World→Nat))
 |0=>some (fun a_ w_=>atSz a_ 26 (atI .i64 a_ 0 fun t0_pos=>atS a_ 8 fun t8=>atI .i64 a_ 9 fun t9=>atI .i64 a_ 10 fun t10=>J0 t0_pos t8 t9 t10 w_),fun a_ w_=>mI a_ 0 fun t0_pos=>mS a_ 8 fun t8=>mI a_ 9 fun t9=>mI a_ 10 fun t10=>m0 t0_pos t8 t9 t10 w_)
 |_=>none
theorem Qj (ac:Int) (ad:Slc) (w:World) (R:Ending→World→Prop) (J0:Int→Slc→Int→Int→World→Prop) (m0:Int→Slc→Int→Int→World→Nat) (h:J0 ac ad (ad.n:Int) 0 w) (h0:∀aa t8 t9 t10 w_,J0 aa t8 t9 t10 w_→br (decide (t10<t9)) (semA pr (Instr.indexAt 131 t8.v (vi t10)) w_ fun ad1 w1=>ld6 ad1 w1 fun b1 s1 x1 b2 s2 x2=>newC w1 (zS false nSl 0 false nSl 0) 50 fun ad2 w2=>xS ad2 b1 s1 x1 b2 s2 x2 w2 fun w8=>ld6 ad2 w8 fun b3 s3 x3 b4 s4 x4=>kI 72 #[uS b3 s3 x3 b4 s4 x4] w8 fun w9 x5=>(br (x5 !=0) (R (.returned (vi x5)) w9) (J0 aa t8 t9 (wrap .i64 (t10+1)) w9∧m0 aa t8 t9 (wrap .i64 (t10+1)) w9<m0 aa t8 t9 t10 w_))) (br (decide (aa<(-1099511627776))) (R (.returned (vi 1)) w_) (br (decide (aa>1099511627776)) (R (.returned (vi 1)) w_) (R (.returned (vi 0)) w_)))):Calls pr 60 #[vi ac,ad.v] w R:=by
 refine zk (U7 J0 m0) (by kernel_rfl) Tryz.func60 rfl ?_ ?_
 ·refine kcast h ?_;kernel_rfl
 ·exact (za rfl (ze (za rfl (za rfl (ze (yg _ rfl (fun a_ w_ ab=>(by
  obtain ⟨af,ag,ab⟩:=ya ab
  obtain ⟨aa,ah,ab⟩:=zq ab
  obtain ⟨t8,ai,ab⟩:=zr ab
  obtain ⟨t9,aj,ab⟩:=zq ab
  obtain ⟨t10,ae,ab⟩:=zq ab
  obtain ⟨g0,rfl⟩:∃g,a_=Fr 26 [(0,vi aa),(8,t8.v),(9,vi t9),(10,vi t10)] g:=⟨_,yp af ag _ (zf ah (zf ai (zf aj (zf ae yc))))⟩
  clear af ag ah ai aj ae
  have ak:=ab
  refine ⟨(fun _=>none),kcast (h0 aa t8 t9 t10 w_ ak) ?_, ?_⟩
  ·kernel_rfl
  ·exact (za rfl (ze (za rfl (zh (zi (ye (za rfl (yh rfl (za rfl (ze (za rfl (ze (za rfl (ze (zh (za rfl (ze (zg (zi (ze trivial)))))))))))))))))))))) (za rfl (za rfl (ze (zh (za rfl (ze (zg (zi (za rfl (ze (zg trivial)))))))))))))))))
theorem Ms (aa:Bool) (ab:Slc) (ac:Int) (ad:Bool) (ae:Slc) (af:Int) (w:World) (R:Ending→World→Prop) (h:newC w (zS aa ab ac ad ae af) 50 fun ad1 w1=>ld3 ad1 w1 fun b1 s1 x1=>ld3 (ad1.add 3) w1 fun b2 s2 x2=>kT 59 #[uD b1 s1 x1,uD b2 s2 x2] w1 fun w2 x3 x4=>(br (x4==0) (br (decide (x3>0)) (R (.returned (vi 100)) w2) (R (.returned (vi x4)) w2)) (R (.returned (vi x4)) w2))):Calls pr 72 #[uS aa ab ac ad ae af] w R:=by
 refine zk (fun _=>none) (by kernel_rfl) Tryz.func72 rfl ?_ ?_
 ·refine kcast h ?_;kernel_rfl
 ·exact (za rfl (ze (za rfl (ze (za rfl (za rfl (ze (zh (za rfl (ze (zg (zi (za rfl (ze (zg trivial)))))))))))))))
theorem U9 (ab:Bool) (ac:Slc) (ad:Int) (ae:Bool) (af:Slc) (ag:Int) (aa:Int) (w:World) (R:Ending→World→Prop) (h:newC w (zD ab ac ad) 27 fun ad1 w1=>newC w1 (zD ae af ag) 27 fun ad2 w2=>newC w2 (zS false nSl 0 false nSl 0) 50 fun ad3 w3=>ld3 ad1 w3 fun b1 s1 x1=>kU 132 #[uD b1 s1 x1,vi aa,vi 0] w3 fun w4 b2 s2 x2 x3=>(newC w4 (zD false nSl 0) 27 fun ad4 w5=>xD ad4 b2 s2 x2 w5 fun w8=>ld3 ad2 w8 fun b3 s3 x4=>kU 132 #[uD b3 s3 x4,vi aa,vi 1] w8 fun w9 b4 s4 x5 x6=>(newC w9 (zD false nSl 0) 27 fun ad5 w10=>xD ad5 b4 s4 x5 w10 fun w13=>ld3 ad4 w13 fun b5 s5 x7=>ld3 ad5 w13 fun b6 s6 x8=>kV 78 #[uD b5 s5 x7,vi x3,uD b6 s6 x8,vi x6] w13 fun w14 b7 s7 x9 b8 s8 x10 x11=>(xS ad3 b7 s7 x9 b8 s8 x10 w14 fun w20=>ld6 ad3 w20 fun b9 s9 x12 b10 s10 x13=>R (.returned (.tuple #[uS b9 s9 x12 b10 s10 x13,vi x11])) w20)))):Calls pr 102 #[uD ab ac ad,uD ae af ag,vi aa] w R:=by
 refine zk (fun _=>none) (by kernel_rfl) Tryz.func102 rfl ?_ ?_
 ·refine kcast h ?_;kernel_rfl
 ·exact (za rfl (ze (za rfl (ze (za rfl (ze (za rfl (ze (zg trivial)))))))))
theorem Qn (aa:Bool) (ab:Slc) (ac:Int) (ad:Bool) (ae:Slc) (af:Int) (w:World) (R:Ending→World→Prop) (h:newC w (zD aa ab ac) 27 fun ad1 w1=>newC w1 (zD ad ae af) 27 fun ad2 w2=>newC w2 (zS false nSl 0 false nSl 0) 50 fun ad3 w3=>ld3 ad1 w3 fun b1 s1 x1=>kU 109 #[uD b1 s1 x1] w3 fun w4 b2 s2 x2 x3=>(newC w4 (zD false nSl 0) 27 fun ad4 w5=>xD ad4 b2 s2 x2 w5 fun w8=>ld3 ad2 w8 fun b3 s3 x4=>kU 109 #[uD b3 s3 x4] w8 fun w9 b4 s4 x5 x6=>(newC w9 (zD false nSl 0) 27 fun ad5 w10=>xD ad5 b4 s4 x5 w10 fun w13=>ld3 ad4 w13 fun b5 s5 x7=>ld3 ad5 w13 fun b6 s6 x8=>kV 78 #[uD b5 s5 x7,vi x3,uD b6 s6 x8,vi x6] w13 fun w14 b7 s7 x9 b8 s8 x10 x11=>(xS ad3 b7 s7 x9 b8 s8 x10 w14 fun w20=>ld6 ad3 w20 fun b9 s9 x12 b10 s10 x13=>R (.returned (.tuple #[uS b9 s9 x12 b10 s10 x13,vi x11])) w20)))):Calls pr 74 #[uD aa ab ac,uD ad ae af] w R:=by
 refine zk (fun _=>none) (by kernel_rfl) Tryz.func74 rfl ?_ ?_
 ·refine kcast h ?_;kernel_rfl
 ·exact (za rfl (ze (za rfl (ze (za rfl (ze (za rfl (ze (zg trivial)))))))))
theorem Qs (aa:Bool) (ab:Slc) (ac:Int) (w:World) (R:Ending→World→Prop) (h:newC w (zD aa ab ac) 27 fun ad1 w1=>newC w1 (zD false nSl 0) 27 fun ad2 w2=>ldB ad1 w2 fun b1=>stC ad1 (.bool (!b1)) w2 fun w3=>ld3 ad1 w3 fun b2 s1 x1=>xD ad2 b2 s1 x1 w3 fun w6=>ld3 ad2 w6 fun b3 s2 x2=>R (.returned (uD b3 s2 x2)) w6):Calls pr 62 #[uD aa ab ac] w R:=by
 refine zk (fun _=>none) (by kernel_rfl) Tryz.func62 rfl ?_ ?_
 ·refine kcast h ?_;kernel_rfl
 ·exact (za rfl (ze (za rfl (ze (za rfl (ze (zg trivial)))))))
theorem Qq (aa:Bool) (ab:Slc) (ac:Int) (ad:Bool) (ae:Slc) (af:Int) (w:World) (R:Ending→World→Prop) (h:newC w (zS aa ab ac ad ae af) 50 fun ad1 w1=>ld3 ad1 w1 fun b1 s1 x1=>kI 37 #[uD b1 s1 x1] w1 fun w2 x2=>(br (decide (x2≤0)) (ld3 (ad1.add 3) w2 fun b2 s2 x3=>kI 37 #[uD b2 s2 x3] w2 fun w3 x4=>(R (.returned (.bool (decide (x4≥0)))) w3)) (R (.returned (.bool false)) w2))):Calls pr 108 #[uS aa ab ac ad ae af] w R:=by
 refine zk (fun _=>none) (by kernel_rfl) Tryz.func108 rfl ?_ ?_
 ·refine kcast h ?_;kernel_rfl
 ·exact (za rfl (ze (za rfl (ze (zg trivial)))))
theorem Df (aa:Bool) (ab:Slc) (ac:Int) (ad:Bool) (ae:Slc) (af:Int) (ag:Bool) (ah:Slc) (ai:Int) (aj:Bool) (ak:Slc) (al:Int) (w:World) (R:Ending→World→Prop) (h:newC w (zS aa ab ac ad ae af) 50 fun ad1 w1=>newC w1 (zS ag ah ai aj ak al) 50 fun ad2 w2=>newC w2 (zS false nSl 0 false nSl 0) 50 fun ad3 w3=>ld6 ad1 w3 fun b1 s1 x1 b2 s2 x2=>ld6 ad2 w3 fun b3 s3 x3 b4 s4 x4=>kV 69 #[uS b1 s1 x1 b2 s2 x2,uS b3 s3 x3 b4 s4 x4,.func (Fn.func 70) #[] #[],.func (Fn.func 70) #[] #[]] w3 fun w4 b5 s5 x5 b6 s6 x6 x7=>(xS ad3 b5 s5 x5 b6 s6 x6 w4 fun w10=>ld6 ad3 w10 fun b7 s7 x8 b8 s8 x9=>R (.returned (.tuple #[uS b7 s7 x8 b8 s8 x9,vi x7])) w10)):Calls pr 29 #[uS aa ab ac ad ae af,uS ag ah ai aj ak al] w R:=by
 refine zk (fun _=>none) (by kernel_rfl) Tryz.func29 rfl ?_ ?_
 ·refine kcast h ?_;kernel_rfl
 ·exact (za rfl (ze (za rfl (ze (zg trivial)))))
theorem Dd (aa:Bool) (ab:Slc) (ac:Int) (ad:Bool) (ae:Slc) (af:Int) (ag:Bool) (ah:Slc) (ai:Int) (aj:Bool) (ak:Slc) (al:Int) (w:World) (R:Ending→World→Prop) (h:newC w (zS aa ab ac ad ae af) 50 fun ad1 w1=>newC w1 (zS ag ah ai aj ak al) 50 fun ad2 w2=>newC w2 (zS false nSl 0 false nSl 0) 50 fun ad3 w3=>ld6 ad1 w3 fun b1 s1 x1 b2 s2 x2=>ld6 ad2 w3 fun b3 s3 x3 b4 s4 x4=>kV 69 #[uS b1 s1 x1 b2 s2 x2,uS b3 s3 x3 b4 s4 x4,.func (Fn.func 71) #[] #[],.func (Fn.func 71) #[] #[]] w3 fun w4 b5 s5 x5 b6 s6 x6 x7=>(xS ad3 b5 s5 x5 b6 s6 x6 w4 fun w10=>ld6 ad3 w10 fun b7 s7 x8 b8 s8 x9=>R (.returned (.tuple #[uS b7 s7 x8 b8 s8 x9,vi x7])) w10)):Calls pr 30 #[uS aa ab ac ad ae af,uS ag ah ai aj ak al] w R:=by
 refine zk (fun _=>none) (by kernel_rfl) Tryz.func30 rfl ?_ ?_
 ·refine kcast h ?_;kernel_rfl
 ·exact (za rfl (ze (za rfl (ze (zg trivial)))))
theorem F9 (aa:Bool) (ab:Slc) (ac:Int) (ad:Bool) (ae:Slc) (af:Int) (w:World) (R:Ending→World→Prop) (h:newC w (zS aa ab ac ad ae af) 50 fun ad1 w1=>newC w1 (zS false nSl 0 false nSl 0) 50 fun ad2 w2=>ld6 ad1 w2 fun b1 s1 x1 b2 s2 x2=>kI 72 #[uS b1 s1 x1 b2 s2 x2] w2 fun w3 x3=>(br (x3 !=0) (xS ad2 false nSl 0 false nSl 0 w3 fun w9=>ld6 ad2 w9 fun b3 s3 x4 b4 s4 x5=>R (.returned (.tuple #[uS b3 s3 x4 b4 s4 x5,vi x3])) w9) (ld6 ad1 w3 fun b5 s5 x6 b6 s6 x7=>Calls pr 73 #[uS b5 s5 x6 b6 s6 x7] w3 fun e2 w10=>∃b7:Bool,∃s7:Slc,∃x8:Int,∃b8:Bool,∃s8:Slc,∃x9:Int,e2= .returned (uS b7 s7 x8 b8 s8 x9)∧(newC w10 (zS false nSl 0 false nSl 0) 50 fun ad3 w11=>xS ad3 b7 s7 x8 b8 s8 x9 w11 fun w17=>ld3 ad3 w17 fun b9 s9 x10=>ld3 (ad3.add 3) w17 fun b10 s10 x11=>kV 74 #[uD b9 s9 x10,uD b10 s10 x11] w17 fun w18 b11 s11 x12 b12 s12 x13 x14=>(xS ad2 b11 s11 x12 b12 s12 x13 w18 fun w24=>ld6 ad2 w24 fun b13 s13 x15 b14 s14 x16=>R (.returned (.tuple #[uS b13 s13 x15 b14 s14 x16,vi x14])) w24))))):Calls pr 31 #[uS aa ab ac ad ae af] w R:=by
 refine zk (fun _=>none) (by kernel_rfl) Tryz.func31 rfl ?_ ?_
 ·refine kcast h ?_;kernel_rfl
 ·exact (za rfl (ze (za rfl (za rfl (ze (za rfl (ze (zh (za rfl (ze (zg (zi (za rfl (ze (za rfl (ze (zg trivial)))))))))))))))))
theorem Gy (aa:Bool) (ab:Slc) (ac:Int) (w:World) (R:Ending→World→Prop) (h:newC w (zD aa ab ac) 27 fun ad1 w1=>newC w1 (zD false nSl 0) 27 fun ad2 w2=>stC ad1 (.bool false) w2 fun w3=>ld3 ad1 w3 fun b1 s1 x1=>xD ad2 b1 s1 x1 w3 fun w6=>ld3 ad2 w6 fun b2 s2 x2=>R (.returned (uD b2 s2 x2)) w6):Calls pr 107 #[uD aa ab ac] w R:=by
 refine zk (fun _=>none) (by kernel_rfl) Tryz.func107 rfl ?_ ?_
 ·refine kcast h ?_;kernel_rfl
 ·exact (za rfl (ze (za rfl (ze (za rfl (ze (zg trivial)))))))
def gq (K3:Addr→Addr→Addr→Addr→World→Prop):Nat→Option ((Act→World→Prop)×(Act→World→Nat))
 |3000003=>some (fun a_ w_=>atSz a_ 29 (atA a_ 1 fun t1_a=>atA a_ 2 fun t2=>atA a_ 3 fun t3_lo=>atA a_ 4 fun t4_hi=>K3 t1_a t2 t3_lo t4_hi w_),fun _ _=>0)
 |_=>none
theorem Mw (af:Bool) (ag:Slc) (ah:Int) (ai:Bool) (aj:Slc) (ak:Int) (w:World) (R:Ending→World→Prop) (K3:Addr→Addr→Addr→Addr→World→Prop) (h:newC w (zS af ag ah ai aj ak) 50 fun ad1 w1=>newC w1 (zS false nSl 0 false nSl 0) 50 fun ad2 w2=>∃V1:Nat→Nat→Prop,Out (V1 1) ad1 (ld3 ad1 w2.drew fun b1 s1 x1=>Out (V1 4) (ad1.add 3) (ld3 (ad1.add 3) w2.drew fun b2 s2 x2=>(kD 107 #[uD b1 s1 x1] w2.drew fun w3 b3 s3 x3=>(Bar (V1 4) w2.drew w3∧((kD 107 #[uD b2 s2 x2] w3 fun w4 b4 s4 x4=>((newC w4 (zD false nSl 0) 27 fun ad3 w5=>Bar (V1 1) w4 w5∧(Bar (V1 4) w4 w5∧(newC w5 (zD false nSl 0) 27 fun ad4 w6=>Bar (V1 1) w5 w6∧(Bar (V1 4) w5 w6∧(xD ad3 b3 s3 x3 w6 fun w9=>xD ad4 b4 s4 x4 w9 fun w12=>K3 ad1 ad2 ad3 ad4 w12)))))∧(newC w4 (zD false nSl 0) 27 fun ad5 w52=>Bar (V1 1) w4 w52∧(Bar (V1 4) w4 w52∧(newC w52 (zD false nSl 0) 27 fun ad6 w53=>Bar (V1 1) w52 w53∧(Bar (V1 4) w52 w53∧(xD ad6 b3 s3 x3 w53 fun w56=>xD ad5 b4 s4 x4 w56 fun w59=>K3 ad1 ad2 ad6 ad5 w59)))))))∧((newC w3 (zD false nSl 0) 27 fun ad7 w60=>Bar (V1 1) w3 w60∧(Bar (V1 4) w3 w60∧((kD 107 #[uD b2 s2 x2] w60 fun w61 b31 s29 x31=>(newC w61 (zD false nSl 0) 27 fun ad8 w62=>Bar (V1 1) w61 w62∧(Bar (V1 4) w61 w62∧(xD ad7 b3 s3 x3 w62 fun w65=>xD ad8 b31 s29 x31 w65 fun w68=>K3 ad1 ad2 ad7 ad8 w68))))∧(newC w60 (zD false nSl 0) 27 fun ad9 w69=>Bar (V1 1) w60 w69∧(Bar (V1 4) w60 w69∧(kD 107 #[uD b2 s2 x2] w69 fun w70 b32 s30 x32=>(xD ad7 b3 s3 x3 w70 fun w73=>xD ad9 b32 s30 x32 w73 fun w76=>K3 ad1 ad2 ad7 ad9 w76)))))))∧(newC w3 (zD false nSl 0) 27 fun ad10 w77=>Bar (V1 1) w3 w77∧(Bar (V1 4) w3 w77∧((kD 107 #[uD b2 s2 x2] w77 fun w78 b33 s31 x33=>(newC w78 (zD false nSl 0) 27 fun ad11 w79=>Bar (V1 1) w78 w79∧(Bar (V1 4) w78 w79∧(xD ad11 b3 s3 x3 w79 fun w82=>xD ad10 b33 s31 x33 w82 fun w85=>K3 ad1 ad2 ad11 ad10 w85))))∧(newC w77 (zD false nSl 0) 27 fun ad12 w86=>Bar (V1 1) w77 w86∧(Bar (V1 4) w77 w86∧(kD 107 #[uD b2 s2 x2] w86 fun w87 b34 s32 x34=>(xD ad12 b3 s3 x3 w87 fun w90=>xD ad10 b34 s32 x34 w90 fun w93=>K3 ad1 ad2 ad12 ad10 w93)))))))))))∧((newC w2.drew (zD false nSl 0) 27 fun ad13 w94=>Bar (V1 1) w2.drew w94∧(Bar (V1 4) w2.drew w94∧((kD 107 #[uD b1 s1 x1] w94 fun w95 b35 s33 x35=>(Bar (V1 4) w94 w95∧((kD 107 #[uD b2 s2 x2] w95 fun w96 b36 s34 x36=>(newC w96 (zD false nSl 0) 27 fun ad14 w97=>Bar (V1 1) w96 w97∧(Bar (V1 4) w96 w97∧(xD ad13 b35 s33 x35 w97 fun w100=>xD ad14 b36 s34 x36 w100 fun w103=>K3 ad1 ad2 ad13 ad14 w103))))∧(newC w95 (zD false nSl 0) 27 fun ad15 w104=>Bar (V1 1) w95 w104∧(Bar (V1 4) w95 w104∧(kD 107 #[uD b2 s2 x2] w104 fun w105 b37 s35 x37=>(xD ad13 b35 s33 x35 w105 fun w108=>xD ad15 b37 s35 x37 w108 fun w111=>K3 ad1 ad2 ad13 ad15 w111)))))))∧(newC w94 (zD false nSl 0) 27 fun ad16 w112=>Bar (V1 1) w94 w112∧(Bar (V1 4) w94 w112∧(kD 107 #[uD b1 s1 x1] w112 fun w113 b38 s36 x38=>(Bar (V1 4) w112 w113∧(kD 107 #[uD b2 s2 x2] w113 fun w114 b39 s37 x39=>(xD ad13 b38 s36 x38 w114 fun w117=>xD ad16 b39 s37 x39 w117 fun w120=>K3 ad1 ad2 ad13 ad16 w120)))))))))∧(newC w2.drew (zD false nSl 0) 27 fun ad17 w121=>Bar (V1 1) w2.drew w121∧(Bar (V1 4) w2.drew w121∧((kD 107 #[uD b1 s1 x1] w121 fun w122 b40 s38 x40=>(Bar (V1 4) w121 w122∧((kD 107 #[uD b2 s2 x2] w122 fun w123 b41 s39 x41=>(newC w123 (zD false nSl 0) 27 fun ad18 w124=>Bar (V1 1) w123 w124∧(Bar (V1 4) w123 w124∧(xD ad18 b40 s38 x40 w124 fun w127=>xD ad17 b41 s39 x41 w127 fun w130=>K3 ad1 ad2 ad18 ad17 w130))))∧(newC w122 (zD false nSl 0) 27 fun ad19 w131=>Bar (V1 1) w122 w131∧(Bar (V1 4) w122 w131∧(kD 107 #[uD b2 s2 x2] w131 fun w132 b42 s40 x42=>(xD ad19 b40 s38 x40 w132 fun w135=>xD ad17 b42 s40 x42 w135 fun w138=>K3 ad1 ad2 ad19 ad17 w138)))))))∧(newC w121 (zD false nSl 0) 27 fun ad20 w139=>Bar (V1 1) w121 w139∧(Bar (V1 4) w121 w139∧(kD 107 #[uD b1 s1 x1] w139 fun w140 b43 s41 x43=>(Bar (V1 4) w139 w140∧(kD 107 #[uD b2 s2 x2] w140 fun w141 b44 s42 x44=>(xD ad20 b43 s41 x43 w141 fun w144=>xD ad17 b44 s42 x44 w144 fun w147=>K3 ad1 ad2 ad20 ad17 w147))))))))))))) (al:∀ad t2 aa ab w_,K3 ad t2 aa ab w_→ld3 aa w_ fun b5 s5 x5=>ld3 ab w_ fun b6 s6 x6=>kT 59 #[uD b5 s5 x5,uD b6 s6 x6] w_ fun w13 x7 x8=>(br (decide (x7>0)) (ld3 ab w13 fun b7 s7 x9=>ld3 aa w13 fun b8 s8 x10=>xD aa b7 s7 x9 w13 fun w16=>xD ab b8 s8 x10 w16 fun w19=>ld6 ad w19 fun b9 s9 x11 b10 s10 x12=>kB 108 #[uS b9 s9 x11 b10 s10 x12] w19 fun w20 b11=>(br b11 (xt3 aa (.bool false) nSl.v (vi 0) w20 fun w23=>ld3 aa w23 fun b12 s11 x13=>ld3 ab w23 fun b13 s12 x14=>xS t2 b12 s11 x13 b13 s12 x14 w23 fun w29=>ld6 t2 w29 fun b14 s13 x15 b15 s14 x16=>R (.returned (uS b14 s13 x15 b15 s14 x16)) w29) (ld3 aa w20 fun b16 s15 x17=>ld3 ab w20 fun b17 s16 x18=>xS t2 b16 s15 x17 b17 s16 x18 w20 fun w35=>ld6 t2 w35 fun b18 s17 x19 b19 s18 x20=>R (.returned (uS b18 s17 x19 b19 s18 x20)) w35))) (ld6 ad w13 fun b20 s19 x21 b21 s20 x22=>kB 108 #[uS b20 s19 x21 b21 s20 x22] w13 fun w36 b22=>(br b22 (xt3 aa (.bool false) nSl.v (vi 0) w36 fun w39=>ld3 aa w39 fun b23 s21 x23=>ld3 ab w39 fun b24 s22 x24=>xS t2 b23 s21 x23 b24 s22 x24 w39 fun w45=>ld6 t2 w45 fun b25 s23 x25 b26 s24 x26=>R (.returned (uS b25 s23 x25 b26 s24 x26)) w45) (ld3 aa w36 fun b27 s25 x27=>ld3 ab w36 fun b28 s26 x28=>xS t2 b27 s25 x27 b28 s26 x28 w36 fun w51=>ld6 t2 w51 fun b29 s27 x29 b30 s28 x30=>R (.returned (uS b29 s27 x29 b30 s28 x30)) w51))))):Calls pr 73 #[uS af ag ah ai aj ak] w R:=by
 refine zk (marks [2000001] (gq K3)) (by kernel_rfl) Tryz.func73 rfl ?_ ?_
 ·refine kcast h ?_;kernel_rfl
 ·exact (za rfl (ze (xr _ rfl (xq _ rfl (by kernel_rfl) trivial) (fun a_ w_ ac=>(by
  obtain ⟨am,an,ac⟩:=ya ac
  obtain ⟨ad,ao,ac⟩:=yf ac
  obtain ⟨t2,ap,ac⟩:=yf ac
  obtain ⟨aa,aq,ac⟩:=yf ac
  obtain ⟨ab,ar,ac⟩:=yf ac
  obtain ⟨au,rfl⟩:∃g,a_=Fr 29 [(1,vp ad),(2,vp t2),(3,vp aa),(4,vp ab)] g:=⟨_,yp am an _ (zf ao (zf ap (zf aq (zf ar yc))))⟩
  clear am an ao ap aq ar
  have ae:=ac
  refine ⟨(marks [2000001] (gq K3)),kcast (al ad t2 aa ab w_ ae) ?_, ?_⟩
  ·kernel_rfl
  ·exact (za rfl (za rfl (ze (za rfl (ze (zh (ze (zi (za rfl (za rfl (ze (zh (ze (zi (za rfl (ze (zg trivial))))))))))))))))))))))
theorem G0 (aa:Bool) (ab:Slc) (ac:Int) (ad:Bool) (ae:Slc) (af:Int) (ag:Bool) (ah:Slc) (ai:Int) (aj:Bool) (ak:Slc) (al:Int) (am:Int) (w:World) (R:Ending→World→Prop) (h:newC w (zS aa ab ac ad ae af) 50 fun ad1 w1=>newC w1 (zS ag ah ai aj ak al) 50 fun ad2 w2=>newC w2 (zS false nSl 0 false nSl 0) 50 fun ad3 w3=>ld3 ad1 w3 fun b1 s1 x1=>ld3 ad2 w3 fun b2 s2 x2=>kU 101 #[uD b1 s1 x1,uD b2 s2 x2] w3 fun w4 b3 s3 x3 x4=>(newC w4 (zD false nSl 0) 27 fun ad4 w5=>xD ad4 b3 s3 x3 w5 fun w8=>ld3 (ad1.add 3) w8 fun b4 s4 x5=>ld3 (ad2.add 3) w8 fun b5 s5 x6=>kU 101 #[uD b4 s4 x5,uD b5 s5 x6] w8 fun w9 b6 s6 x7 x8=>(newC w9 (zD false nSl 0) 27 fun ad5 w10=>xD ad5 b6 s6 x7 w10 fun w13=>kI 64 #[vi x4,vi x8] w13 fun w14 x9=>(br (x9 !=0) (xS ad3 false nSl 0 false nSl 0 w14 fun w20=>ld6 ad3 w20 fun b7 s7 x10 b8 s8 x11=>R (.returned (.tuple #[uS b7 s7 x10 b8 s8 x11,vi x9])) w20) (ld3 ad4 w14 fun b9 s9 x12=>ld3 ad5 w14 fun b10 s10 x13=>kV 102 #[uD b9 s9 x12,uD b10 s10 x13,vi am] w14 fun w21 b11 s11 x14 b12 s12 x15 x16=>(xS ad3 b11 s11 x14 b12 s12 x15 w21 fun w27=>ld6 ad3 w27 fun b13 s13 x17 b14 s14 x18=>R (.returned (.tuple #[uS b13 s13 x17 b14 s14 x18,vi x16])) w27)))))):Calls pr 61 #[uS aa ab ac ad ae af,uS ag ah ai aj ak al,vi am] w R:=by
 refine zk (fun _=>none) (by kernel_rfl) Tryz.func61 rfl ?_ ?_
 ·refine kcast h ?_;kernel_rfl
 ·exact (za rfl (ze (za rfl (ze (za rfl (ze (za rfl (za rfl (ze (za rfl (ze (zh (za rfl (ze (zg (zi (za rfl (ze (zg trivial)))))))))))))))))))
theorem Gw (aa:Bool) (ab:Slc) (ac:Int) (w:World) (R:Ending→World→Prop) (h:newC w (zD aa ab ac) 27 fun ad1 w1=>newC w1 (zD false nSl 0) 27 fun ad2 w2=>ld3 ad1 w2 fun b1 s1 x1=>kU 138 #[uD b1 s1 x1,vi 0] w2 fun w3 b2 s2 x2 x3=>(xD ad2 b2 s2 x2 w3 fun w6=>ld3 ad2 w6 fun b3 s3 x4=>R (.returned (.tuple #[uD b3 s3 x4,vi x3])) w6)):Calls pr 109 #[uD aa ab ac] w R:=by
 refine zk (fun _=>none) (by kernel_rfl) Tryz.func109 rfl ?_ ?_
 ·refine kcast h ?_;kernel_rfl
 ·exact (za rfl (ze (za rfl (ze (zg trivial)))))
def uw (K7:Int→Addr→Addr→Addr→World→Prop) (K8:Int→Addr→Addr→Addr→Addr→Addr→World→Prop) (K10:Int→Addr→Addr→Addr→Addr→Addr→World→Prop) (K12:Int→Addr→Addr→Addr→Addr→World→Prop):Nat→Option ((Act→World→Prop)×(Act→World→Nat))
 |3000007=>some (fun a_ w_=>atSz a_ 76 (atI .i64 a_ 2 fun t2=>atA a_ 3 fun t3=>atA a_ 4 fun t4=>atA a_ 6 fun t6=>K7 t2 t3 t4 t6 w_),fun _ _=>0)
 |3000008=>some (fun a_ w_=>atSz a_ 76 (atI .i64 a_ 2 fun t2=>atA a_ 3 fun t3=>atA a_ 4 fun t4=>atA a_ 6 fun t6=>atA a_ 8 fun t8=>atA a_ 9 fun t9=>K8 t2 t3 t4 t6 t8 t9 w_),fun _ _=>0)
 |3000010=>some (fun a_ w_=>atSz a_ 76 (atI .i64 a_ 2 fun t2=>atA a_ 3 fun t3=>atA a_ 4 fun t4=>atA a_ 6 fun t6=>atA a_ 8 fun t8=>atA a_ 9 fun t9=>K10 t2 t3 t4 t6 t8 t9 w_),fun _ _=>0)
 |3000012=>some (fun a_ w_=>atSz a_ 76 (atI .i64 a_ 2 fun t2=>atA a_ 3 fun t3=>atA a_ 6 fun t6=>atA a_ 8 fun t8=>atA a_ 9 fun t9=>K12 t2 t3 t6 t8 t9 w_),fun _ _=>0)
 |_=>none
theorem Yc (ar:Bool) (au:Slc) (av:Int) (aw:Bool) (ax:Slc) (ay:Int) (az:Bool) (aA:Slc) (aB:Int) (aC:Bool) (aD:Slc) (aE:Int) (a2:Int) (w:World) (R:Ending→World→Prop) (K7:Int→Addr→Addr→Addr→World→Prop) (K8:Int→Addr→Addr→Addr→Addr→Addr→World→Prop) (K10:Int→Addr→Addr→Addr→Addr→Addr→World→Prop) (K12:Int→Addr→Addr→Addr→Addr→World→Prop) (h:newC w (zS ar au av aw ax ay) 50 fun ad1 w1=>newC w1 (zS az aA aB aC aD aE) 50 fun ad2 w2=>newC w2 (zS false nSl 0 false nSl 0) 50 fun ad3 w3=>ld6 ad2 w3 fun b1 s1 x1 b2 s2 x2=>kB 108 #[uS b1 s1 x1 b2 s2 x2] w3 fun w4 b3=>(br b3 (xS ad3 false nSl 0 false nSl 0 w4 fun w10=>ld6 ad3 w10 fun b4 s3 x3 b5 s4 x4=>R (.returned (.tuple #[uS b4 s3 x3 b5 s4 x4,vi 101])) w10) (ld3 ad2 w4 fun b6 s5 x5=>kI 37 #[uD b6 s5 x5] w4 fun w11 x6=>(br (decide (x6<0)) (∃V1:Nat→Nat→Prop,Out (V1 1) (ad1.add 3) (ld3 (ad1.add 3) w11.drew fun b7 s6 x7=>Out (V1 4) ad1 (ld3 ad1 w11.drew fun b8 s7 x8=>kD 62 #[uD b7 s6 x7] w11.drew fun w12 b9 s8 x9=>(Bar (V1 4) w11.drew w12∧(kD 62 #[uD b8 s7 x8] w12 fun w13 b10 s9 x10=>(xD ad1 b9 s8 x9 w13 fun w16=>xD (ad1.add 3) b10 s9 x10 w16 fun w19=>∃V2:Nat→Nat→Prop,Out (V2 1) (ad2.add 3) (ld3 (ad2.add 3) w19.drew fun b11 s10 x11=>Out (V2 4) ad2 (ld3 ad2 w19.drew fun b12 s11 x12=>kD 62 #[uD b11 s10 x11] w19.drew fun w20 b13 s12 x13=>(Bar (V2 4) w19.drew w20∧(kD 62 #[uD b12 s11 x12] w20 fun w21 b14 s13 x14=>(xD ad2 b13 s12 x13 w21 fun w24=>xD (ad2.add 3) b14 s13 x14 w24 fun w27=>K7 a2 ad1 ad2 ad3 w27))))))))))) (K7 a2 ad1 ad2 ad3 w11))))) (an:∀t2 t3 t4 t6 w_,K7 t2 t3 t4 t6 w_→∃V3:Nat→Nat→Prop,Out (V3 1) (t4.add 3) (ld3 (t4.add 3) w_.drew fun b15 s14 x15=>Out (V3 3) t4 (ld3 t4 w_.drew fun b16 s15 x16=>(newC w_.drew (zD false nSl 0) 27 fun ad4 w28=>Bar (V3 1) w_.drew w28∧(Bar (V3 3) w_.drew w28∧(newC w28 (zD false nSl 0) 27 fun ad5 w29=>Bar (V3 1) w28 w29∧(Bar (V3 3) w28 w29∧(xD ad4 b15 s14 x15 w29 fun w32=>Bar (V3 3) w29 w32∧(xD ad5 b16 s15 x16 w32 fun w35=>K8 t2 t3 t4 t6 ad4 ad5 w35))))))∧(newC w_.drew (zD false nSl 0) 27 fun ad8 w61=>Bar (V3 1) w_.drew w61∧(Bar (V3 3) w_.drew w61∧(newC w61 (zD false nSl 0) 27 fun ad9 w62=>Bar (V3 1) w61 w62∧(Bar (V3 3) w61 w62∧(xD ad9 b15 s14 x15 w62 fun w65=>Bar (V3 3) w62 w65∧(xD ad8 b16 s15 x16 w65 fun w68=>K8 t2 t3 t4 t6 ad9 ad8 w68))))))))) (ao:∀t2 t3 t4 t6 t8 t9 w_,K8 t2 t3 t4 t6 t8 t9 w_→ld3 t3 w_ fun b17 s16 x17=>kI 37 #[uD b17 s16 x17] w_ fun w36 x18=>(br (decide (x18<0)) (ld3 t4 w36 fun b18 s17 x19=>xD t8 b18 s17 x19 w36 fun w39=>K10 t2 t3 t4 t6 t8 t9 w39) (K10 t2 t3 t4 t6 t8 t9 w36))) (ap:∀t2 t3 t4 t6 t8 t9 w_,K10 t2 t3 t4 t6 t8 t9 w_→ld3 (t3.add 3) w_ fun b19 s18 x20=>kI 37 #[uD b19 s18 x20] w_ fun w40 x21=>(br (decide (x21<0)) (ld3 (t4.add 3) w40 fun b20 s19 x22=>xD t9 b20 s19 x22 w40 fun w43=>K12 t2 t3 t6 t8 t9 w43) (K12 t2 t3 t6 t8 t9 w40))) (aq:∀t2 t3 t6 t8 t9 w_,K12 t2 t3 t6 t8 t9 w_→ld3 t3 w_ fun b21 s20 x23=>ld3 t8 w_ fun b22 s21 x24=>kU 11 #[uD b21 s20 x23,uD b22 s21 x24,vi t2,vi 0] w_ fun w44 b23 s22 x25 x26=>(newC w44 (zD false nSl 0) 27 fun ad6 w45=>xD ad6 b23 s22 x25 w45 fun w48=>ld3 (t3.add 3) w48 fun b24 s23 x27=>ld3 t9 w48 fun b25 s24 x28=>kU 11 #[uD b24 s23 x27,uD b25 s24 x28,vi t2,vi 1] w48 fun w49 b26 s25 x29 x30=>(newC w49 (zD false nSl 0) 27 fun ad7 w50=>xD ad7 b26 s25 x29 w50 fun w53=>ld3 ad6 w53 fun b27 s26 x31=>ld3 ad7 w53 fun b28 s27 x32=>kV 78 #[uD b27 s26 x31,vi x26,uD b28 s27 x32,vi x30] w53 fun w54 b29 s28 x33 b30 s29 x34 x35=>(xS t6 b29 s28 x33 b30 s29 x34 w54 fun w60=>ld6 t6 w60 fun b31 s30 x36 b32 s31 x37=>R (.returned (.tuple #[uS b31 s30 x36 b32 s31 x37,vi x35])) w60)))):Calls pr 75 #[uS ar au av aw ax ay,uS az aA aB aC aD aE,vi a2] w R:=by
 refine zk (marks [2000004,2000005,2000006] (uw K7 K8 K10 K12)) (by kernel_rfl) Tryz.func75 rfl ?_ ?_
 ·refine kcast h ?_;kernel_rfl
 ·exact (za rfl (ze (za rfl (za rfl (ze (zh (za rfl (ze (zg (zi (xr _ rfl (za rfl (ze (zh (za rfl (xq _ rfl (by kernel_rfl) (xq _ rfl (by kernel_rfl) (zi trivial))))))) (fun a_ w_ aa=>(by
  obtain ⟨ab,ac,aa⟩:=ya aa
  obtain ⟨t2,ad,aa⟩:=zq aa
  obtain ⟨t3,ae,aa⟩:=yf aa
  obtain ⟨t4,ag,aa⟩:=yf aa
  obtain ⟨t6,af,aa⟩:=yf aa
  obtain ⟨aF,rfl⟩:∃g,a_=Fr 76 [(2,vi t2),(3,vp t3),(4,vp t4),(6,vp t6)] g:=⟨_,yp ab ac _ (zf ad (zf ae (zf ag (zf af yc))))⟩
  clear ab ac ad ae ag af
  have aj:=aa
  refine ⟨(marks [2000004,2000005,2000006] (uw K7 K8 K10 K12)),kcast (an t2 t3 t4 t6 w_ aj) ?_, ?_⟩
  ·kernel_rfl
  ·exact (xr _ rfl (xq _ rfl (by kernel_rfl) trivial) (fun a_ w_ aa=>(by
   obtain ⟨ab,ac,aa⟩:=ya aa
   obtain ⟨t2,ad,aa⟩:=zq aa
   obtain ⟨t3,ae,aa⟩:=yf aa
   obtain ⟨t4,ag,aa⟩:=yf aa
   obtain ⟨t6,af,aa⟩:=yf aa
   obtain ⟨t8,ah,aa⟩:=yf aa
   obtain ⟨t9,ai,aa⟩:=yf aa
   obtain ⟨aG,rfl⟩:∃g,a_=Fr 76 [(2,vi t2),(3,vp t3),(4,vp t4),(6,vp t6),(8,vp t8),(9,vp t9)] g:=⟨_,yp ab ac _ (zf ad (zf ae (zf ag (zf af (zf ah (zf ai yc))))))⟩
   clear ab ac ad ae ag af ah ai
   have ak:=aa
   refine ⟨(marks [2000004,2000005,2000006] (uw K7 K8 K10 K12)),kcast (ao t2 t3 t4 t6 t8 t9 w_ ak) ?_, ?_⟩
   ·kernel_rfl
   ·exact (xr _ rfl (za rfl (ze (zh (ze (zi trivial))))) (fun a_ w_ aa=>(by
    obtain ⟨ab,ac,aa⟩:=ya aa
    obtain ⟨t2,ad,aa⟩:=zq aa
    obtain ⟨t3,ae,aa⟩:=yf aa
    obtain ⟨t4,ag,aa⟩:=yf aa
    obtain ⟨t6,af,aa⟩:=yf aa
    obtain ⟨t8,ah,aa⟩:=yf aa
    obtain ⟨t9,ai,aa⟩:=yf aa
    obtain ⟨aH,rfl⟩:∃g,a_=Fr 76 [(2,vi t2),(3,vp t3),(4,vp t4),(6,vp t6),(8,vp t8),(9,vp t9)] g:=⟨_,yp ab ac _ (zf ad (zf ae (zf ag (zf af (zf ah (zf ai yc))))))⟩
    clear ab ac ad ae ag af ah ai
    have al:=aa
    refine ⟨(marks [2000004,2000005,2000006] (uw K7 K8 K10 K12)),kcast (ap t2 t3 t4 t6 t8 t9 w_ al) ?_, ?_⟩
    ·kernel_rfl
    ·exact (xr _ rfl (za rfl (ze (zh (ze (zi trivial))))) (fun a_ w_ aa=>(by
     obtain ⟨ab,ac,aa⟩:=ya aa
     obtain ⟨t2,ad,aa⟩:=zq aa
     obtain ⟨t3,ae,aa⟩:=yf aa
     obtain ⟨t6,af,aa⟩:=yf aa
     obtain ⟨t8,ah,aa⟩:=yf aa
     obtain ⟨t9,ai,aa⟩:=yf aa
     obtain ⟨aI,rfl⟩:∃g,a_=Fr 76 [(2,vi t2),(3,vp t3),(6,vp t6),(8,vp t8),(9,vp t9)] g:=⟨_,yp ab ac _ (zf ad (zf ae (zf af (zf ah (zf ai yc)))))⟩
     clear ab ac ad ae af ah ai
     have am:=aa
     refine ⟨(marks [2000004,2000005,2000006] (uw K7 K8 K10 K12)),kcast (aq t2 t3 t6 t8 t9 w_ am) ?_, ?_⟩
     ·kernel_rfl
     ·exact (za rfl (ze (za rfl (ze (za rfl (ze (zg trivial)))))))))))))))))))))))))))))
theorem Dn (ab:Bool) (ac:Slc) (ad:Int) (ae:Bool) (af:Slc) (ag:Int) (ah:Bool) (ai:Slc) (aj:Int) (ak:Bool) (al:Slc) (am:Int) (aa:Int) (w:World) (R:Ending→World→Prop) (h:newC w (zS ab ac ad ae af ag) 50 fun ad1 w1=>newC w1 (zS ah ai aj ak al am) 50 fun ad2 w2=>newC w2 (zS false nSl 0 false nSl 0) 50 fun ad3 w3=>ld6 ad1 w3 fun b1 s1 x1 b2 s2 x2=>ld6 ad2 w3 fun b3 s3 x3 b4 s4 x4=>newC w3 #[.bool b1,s1.v,vi x1,.bool b2,s2.v,vi x2,.bool b3,s3.v,vi x3,.bool b4,s4.v,vi x4] 50 fun ad4 w4=>kI 60 #[vi aa,(⟨some ad4,2,2⟩:Slc).v] w4 fun w5 x5=>(br (x5 !=0) (xS ad3 false nSl 0 false nSl 0 w5 fun w11=>ld6 ad3 w11 fun b5 s5 x6 b6 s6 x7=>R (.returned (.tuple #[uS b5 s5 x6 b6 s6 x7,vi x5])) w11) (ld6 ad1 w5 fun b7 s7 x8 b8 s8 x9=>ld6 ad2 w5 fun b9 s9 x10 b10 s10 x11=>kV 75 #[uS b7 s7 x8 b8 s8 x9,uS b9 s9 x10 b10 s10 x11,vi aa] w5 fun w12 b11 s11 x12 b12 s12 x13 x14=>(xS ad3 b11 s11 x12 b12 s12 x13 w12 fun w18=>ld6 ad3 w18 fun b13 s13 x15 b14 s14 x16=>R (.returned (.tuple #[uS b13 s13 x15 b14 s14 x16,vi x14])) w18)))):Calls pr 32 #[uS ab ac ad ae af ag,uS ah ai aj ak al am,vi aa] w R:=by
 refine zk (fun _=>none) (by kernel_rfl) Tryz.func32 rfl ?_ ?_
 ·refine kcast h ?_;kernel_rfl
 ·exact (za rfl (ze (za rfl (za rfl (ze (za rfl (ze (zh (za rfl (ze (zg (zi (za rfl (ze (zg trivial)))))))))))))))
def Mt (J0:Int→Addr→Addr→Addr→Slc→Int→Int→World→Prop) (m0:Int→Addr→Addr→Addr→Slc→Int→Int→World→Nat):Nat→Option ((Act→World→Prop)×(Act→World→Nat))
 |0=>some (fun a_ w_=>atSz a_ 52 (atI .i64 a_ 0 fun t0_pos=>atA a_ 4 fun t4=>atA a_ 6 fun t6_lo=>atA a_ 7 fun t7_hi=>atS a_ 21 fun t21=>atI .i64 a_ 22 fun t22=>atI .i64 a_ 23 fun t23=>J0 t0_pos t4 t6_lo t7_hi t21 t22 t23 w_),fun a_ w_=>mI a_ 0 fun t0_pos=>mA a_ 4 fun t4=>mA a_ 6 fun t6_lo=>mA a_ 7 fun t7_hi=>mS a_ 21 fun t21=>mI a_ 22 fun t22=>mI a_ 23 fun t23=>m0 t0_pos t4 t6_lo t7_hi t21 t22 t23 w_)
 |_=>none
theorem Gu (ae:Int) (af:Slc) (w:World) (R:Ending→World→Prop) (J0:Int→Addr→Addr→Addr→Slc→Int→Int→World→Prop) (m0:Int→Addr→Addr→Addr→Slc→Int→Int→World→Nat) (h:newC w (zS false nSl 0 false nSl 0) 50 fun ad1 w1=>∃V1:Nat→Nat→Prop,anyA pr (Instr.indexAt 91 af.v (vi 0)) fun ad2=>Out (V1 2) ad2 (ld3 ad2 w1.drew fun b1 s1 x1=>anyA pr (Instr.indexAt 91 af.v (vi 0)) fun ad3=>Out (V1 5) ad3 (ld3 ad3 w1.drew fun b2 s2 x2=>(newC w1.drew (zD false nSl 0) 27 fun ad4 w2=>Bar (V1 2) w1.drew w2∧(Bar (V1 5) w1.drew w2∧(newC w2 (zD false nSl 0) 27 fun ad5 w3=>Bar (V1 2) w2 w3∧(Bar (V1 5) w2 w3∧(xD ad4 b1 s1 x1 w3 fun w6=>Bar (V1 5) w3 w6∧(xD ad5 b2 s2 x2 w6 fun w9=>semS pr (Instr.sliceAt 91 af.v (some (vi 1)) none none) w9 fun s3 w10=>J0 ae ad1 ad4 ad5 s3 (s3.n:Int) 0 w10))))))∧(newC w1.drew (zD false nSl 0) 27 fun ad8 w35=>Bar (V1 2) w1.drew w35∧(Bar (V1 5) w1.drew w35∧(newC w35 (zD false nSl 0) 27 fun ad9 w36=>Bar (V1 2) w35 w36∧(Bar (V1 5) w35 w36∧(xD ad9 b1 s1 x1 w36 fun w39=>Bar (V1 5) w36 w39∧(xD ad8 b2 s2 x2 w39 fun w42=>semS pr (Instr.sliceAt 91 af.v (some (vi 1)) none none) w42 fun s20 w43=>J0 ae ad1 ad9 ad8 s20 (s20.n:Int) 0 w43))))))))) (h0:∀ab t4 ac aa t21 t22 t23 w_,J0 ab t4 ac aa t21 t22 t23 w_→br (decide (t23<t22)) (semA pr (Instr.indexAt 91 t21.v (vi t23)) w_ fun ad6 w11=>ld3 ad6 w11 fun b3 s4 x3=>newC w11 (zD false nSl 0) 27 fun ad7 w12=>xD ad7 b3 s4 x3 w12 fun w15=>ld3 ad7 w15 fun b4 s5 x4=>ld3 ac w15 fun b5 s6 x5=>kT 59 #[uD b4 s5 x4,uD b5 s6 x5] w15 fun w16 x6 x7=>(br (decide (x6<0)) (ld3 ad7 w16 fun b6 s7 x8=>xD ac b6 s7 x8 w16 fun w19=>ld3 ad7 w19 fun b7 s8 x9=>ld3 aa w19 fun b8 s9 x10=>kT 59 #[uD b7 s8 x9,uD b8 s9 x10] w19 fun w20 x11 x12=>(br (decide (x11>0)) (ld3 ad7 w20 fun b9 s10 x13=>xD aa b9 s10 x13 w20 fun w23=>J0 ab t4 ac aa t21 t22 (wrap .i64 (t23+1)) w23∧m0 ab t4 ac aa t21 t22 (wrap .i64 (t23+1)) w23<m0 ab t4 ac aa t21 t22 t23 w_) (J0 ab t4 ac aa t21 t22 (wrap .i64 (t23+1)) w20∧m0 ab t4 ac aa t21 t22 (wrap .i64 (t23+1)) w20<m0 ab t4 ac aa t21 t22 t23 w_))) (ld3 ad7 w16 fun b10 s11 x14=>ld3 aa w16 fun b11 s12 x15=>kT 59 #[uD b10 s11 x14,uD b11 s12 x15] w16 fun w24 x16 x17=>(br (decide (x16>0)) (ld3 ad7 w24 fun b12 s13 x18=>xD aa b12 s13 x18 w24 fun w27=>J0 ab t4 ac aa t21 t22 (wrap .i64 (t23+1)) w27∧m0 ab t4 ac aa t21 t22 (wrap .i64 (t23+1)) w27<m0 ab t4 ac aa t21 t22 t23 w_) (J0 ab t4 ac aa t21 t22 (wrap .i64 (t23+1)) w24∧m0 ab t4 ac aa t21 t22 (wrap .i64 (t23+1)) w24<m0 ab t4 ac aa t21 t22 t23 w_))))) (ld3 ac w_ fun b13 s14 x19=>ld3 aa w_ fun b14 s15 x20=>kV 102 #[uD b13 s14 x19,uD b14 s15 x20,vi ab] w_ fun w28 b15 s16 x21 b16 s17 x22 x23=>(xS t4 b15 s16 x21 b16 s17 x22 w28 fun w34=>ld6 t4 w34 fun b17 s18 x24 b18 s19 x25=>R (.returned (.tuple #[uS b17 s18 x24 b18 s19 x25,vi x23])) w34))):Calls pr 65 #[vi ae,af.v] w R:=by
 refine zk (marks [2000001] (Mt J0 m0)) (by kernel_rfl) Tryz.func65 rfl ?_ ?_
 ·refine kcast h ?_;kernel_rfl
 ·exact (za rfl (ze (za rfl (xq _ rfl (by kernel_rfl) (za rfl (za rfl (ze (yg _ rfl (fun a_ w_ ad=>(by
  obtain ⟨aj,ak,ad⟩:=ya ad
  obtain ⟨ab,al,ad⟩:=zq ad
  obtain ⟨t4,am,ad⟩:=yf ad
  obtain ⟨ac,an,ad⟩:=yf ad
  obtain ⟨aa,ao,ad⟩:=yf ad
  obtain ⟨t21,ag,ad⟩:=zr ad
  obtain ⟨t22,ah,ad⟩:=zq ad
  obtain ⟨t23,ai,ad⟩:=zq ad
  obtain ⟨g0,rfl⟩:∃g,a_=Fr 52 [(0,vi ab),(4,vp t4),(6,vp ac),(7,vp aa),(21,t21.v),(22,vi t22),(23,vi t23)] g:=⟨_,yp aj ak _ (zf al (zf am (zf an (zf ao (zf ag (zf ah (zf ai yc)))))))⟩
  clear aj ak al am an ao ag ah ai
  have ap:=ad
  refine ⟨(marks [2000001] (fun _=>none)),kcast (h0 ab t4 ac aa t21 t22 t23 w_ ap) ?_, ?_⟩
  ·kernel_rfl
  ·exact (za rfl (ze (za rfl (zh (zi (ye (za rfl (yh rfl (za rfl (ze (za rfl (za rfl (ze (za rfl (ze (zh (ze (zi (za rfl (ze (za rfl (ze (zh (ze (zi (ze trivial)))))))))))))))))))))))))))) (za rfl (ze (zg trivial)))))))))))
theorem Dj (aa:Bool) (ab:Slc) (ac:Int) (ad:Bool) (ae:Slc) (af:Int) (a1:Int) (a2:Int) (w:World) (R:Ending→World→Prop) (h:newC w (zS aa ab ac ad ae af) 50 fun ad1 w1=>newC w1 (zS false nSl 0 false nSl 0) 50 fun ad2 w2=>ld6 ad1 w2 fun b1 s1 x1 b2 s2 x2=>kI 72 #[uS b1 s1 x1 b2 s2 x2] w2 fun w3 x3=>(br (x3 !=0) (xS ad2 false nSl 0 false nSl 0 w3 fun w9=>ld6 ad2 w9 fun b3 s3 x4 b4 s4 x5=>R (.returned (.tuple #[uS b3 s3 x4 b4 s4 x5,vi x3])) w9) (br (decide (a1<0)) (xS ad2 false nSl 0 false nSl 0 w3 fun w15=>ld6 ad2 w15 fun b5 s5 x6 b6 s6 x7=>R (.returned (.tuple #[uS b5 s5 x6 b6 s6 x7,vi 1])) w15) (br (decide (a1>1000)) (xS ad2 false nSl 0 false nSl 0 w3 fun w21=>ld6 ad2 w21 fun b7 s7 x8 b8 s8 x9=>R (.returned (.tuple #[uS b7 s7 x8 b8 s8 x9,vi 1])) w21) (br (decide (a2<(-1099511627776))) (xS ad2 false nSl 0 false nSl 0 w3 fun w27=>ld6 ad2 w27 fun b9 s9 x10 b10 s10 x11=>R (.returned (.tuple #[uS b9 s9 x10 b10 s10 x11,vi 1])) w27) (br (decide (a2>1099511627776)) (xS ad2 false nSl 0 false nSl 0 w3 fun w33=>ld6 ad2 w33 fun b11 s11 x12 b12 s12 x13=>R (.returned (.tuple #[uS b11 s11 x12 b12 s12 x13,vi 1])) w33) (br ((Int.tmod a1 2)==0) (ld6 ad1 w3 fun b13 s13 x14 b14 s14 x15=>Calls pr 73 #[uS b13 s13 x14 b14 s14 x15] w3 fun e2 w34=>∃b15:Bool,∃s15:Slc,∃x16:Int,∃b16:Bool,∃s16:Slc,∃x17:Int,e2= .returned (uS b15 s15 x16 b16 s16 x17)∧(xS ad1 b15 s15 x16 b16 s16 x17 w34 fun w40=>ld3 ad1 w40 fun b17 s17 x18=>kU 105 #[uD b17 s17 x18,vi a1] w40 fun w41 b18 s18 x19 x20=>(newC w41 (zD false nSl 0) 27 fun ad3 w42=>xD ad3 b18 s18 x19 w42 fun w45=>ld3 (ad1.add 3) w45 fun b19 s19 x21=>kU 105 #[uD b19 s19 x21,vi a1] w45 fun w46 b20 s20 x22 x23=>(newC w46 (zD false nSl 0) 27 fun ad4 w47=>xD ad4 b20 s20 x22 w47 fun w50=>kI 64 #[vi x20,vi x23] w50 fun w51 x24=>(br (x24 !=0) (xS ad2 false nSl 0 false nSl 0 w51 fun w57=>ld6 ad2 w57 fun b21 s21 x25 b22 s22 x26=>R (.returned (.tuple #[uS b21 s21 x25 b22 s22 x26,vi x24])) w57) (ld3 ad3 w51 fun b23 s23 x27=>ld3 ad4 w51 fun b24 s24 x28=>kV 102 #[uD b23 s23 x27,uD b24 s24 x28,vi a2] w51 fun w58 b25 s25 x29 b26 s26 x30 x31=>(xS ad2 b25 s25 x29 b26 s26 x30 w58 fun w64=>ld6 ad2 w64 fun b27 s27 x32 b28 s28 x33=>R (.returned (.tuple #[uS b27 s27 x32 b28 s28 x33,vi x31])) w64))))))) (ld3 ad1 w3 fun b29 s29 x34=>kU 105 #[uD b29 s29 x34,vi a1] w3 fun w65 b30 s30 x35 x36=>(newC w65 (zD false nSl 0) 27 fun ad5 w66=>xD ad5 b30 s30 x35 w66 fun w69=>ld3 (ad1.add 3) w69 fun b31 s31 x37=>kU 105 #[uD b31 s31 x37,vi a1] w69 fun w70 b32 s32 x38 x39=>(newC w70 (zD false nSl 0) 27 fun ad6 w71=>xD ad6 b32 s32 x38 w71 fun w74=>kI 64 #[vi x36,vi x39] w74 fun w75 x40=>(br (x40 !=0) (xS ad2 false nSl 0 false nSl 0 w75 fun w81=>ld6 ad2 w81 fun b33 s33 x41 b34 s34 x42=>R (.returned (.tuple #[uS b33 s33 x41 b34 s34 x42,vi x40])) w81) (ld3 ad5 w75 fun b35 s35 x43=>ld3 ad6 w75 fun b36 s36 x44=>kV 102 #[uD b35 s35 x43,uD b36 s36 x44,vi a2] w75 fun w82 b37 s37 x45 b38 s38 x46 x47=>(xS ad2 b37 s37 x45 b38 s38 x46 w82 fun w88=>ld6 ad2 w88 fun b39 s39 x48 b40 s40 x49=>R (.returned (.tuple #[uS b39 s39 x48 b40 s40 x49,vi x47])) w88))))))))))))):Calls pr 66 #[uS aa ab ac ad ae af,vi a1,vi a2] w R:=by
 refine zk (fun _=>none) (by kernel_rfl) Tryz.func66 rfl ?_ ?_
 ·refine kcast h ?_;kernel_rfl
 ·exact (za rfl (ze (za rfl (za rfl (ze (za rfl (ze (zh (za rfl (ze (zg (zi (za rfl (za rfl (ze (zh (za rfl (ze (zg (zi (za rfl (za rfl (ze (zh (ze (zi (za rfl (ze (za rfl (ze (za rfl (za rfl (ze (za rfl (ze (zh (za rfl (ze (zg (zi (za rfl (ze (zg trivial)))))))))))))))))))))))))))))))))))))))))))
theorem Qh (aa:Bool) (ab:Slc) (ac:Int) (ad:Bool) (ae:Slc) (af:Int) (ag:Int) (w:World) (R:Ending→World→Prop) (h:newC w (zS aa ab ac ad ae af) 50 fun ad1 w1=>newC w1 (zS false nSl 0 false nSl 0) 50 fun ad2 w2=>ld6 ad1 w2 fun b1 s1 x1 b2 s2 x2=>kV 66 #[uS b1 s1 x1 b2 s2 x2,vi 2,vi ag] w2 fun w3 b3 s3 x3 b4 s4 x4 x5=>(xS ad2 b3 s3 x3 b4 s4 x4 w3 fun w9=>ld6 ad2 w9 fun b5 s5 x6 b6 s6 x7=>R (.returned (.tuple #[uS b5 s5 x6 b6 s6 x7,vi x5])) w9)):Calls pr 26 #[uS aa ab ac ad ae af,vi ag] w R:=by
 refine zk (fun _=>none) (by kernel_rfl) Tryz.func26 rfl ?_ ?_
 ·refine kcast h ?_;kernel_rfl
 ·exact (za rfl (ze (za rfl (ze (zg trivial)))))
theorem Ge (aa:Int) (w:World) (R:Ending→World→Prop) (h:newC w (zR false nSl nSl) 67 fun ad1 w1=>Calls pr 83 #[vi aa] w1 fun e1 w2=>∃b1:Bool,∃s1:Slc,e1= .returned (uP b1 s1)∧(kS 84 #[.int .u64 1] w2 fun w3 s2=>(xR ad1 b1 s1 s2 w3 fun w6=>ldr ad1 w6 fun b2 s3 s4=>R (.returned (uR b2 s3 s4)) w6))):Calls pr 38 #[vi aa] w R:=by
 refine zk (fun _=>none) (by kernel_rfl) Tryz.func38 rfl ?_ ?_
 ·refine kcast h ?_;kernel_rfl
 ·exact (za rfl (ze (za rfl (ze (zg trivial)))))
theorem pi (aa:Bool) (ab:Slc) (ac:Int) (ad:Bool) (ae:Slc) (af:Int) (ag:Bool) (ah:Slc) (ai:Int) (aj:Bool) (ak:Slc) (al:Int) (w:World) (R:Ending→World→Prop) (h:newC w (zS aa ab ac ad ae af) 50 fun ad1 w1=>newC w1 (zS ag ah ai aj ak al) 50 fun ad2 w2=>newC w2 (zS false nSl 0 false nSl 0) 50 fun ad3 w3=>ld6 ad1 w3 fun b1 s1 x1 b2 s2 x2=>ld6 ad2 w3 fun b3 s3 x3 b4 s4 x4=>newC w3 #[.bool b1,s1.v,vi x1,.bool b2,s2.v,vi x2,.bool b3,s3.v,vi x3,.bool b4,s4.v,vi x4] 50 fun ad4 w4=>kI 60 #[vi 0,(⟨some ad4,2,2⟩:Slc).v] w4 fun w5 x5=>(br (x5 !=0) (xS ad3 false nSl 0 false nSl 0 w5 fun w11=>ld6 ad3 w11 fun b5 s5 x6 b6 s6 x7=>R (.returned (.tuple #[uS b5 s5 x6 b6 s6 x7,vi x5])) w11) (ld3 ad1 w5 fun b7 s7 x8=>ld3 ad2 w5 fun b8 s8 x9=>kU 70 #[uD b7 s7 x8,uD b8 s8 x9] w5 fun w12 b9 s9 x10 x11=>(newC w12 (zD false nSl 0) 27 fun ad5 w13=>xD ad5 b9 s9 x10 w13 fun w16=>ld3 (ad1.add 3) w16 fun b10 s10 x12=>ld3 (ad2.add 3) w16 fun b11 s11 x13=>kU 70 #[uD b10 s10 x12,uD b11 s11 x13] w16 fun w17 b12 s12 x14 x15=>(newC w17 (zD false nSl 0) 27 fun ad6 w18=>xD ad6 b12 s12 x14 w18 fun w21=>ld3 ad5 w21 fun b13 s13 x16=>ld3 ad6 w21 fun b14 s14 x17=>kV 78 #[uD b13 s13 x16,vi x11,uD b14 s14 x17,vi x15] w21 fun w22 b15 s15 x18 b16 s16 x19 x20=>(xS ad3 b15 s15 x18 b16 s16 x19 w22 fun w28=>ld6 ad3 w28 fun b17 s17 x21 b18 s18 x22=>R (.returned (.tuple #[uS b17 s17 x21 b18 s18 x22,vi x20])) w28)))))):Calls pr 69 #[uS aa ab ac ad ae af,uS ag ah ai aj ak al,.func (Fn.func 70) #[] #[],.func (Fn.func 70) #[] #[]] w R:=by
 refine zk (fun _=>none) (by kernel_rfl) Tryz.func69 rfl ?_ ?_
 ·refine kcast h ?_;kernel_rfl
 ·exact (za rfl (ze (za rfl (za rfl (ze (za rfl (ze (zh (za rfl (ze (zg (zi (za rfl (ze (za rfl (ze (za rfl (ze (zg trivial)))))))))))))))))))
theorem ph (aa:Bool) (ab:Slc) (ac:Int) (ad:Bool) (ae:Slc) (af:Int) (ag:Bool) (ah:Slc) (ai:Int) (aj:Bool) (ak:Slc) (al:Int) (w:World) (R:Ending→World→Prop) (h:newC w (zS aa ab ac ad ae af) 50 fun ad1 w1=>newC w1 (zS ag ah ai aj ak al) 50 fun ad2 w2=>newC w2 (zS false nSl 0 false nSl 0) 50 fun ad3 w3=>ld6 ad1 w3 fun b1 s1 x1 b2 s2 x2=>ld6 ad2 w3 fun b3 s3 x3 b4 s4 x4=>newC w3 #[.bool b1,s1.v,vi x1,.bool b2,s2.v,vi x2,.bool b3,s3.v,vi x3,.bool b4,s4.v,vi x4] 50 fun ad4 w4=>kI 60 #[vi 0,(⟨some ad4,2,2⟩:Slc).v] w4 fun w5 x5=>(br (x5 !=0) (xS ad3 false nSl 0 false nSl 0 w5 fun w11=>ld6 ad3 w11 fun b5 s5 x6 b6 s6 x7=>R (.returned (.tuple #[uS b5 s5 x6 b6 s6 x7,vi x5])) w11) (ld3 ad1 w5 fun b7 s7 x8=>ld3 ad2 w5 fun b8 s8 x9=>kU 71 #[uD b7 s7 x8,uD b8 s8 x9] w5 fun w12 b9 s9 x10 x11=>(newC w12 (zD false nSl 0) 27 fun ad5 w13=>xD ad5 b9 s9 x10 w13 fun w16=>ld3 (ad1.add 3) w16 fun b10 s10 x12=>ld3 (ad2.add 3) w16 fun b11 s11 x13=>kU 71 #[uD b10 s10 x12,uD b11 s11 x13] w16 fun w17 b12 s12 x14 x15=>(newC w17 (zD false nSl 0) 27 fun ad6 w18=>xD ad6 b12 s12 x14 w18 fun w21=>ld3 ad5 w21 fun b13 s13 x16=>ld3 ad6 w21 fun b14 s14 x17=>kV 78 #[uD b13 s13 x16,vi x11,uD b14 s14 x17,vi x15] w21 fun w22 b15 s15 x18 b16 s16 x19 x20=>(xS ad3 b15 s15 x18 b16 s16 x19 w22 fun w28=>ld6 ad3 w28 fun b17 s17 x21 b18 s18 x22=>R (.returned (.tuple #[uS b17 s17 x21 b18 s18 x22,vi x20])) w28)))))):Calls pr 69 #[uS aa ab ac ad ae af,uS ag ah ai aj ak al,.func (Fn.func 71) #[] #[],.func (Fn.func 71) #[] #[]] w R:=by
 refine zk (fun _=>none) (by kernel_rfl) Tryz.func69 rfl ?_ ?_
 ·refine kcast h ?_;kernel_rfl
 ·exact (za rfl (ze (za rfl (za rfl (ze (za rfl (ze (zh (za rfl (ze (zg (zi (za rfl (ze (za rfl (ze (za rfl (ze (zg trivial)))))))))))))))))))
end
end Go.Proofs.YtbeiopoejdkheaaGreatDoor
