/- What the law leans on, part 6. No condition. -/
import Derived.Test.YtbeiopoejdkheaaGreatDoorZWholeSpans5
set_option linter.unusedVariables false
set_option linter.unusedSimpArgs false
set_option maxRecDepth 100000
set_option maxHeartbeats 4000000
namespace Go.Proofs.YtbeiopoejdkheaaGreatDoor
section
open Go Go.RowKit Eng L2
theorem gz (aB:Bool) (ay:Slc) (aC:Int) (aD:Bool) (az:Slc) (aE:Int) (aF:Bool) (aA:Slc) (aG:Int) (aH:Bool) (au:Slc) (av:Int) (aw:Int) (ax:Int) (a1:Int) (w:World) (R:Ending→World→Prop) (K5:Int→Bool→Slc→Int→Bool→Slc→Int→Bool→Slc→Int→Bool→Slc→Int→Int→Int→Bool→Slc→Int→Bool→Slc→Int→Bool→Slc→Int→Bool→Slc→Int→World→Prop) (K6:Int→Bool→Slc→Int→Bool→Slc→Int→Bool→Slc→Int→Bool→Slc→Int→Bool→Slc→Slc→Bool→Slc→Slc→World→Prop) (K13:Int→Bool→Slc→Int→Bool→Slc→Int→Bool→Slc→Int→Bool→Slc→Int→Bool→Slc→Slc→Bool→Slc→Slc→Bool→Slc→Slc→Bool→Slc→Slc→World→Prop) (K15:Int→Bool→Slc→Int→Bool→Slc→Int→Bool→Slc→Int→Bool→Slc→Int→Bool→Slc→Slc→Bool→Slc→Slc→Bool→Slc→Slc→Bool→Slc→Slc→World→Prop) (h:xw w w fun w1=>(newC w1 #[ay.v,az.v,aA.v,au.v] 22 fun ad1 w2=>kB 5 #[vi 4096,(⟨some ad1,4,4⟩:Slc).v] w2 fun w3 b1=>Ahead w2 w3∧(br (!b1) (kB 6 #[] w3 fun w4 b2=>Ahead w3 w4∧(R (.returned (.bool b2)) w4)) (xw w w3 fun w5=>(Calls pr 21 #[uS aB ay aC aD az aE] w5 fun e3 w6=>∃b3:Bool,∃s1:Slc,∃x1:Int,∃b4:Bool,∃s2:Slc,∃x2:Int,e3= .returned (uS b3 s1 x1 b4 s2 x2)∧Ahead w5 w6∧(xw w w6 fun w7=>(Calls pr 21 #[uS aF aA aG aH au av] w7 fun e4 w8=>∃b5:Bool,∃s3:Slc,∃x3:Int,∃b6:Bool,∃s4:Slc,∃x4:Int,e4= .returned (uS b5 s3 x3 b6 s4 x4)∧Ahead w7 w8∧(xw w w8 fun w9=>(kI 8 #[vi a1,vi (-150),vi 50] w9 fun w10 x5=>Ahead w9 w10∧(xw w w10 fun w96=>(K5 x5 aB ay aC aD az aE aF aA aG aH au av aw ax b3 s1 x1 b4 s2 x2 b5 s3 x3 b6 s4 x4 w96))))))))))) (bp:∀t1 aZ ba bb bc bd be bf bg bh bi aX aY aV aW aa ab ac ad ae af ag ah ai aj ak al w_,Ahead w w_→K5 t1 aZ ba bb bc bd be bf bg bh bi aX aY aV aW aa ab ac ad ae af ag ah ai aj ak al w_→xw w w_ fun w11=>(kR 22 #[uS aa ab ac ad ae af,vi aV] w11 fun w12 b7 s5 s6=>Ahead w11 w12∧(xw w w12 fun w13=>(kR 22 #[uS ag ah ai aj ak al,vi aW] w13 fun w14 b8 s7 s8=>Ahead w13 w14∧(xw w w14 fun w56=>(K6 t1 aa ab ac ad ae af ag ah ai aj ak al b7 s5 s6 b8 s7 s8 w56)))))) (bq:∀t1 aa ab ac ad ae af ag ah ai aj ak al am an ao ap aq ar w_,Ahead w w_→K6 t1 aa ab ac ad ae af ag ah ai aj ak al am an ao ap aq ar w_→kV 23 #[uS aa ab ac ad ae af,uS ag ah ai aj ak al,vi t1] w_ fun w15 b9 s9 x6 b10 s10 x7 x8=>Ahead w_ w15∧(xw w w15 fun w16=>(kV 24 #[uS aa ab ac ad ae af,uS ag ah ai aj ak al,vi t1] w16 fun w17 b11 s11 x9 b12 s12 x10 x11=>Ahead w16 w17∧(xw w w17 fun w18=>(kV 25 #[uS aa ab ac ad ae af,uS ag ah ai aj ak al,vi t1] w18 fun w19 b13 s13 x12 b14 s14 x13 x14=>Ahead w18 w19∧(xw w w19 fun w20=>(kV 26 #[uS aa ab ac ad ae af,vi t1] w20 fun w21 b15 s15 x15 b16 s16 x16 x17=>Ahead w20 w21∧(xw w w21 fun w22=>(kR 28 #[uR am an ao,uR ap aq ar] w22 fun w23 b17 s17 s18=>Ahead w22 w23∧(kB 27 #[uS b9 s9 x6 b10 s10 x7,vi x8,uR b17 s17 s18] w23 fun w24 b18=>Ahead w23 w24∧(br (!b18) (R (.returned (.bool false)) w24) (kR 20 #[uR am an ao,uR ap aq ar] w24 fun w25 b19 s19 s20=>Ahead w24 w25∧(kB 27 #[uS b11 s11 x9 b12 s12 x10,vi x11,uR b19 s19 s20] w25 fun w26 b20=>Ahead w25 w26∧(br (!b20) (R (.returned (.bool false)) w26) (kR 19 #[uR am an ao,uR ap aq ar] w26 fun w27 b21 s21 s22=>Ahead w26 w27∧(kB 27 #[uS b13 s13 x12 b14 s14 x13,vi x14,uR b21 s21 s22] w27 fun w28 b22=>Ahead w27 w28∧(br (!b22) (R (.returned (.bool false)) w28) (kR 19 #[uR am an ao,uR am an ao] w28 fun w29 b23 s23 s24=>Ahead w28 w29∧(kB 27 #[uS b15 s15 x15 b16 s16 x16,vi x17,uR b23 s23 s24] w29 fun w30 b24=>Ahead w29 w30∧(br (!b24) (R (.returned (.bool false)) w30) (xw w w30 fun w54=>(K13 t1 aa ab ac ad ae af ag ah ai aj ak al am an ao ap aq ar am an ao ap aq ar w54)))))))))))))))))))))) (bs:∀t1 aa ab ac ad ae af ag ah ai aj ak al am an ao ap aq ar aL aM aN aO aP aQ w_,Ahead w w_→K13 t1 aa ab ac ad ae af ag ah ai aj ak al am an ao ap aq ar aL aM aN aO aP aQ w_→kI 18 #[uR am an ao,uR ap aq ar] w_ fun w31 x18=>Ahead w_ w31∧(br (decide (x18>0)) (xw w w31 fun w53=>(K15 t1 aa ab ac ad ae af ag ah ai aj ak al am an ao ap aq ar ap aq ar am an ao w53)) (K15 t1 aa ab ac ad ae af ag ah ai aj ak al am an ao ap aq ar aL aM aN aO aP aQ w31))) (bt:∀t1 aa ab ac ad ae af ag ah ai aj ak al am an ao ap aq ar aL aM aN aO aP aQ w_,Ahead w w_→K15 t1 aa ab ac ad ae af ag ah ai aj ak al am an ao ap aq ar aL aM aN aO aP aQ w_→kV 29 #[uS aa ab ac ad ae af,uS ag ah ai aj ak al] w_ fun w32 b25 s25 x19 b26 s26 x20 x21=>Ahead w_ w32∧(xw w w32 fun w33=>(kV 30 #[uS aa ab ac ad ae af,uS ag ah ai aj ak al] w33 fun w34 b27 s27 x22 b28 s28 x23 x24=>Ahead w33 w34∧(xw w w34 fun w35=>(kV 31 #[uS aa ab ac ad ae af] w35 fun w36 b29 s29 x25 b30 s30 x26 x27=>Ahead w35 w36∧(xw w w36 fun w37=>(kB 27 #[uS b25 s25 x19 b26 s26 x20,vi x21,uR aL aM aN] w37 fun w38 b31=>Ahead w37 w38∧(br (!b31) (R (.returned (.bool false)) w38) (kB 27 #[uS b27 s27 x22 b28 s28 x23,vi x24,uR aO aP aQ] w38 fun w39 b32=>Ahead w38 w39∧(br (!b32) (R (.returned (.bool false)) w39) (kR 17 #[uR am an ao] w39 fun w40 b33 s31 s32=>Ahead w39 w40∧(kB 27 #[uS b29 s29 x25 b30 s30 x26,vi x27,uR b33 s31 s32] w40 fun w41 b34=>Ahead w40 w41∧(br (!b34) (R (.returned (.bool false)) w41) (kV 32 #[uS aa ab ac ad ae af,uS ag ah ai aj ak al,vi t1] w41 fun w42 b35 s33 x28 b36 s34 x29 x30=>Ahead w41 w42∧(br (x30==101) (xw w w42 fun w43=>(kR 9 #[uD ag ah ai] w43 fun w44 b37 s35 s36=>Ahead w43 w44∧(kI 10 #[uR b37 s35 s36] w44 fun w45 x31=>Ahead w44 w45∧(br (decide (x31≤0)) (kR 9 #[uD aj ak al] w45 fun w46 b38 s37 s38=>Ahead w45 w46∧(kI 10 #[uR b38 s37 s38] w46 fun w47 x32=>Ahead w46 w47∧(br (decide (x32≥0)) (kB 6 #[] w47 fun w48 b39=>Ahead w47 w48∧(R (.returned (.bool b39)) w48)) (R (.returned (.bool false)) w47)))) (R (.returned (.bool false)) w45))))) (xw w w42 fun w49=>(kR 12 #[uR am an ao,uR ap aq ar] w49 fun w50 b40 s39 s40=>Ahead w49 w50∧(kB 27 #[uS b35 s33 x28 b36 s34 x29,vi x30,uR b40 s39 s40] w50 fun w51 b41=>Ahead w50 w51∧(br b41 (kB 6 #[] w51 fun w52 b42=>Ahead w51 w52∧(R (.returned (.bool b42)) w52)) (R (.returned (.bool false)) w51)))))))))))))))))))):Calls pr 4 #[.agg #[.bool aB,ay.v,vi aC,.bool aD,az.v,vi aE,.bool aF,aA.v,vi aG,.bool aH,au.v,vi av,vi aw,vi ax],vi a1] w (fun e_ w_=>Ahead w w_∧R e_ w_):=by
  refine fb aB ay aC aD az aE aF aA aG aH au av aw ax a1 w _ (fun t1 t2 t5 t6 w_=>∃bj:Nat,∃aI:Nat,∃aJ:Nat,∃aZ:Bool,∃ba:Slc,∃bb:Int,∃bc:Bool,∃bd:Slc,∃be:Int,∃bf:Bool,∃bg:Slc,∃bh:Int,∃bi:Bool,∃aX:Slc,∃aY:Int,∃aV:Int,∃aW:Int,∃aa:Bool,∃ab:Slc,∃ac:Int,∃ad:Bool,∃ae:Slc,∃af:Int,∃ag:Bool,∃ah:Slc,∃ai:Int,∃aj:Bool,∃ak:Slc,∃al:Int,t2=⟨bj,0,none⟩∧Blt w_ bj 52 #[Value.bool aZ,ba.v,vi bb,Value.bool bc,bd.v,vi be,Value.bool bf,bg.v,vi bh,Value.bool bi,aX.v,vi aY,vi aV,vi aW]∧w.heap.size≤bj∧t5=⟨aI,0,none⟩∧Blt w_ aI 50 #[Value.bool aa,ab.v,vi ac,Value.bool ad,ae.v,vi af]∧w.heap.size≤aI∧t6=⟨aJ,0,none⟩∧Blt w_ aJ 50 #[Value.bool ag,ah.v,vi ai,Value.bool aj,ak.v,vi al]∧w.heap.size≤aJ∧bj≠aI∧bj≠aJ∧aI≠aJ∧Ahead w w_∧K5 t1 aZ ba bb bc bd be bf bg bh bi aX aY aV aW aa ab ac ad ae af ag ah ai aj ak al w_) (fun t1 t5 t6 t7 t8 w_=>∃aI:Nat,∃aJ:Nat,∃aR:Nat,∃aS:Nat,∃aa:Bool,∃ab:Slc,∃ac:Int,∃ad:Bool,∃ae:Slc,∃af:Int,∃ag:Bool,∃ah:Slc,∃ai:Int,∃aj:Bool,∃ak:Slc,∃al:Int,∃am:Bool,∃an:Slc,∃ao:Slc,∃ap:Bool,∃aq:Slc,∃ar:Slc,t5=⟨aI,0,none⟩∧Blt w_ aI 50 #[Value.bool aa,ab.v,vi ac,Value.bool ad,ae.v,vi af]∧w.heap.size≤aI∧t6=⟨aJ,0,none⟩∧Blt w_ aJ 50 #[Value.bool ag,ah.v,vi ai,Value.bool aj,ak.v,vi al]∧w.heap.size≤aJ∧t7=⟨aR,0,none⟩∧Blt w_ aR 34 #[Value.bool am,an.v,ao.v]∧w.heap.size≤aR∧t8=⟨aS,0,none⟩∧Blt w_ aS 34 #[Value.bool ap,aq.v,ar.v]∧w.heap.size≤aS∧aI≠aJ∧aI≠aR∧aI≠aS∧aJ≠aR∧aJ≠aS∧aR≠aS∧Ahead w w_∧K6 t1 aa ab ac ad ae af ag ah ai aj ak al am an ao ap aq ar w_) (fun t1 t5 t6 t7 t8 t17 t18 w_=>∃aI:Nat,∃aJ:Nat,∃aR:Nat,∃aS:Nat,∃aT:Nat,∃aU:Nat,∃aa:Bool,∃ab:Slc,∃ac:Int,∃ad:Bool,∃ae:Slc,∃af:Int,∃ag:Bool,∃ah:Slc,∃ai:Int,∃aj:Bool,∃ak:Slc,∃al:Int,∃am:Bool,∃an:Slc,∃ao:Slc,∃ap:Bool,∃aq:Slc,∃ar:Slc,∃aL:Bool,∃aM:Slc,∃aN:Slc,∃aO:Bool,∃aP:Slc,∃aQ:Slc,t5=⟨aI,0,none⟩∧Blt w_ aI 50 #[Value.bool aa,ab.v,vi ac,Value.bool ad,ae.v,vi af]∧w.heap.size≤aI∧t6=⟨aJ,0,none⟩∧Blt w_ aJ 50 #[Value.bool ag,ah.v,vi ai,Value.bool aj,ak.v,vi al]∧w.heap.size≤aJ∧t7=⟨aR,0,none⟩∧Blt w_ aR 34 #[Value.bool am,an.v,ao.v]∧w.heap.size≤aR∧t8=⟨aS,0,none⟩∧Blt w_ aS 34 #[Value.bool ap,aq.v,ar.v]∧w.heap.size≤aS∧t17=⟨aT,0,none⟩∧Blt w_ aT 34 #[Value.bool aL,aM.v,aN.v]∧w.heap.size≤aT∧t18=⟨aU,0,none⟩∧Blt w_ aU 34 #[Value.bool aO,aP.v,aQ.v]∧w.heap.size≤aU∧aI≠aJ∧aI≠aR∧aI≠aS∧aI≠aT∧aI≠aU∧aJ≠aR∧aJ≠aS∧aJ≠aT∧aJ≠aU∧aR≠aS∧aR≠aT∧aR≠aU∧aS≠aT∧aS≠aU∧aT≠aU∧Ahead w w_∧K13 t1 aa ab ac ad ae af ag ah ai aj ak al am an ao ap aq ar aL aM aN aO aP aQ w_) (fun t1 t5 t6 t7 t8 t17 t18 w_=>∃aI:Nat,∃aJ:Nat,∃aR:Nat,∃aS:Nat,∃aT:Nat,∃aU:Nat,∃aa:Bool,∃ab:Slc,∃ac:Int,∃ad:Bool,∃ae:Slc,∃af:Int,∃ag:Bool,∃ah:Slc,∃ai:Int,∃aj:Bool,∃ak:Slc,∃al:Int,∃am:Bool,∃an:Slc,∃ao:Slc,∃ap:Bool,∃aq:Slc,∃ar:Slc,∃aL:Bool,∃aM:Slc,∃aN:Slc,∃aO:Bool,∃aP:Slc,∃aQ:Slc,t5=⟨aI,0,none⟩∧Blt w_ aI 50 #[Value.bool aa,ab.v,vi ac,Value.bool ad,ae.v,vi af]∧w.heap.size≤aI∧t6=⟨aJ,0,none⟩∧Blt w_ aJ 50 #[Value.bool ag,ah.v,vi ai,Value.bool aj,ak.v,vi al]∧w.heap.size≤aJ∧t7=⟨aR,0,none⟩∧Blt w_ aR 34 #[Value.bool am,an.v,ao.v]∧w.heap.size≤aR∧t8=⟨aS,0,none⟩∧Blt w_ aS 34 #[Value.bool ap,aq.v,ar.v]∧w.heap.size≤aS∧t17=⟨aT,0,none⟩∧Blt w_ aT 34 #[Value.bool aL,aM.v,aN.v]∧w.heap.size≤aT∧t18=⟨aU,0,none⟩∧Blt w_ aU 34 #[Value.bool aO,aP.v,aQ.v]∧w.heap.size≤aU∧aI≠aJ∧aI≠aR∧aI≠aS∧aI≠aT∧aI≠aU∧aJ≠aR∧aJ≠aS∧aJ≠aT∧aJ≠aU∧aR≠aS∧aR≠aT∧aR≠aU∧aS≠aT∧aS≠aU∧aT≠aU∧Ahead w w_∧K15 t1 aa ab ac ad ae af ag ah ai aj ak al am an ao ap aq ar aL aM aN aO aP aQ w_) ?_ ?_ ?_ ?_ ?_
  · have A:Ahead w w:=Ahead.refl w
    have X:Ext w w:=Ext.refl w
    refine zn fun bk1 u1 hb a _ B1=> ?_;have g1:=zj A.size hb;obtain ⟨A,X⟩:=axa2 a A X;refine ym 1 B1 rfl ?_;refine ym 4 B1 rfl ?_;refine ym 7 B1 rfl ?_;refine ym 10 B1 rfl ?_;replace h:=h _ X A;refine tb h fun ad1 w2 a h_=> ?_;replace h:=h_;clear h_;replace B1:=B1.ahead a;obtain ⟨A,X⟩:=axr2 a A;refine Calls.mono h ?_;clear h;rintro e1 w3 ⟨b1,he_,a,h⟩;refine ⟨b1,he_, ?_⟩;clear he_;replace B1:=B1.ahead a;obtain ⟨A,X⟩:=axr2 a A;refine zv h (fun h_=> ?_) (fun h_=> ?_)
    ·replace h:=h_;clear h_;refine Calls.mono h ?_;clear h;rintro e2 w4 ⟨b2,he_,a,h⟩;refine ⟨b2,he_, ?_⟩;clear he_;replace B1:=B1.ahead a;obtain ⟨A,X⟩:=axr2 a A;exact ⟨A,h⟩
    ·replace h:=h_;clear h_;have aK:=Sp.Ahead.drew w3;replace B1:=B1.ahead aK;obtain ⟨A,X⟩:=axa2 aK A X;clear aK;have z1:=B1.lt;let V_:Nat→Nat→Prop:=fun (q_ k:Nat)=>(k<0∨w3.drew.heap.size≤k)∧0≤k;refine ⟨V_, ?_⟩;have Y_:w3.drew.heap.size≤w3.drew.heap.size:=Nat.le_refl _;refine xp (b:=bk1) (i:=0) (by first|rfl|exact Sp.zz) (fun hv_=>(by replace hv_:_∧_:=hv_;omega)) ?_;refine yt 0 B1 rfl ?_;refine ym 1 B1 rfl ?_;refine xg 2 B1 rfl ?_;refine yt 3 B1 rfl ?_;refine ym 4 B1 rfl ?_;refine xg 5 B1 rfl ?_;refine xp (b:=bk1) (i:=6) (by first|rfl|exact Sp.zz) (fun hv_=>(by replace hv_:_∧_:=hv_;omega)) ?_;refine yt 6 B1 rfl ?_;refine ym 7 B1 rfl ?_;refine xg 8 B1 rfl ?_;refine yt 9 B1 rfl ?_;refine ym 10 B1 rfl ?_;refine xg 11 B1 rfl ?_;refine ⟨?_, ?_⟩
     ·replace h:=h _ X A;refine Calls.mono h ?_;clear h;rintro e3 w6 ⟨b3,s1,x1,b4,s2,x2,he_,a,h⟩;refine ⟨b3,s1,x1,b4,s2,x2,he_, ?_⟩;clear he_;replace B1:=B1.ahead a;obtain ⟨A,X,Y_⟩:=axr3 a A Y_;refine ⟨(Bar.of_ahead a), ?_⟩;refine ⟨?_, ?_⟩
      ·replace h:=h _ X A;refine Calls.mono h ?_;clear h;rintro e4 w8 ⟨b5,s3,x3,b6,s4,x4,he_,a,h⟩;refine ⟨b5,s3,x3,b6,s4,x4,he_, ?_⟩;clear he_;replace B1:=B1.ahead a;obtain ⟨A,X,Y_⟩:=axr3 a A Y_;refine ⟨?_, ?_⟩
       ·replace h:=h _ X A;refine Calls.mono h ?_;clear h;rintro e5 w10 ⟨x5,he_,a,h⟩;refine ⟨x5,he_, ?_⟩;clear he_;replace B1:=B1.ahead a;obtain ⟨A,X,Y_⟩:=axr3 a A Y_;refine ⟨?_, ?_⟩
        ·refine zn fun bk2 u2 hb a _ B2=> ?_;have g2:=zj A.size hb;have l1_2:=lt1 hb B1;have y2:=zj Y_ hb;replace B1:=B1.ahead a;obtain ⟨A,X,Y_⟩:=axa3 a A X Y_;refine bb2 a ?_;refine zn fun bk3 u3 hb a _ B3=> ?_;have g3:=zj A.size hb;obtain ⟨_,_⟩:=lt2 hb B1 B2;have y3:=zj Y_ hb;obtain ⟨B1,B2⟩:=ah2 a B1 B2;obtain ⟨A,X,Y_⟩:=axa3 a A X Y_;refine bb2 a ?_;refine s6_t B2 fun u4 k B2=> ?_;obtain ⟨B1,B3⟩:=up2 k B1 B3;obtain ⟨A,X,Y_⟩:=axu3 k g2 A X Y_;refine s6_t B3 fun u5 k B3=> ?_;obtain ⟨B1,B2⟩:=up2 k B1 B2;obtain ⟨A,X,Y_⟩:=axu3 k g3 A X Y_;replace h:=h _ X A;exact ⟨bk1,bk2,bk3,aB,ay,aC,aD,az,aE,aF,aA,aG,aH,au,av,aw,ax,b3,s1,x1,b4,s2,x2,b5,s3,x3,b6,s4,x4,rfl,B1,g1,rfl,B2,g2,rfl,B3,g3,(by omega),(by omega),(by omega),A,h⟩
        ·refine zn fun bk34 u74 hb a _ B34=> ?_;have g34:=zj A.size hb;have l1_34:=lt1 hb B1;have y34:=zj Y_ hb;replace B1:=B1.ahead a;obtain ⟨A,X,Y_⟩:=axa3 a A X Y_;refine bb2 a ?_;refine zn fun bk35 u75 hb a _ B35=> ?_;have g35:=zj A.size hb;obtain ⟨_,_⟩:=lt2 hb B1 B34;have y35:=zj Y_ hb;obtain ⟨B1,B34⟩:=ah2 a B1 B34;obtain ⟨A,X,Y_⟩:=axa3 a A X Y_;refine bb2 a ?_;refine s6_t B35 fun u76 k B35=> ?_;obtain ⟨B1,B34⟩:=up2 k B1 B34;obtain ⟨A,X,Y_⟩:=axu3 k g35 A X Y_;refine s6_t B34 fun u77 k B34=> ?_;obtain ⟨B1,B35⟩:=up2 k B1 B35;obtain ⟨A,X,Y_⟩:=axu3 k g34 A X Y_;replace h:=h _ X A;exact ⟨bk1,bk35,bk34,aB,ay,aC,aD,az,aE,aF,aA,aG,aH,au,av,aw,ax,b3,s1,x1,b4,s2,x2,b5,s3,x3,b6,s4,x4,rfl,B1,g1,rfl,B35,g35,rfl,B34,g34,(by omega),(by omega),(by omega),A,h⟩
       ·refine ⟨?_, ?_⟩
        ·refine zn fun bk36 u78 hb a _ B36=> ?_;have g36:=zj A.size hb;have l1_36:=lt1 hb B1;have y36:=zj Y_ hb;replace B1:=B1.ahead a;obtain ⟨A,X,Y_⟩:=axa3 a A X Y_;refine bb2 a ?_;refine ⟨?_, ?_⟩
         ·replace h:=h _ X A;refine Calls.mono h ?_;clear h;rintro e51 w99 ⟨x33,he_,a,h⟩;refine ⟨x33,he_, ?_⟩;clear he_;obtain ⟨B1,B36⟩:=ah2 a B1 B36;obtain ⟨A,X,Y_⟩:=axr3 a A Y_;refine zn fun bk37 u79 hb a _ B37=> ?_;have g37:=zj A.size hb;obtain ⟨_,_⟩:=lt2 hb B1 B36;have y37:=zj Y_ hb;obtain ⟨B1,B36⟩:=ah2 a B1 B36;obtain ⟨A,X,Y_⟩:=axa3 a A X Y_;refine bb2 a ?_;refine s6_t B36 fun u80 k B36=> ?_;obtain ⟨B1,B37⟩:=up2 k B1 B37;obtain ⟨A,X,Y_⟩:=axu3 k g36 A X Y_;refine s6_t B37 fun u81 k B37=> ?_;obtain ⟨B1,B36⟩:=up2 k B1 B36;obtain ⟨A,X,Y_⟩:=axu3 k g37 A X Y_;replace h:=h _ X A;exact ⟨bk1,bk36,bk37,aB,ay,aC,aD,az,aE,aF,aA,aG,aH,au,av,aw,ax,b3,s1,x1,b4,s2,x2,b5,s3,x3,b6,s4,x4,rfl,B1,g1,rfl,B36,g36,rfl,B37,g37,(by omega),(by omega),(by omega),A,h⟩
         ·refine zn fun bk38 u82 hb a _ B38=> ?_;have g38:=zj A.size hb;obtain ⟨_,_⟩:=lt2 hb B1 B36;have y38:=zj Y_ hb;obtain ⟨B1,B36⟩:=ah2 a B1 B36;obtain ⟨A,X,Y_⟩:=axa3 a A X Y_;refine bb2 a ?_;replace h:=h _ X A;refine Calls.mono h ?_;clear h;rintro e52 w102 ⟨x34,he_,a,h⟩;refine ⟨x34,he_, ?_⟩;clear he_;obtain ⟨B1,B36,B38⟩:=ah3 a B1 B36 B38;obtain ⟨A,X,Y_⟩:=axr3 a A Y_;refine s6_t B36 fun u83 k B36=> ?_;obtain ⟨B1,B38⟩:=up2 k B1 B38;obtain ⟨A,X,Y_⟩:=axu3 k g36 A X Y_;refine s6_t B38 fun u84 k B38=> ?_;obtain ⟨B1,B36⟩:=up2 k B1 B36;obtain ⟨A,X,Y_⟩:=axu3 k g38 A X Y_;replace h:=h _ X A;exact ⟨bk1,bk36,bk38,aB,ay,aC,aD,az,aE,aF,aA,aG,aH,au,av,aw,ax,b3,s1,x1,b4,s2,x2,b5,s3,x3,b6,s4,x4,rfl,B1,g1,rfl,B36,g36,rfl,B38,g38,(by omega),(by omega),(by omega),A,h⟩
        ·refine zn fun bk39 u85 hb a _ B39=> ?_;have g39:=zj A.size hb;have l1_39:=lt1 hb B1;have y39:=zj Y_ hb;replace B1:=B1.ahead a;obtain ⟨A,X,Y_⟩:=axa3 a A X Y_;refine bb2 a ?_;refine ⟨?_, ?_⟩
         ·replace h:=h _ X A;refine Calls.mono h ?_;clear h;rintro e53 w105 ⟨x35,he_,a,h⟩;refine ⟨x35,he_, ?_⟩;clear he_;obtain ⟨B1,B39⟩:=ah2 a B1 B39;obtain ⟨A,X,Y_⟩:=axr3 a A Y_;refine zn fun bk40 u86 hb a _ B40=> ?_;have g40:=zj A.size hb;obtain ⟨_,_⟩:=lt2 hb B1 B39;have y40:=zj Y_ hb;obtain ⟨B1,B39⟩:=ah2 a B1 B39;obtain ⟨A,X,Y_⟩:=axa3 a A X Y_;refine bb2 a ?_;refine s6_t B40 fun u87 k B40=> ?_;obtain ⟨B1,B39⟩:=up2 k B1 B39;obtain ⟨A,X,Y_⟩:=axu3 k g40 A X Y_;refine s6_t B39 fun u88 k B39=> ?_;obtain ⟨B1,B40⟩:=up2 k B1 B40;obtain ⟨A,X,Y_⟩:=axu3 k g39 A X Y_;replace h:=h _ X A;exact ⟨bk1,bk40,bk39,aB,ay,aC,aD,az,aE,aF,aA,aG,aH,au,av,aw,ax,b3,s1,x1,b4,s2,x2,b5,s3,x3,b6,s4,x4,rfl,B1,g1,rfl,B40,g40,rfl,B39,g39,(by omega),(by omega),(by omega),A,h⟩
         ·refine zn fun bk41 u89 hb a _ B41=> ?_;have g41:=zj A.size hb;obtain ⟨_,_⟩:=lt2 hb B1 B39;have y41:=zj Y_ hb;obtain ⟨B1,B39⟩:=ah2 a B1 B39;obtain ⟨A,X,Y_⟩:=axa3 a A X Y_;refine bb2 a ?_;replace h:=h _ X A;refine Calls.mono h ?_;clear h;rintro e54 w108 ⟨x36,he_,a,h⟩;refine ⟨x36,he_, ?_⟩;clear he_;obtain ⟨B1,B39,B41⟩:=ah3 a B1 B39 B41;obtain ⟨A,X,Y_⟩:=axr3 a A Y_;refine s6_t B41 fun u90 k B41=> ?_;obtain ⟨B1,B39⟩:=up2 k B1 B39;obtain ⟨A,X,Y_⟩:=axu3 k g41 A X Y_;refine s6_t B39 fun u91 k B39=> ?_;obtain ⟨B1,B41⟩:=up2 k B1 B41;obtain ⟨A,X,Y_⟩:=axu3 k g39 A X Y_;replace h:=h _ X A;exact ⟨bk1,bk41,bk39,aB,ay,aC,aD,az,aE,aF,aA,aG,aH,au,av,aw,ax,b3,s1,x1,b4,s2,x2,b5,s3,x3,b6,s4,x4,rfl,B1,g1,rfl,B41,g41,rfl,B39,g39,(by omega),(by omega),(by omega),A,h⟩
      ·refine ⟨?_, ?_⟩
       ·refine zn fun bk42 u92 hb a _ B42=> ?_;have g42:=zj A.size hb;have l1_42:=lt1 hb B1;have y42:=zj Y_ hb;replace B1:=B1.ahead a;obtain ⟨A,X,Y_⟩:=axa3 a A X Y_;refine bb2 a ?_;refine ⟨?_, ?_⟩
        ·replace h:=h _ X A;refine Calls.mono h ?_;clear h;rintro e55 w111 ⟨b57,s69,x37,b58,s70,x38,he_,a,h⟩;refine ⟨b57,s69,x37,b58,s70,x38,he_, ?_⟩;clear he_;obtain ⟨B1,B42⟩:=ah2 a B1 B42;obtain ⟨A,X,Y_⟩:=axr3 a A Y_;refine ⟨?_, ?_⟩
         ·replace h:=h _ X A;refine Calls.mono h ?_;clear h;rintro e56 w113 ⟨x39,he_,a,h⟩;refine ⟨x39,he_, ?_⟩;clear he_;obtain ⟨B1,B42⟩:=ah2 a B1 B42;obtain ⟨A,X,Y_⟩:=axr3 a A Y_;refine zn fun bk43 u93 hb a _ B43=> ?_;have g43:=zj A.size hb;obtain ⟨_,_⟩:=lt2 hb B1 B42;have y43:=zj Y_ hb;obtain ⟨B1,B42⟩:=ah2 a B1 B42;obtain ⟨A,X,Y_⟩:=axa3 a A X Y_;refine bb2 a ?_;refine s6_t B42 fun u94 k B42=> ?_;obtain ⟨B1,B43⟩:=up2 k B1 B43;obtain ⟨A,X,Y_⟩:=axu3 k g42 A X Y_;refine s6_t B43 fun u95 k B43=> ?_;obtain ⟨B1,B42⟩:=up2 k B1 B42;obtain ⟨A,X,Y_⟩:=axu3 k g43 A X Y_;replace h:=h _ X A;exact ⟨bk1,bk42,bk43,aB,ay,aC,aD,az,aE,aF,aA,aG,aH,au,av,aw,ax,b3,s1,x1,b4,s2,x2,b57,s69,x37,b58,s70,x38,rfl,B1,g1,rfl,B42,g42,rfl,B43,g43,(by omega),(by omega),(by omega),A,h⟩
         ·refine zn fun bk44 u96 hb a _ B44=> ?_;have g44:=zj A.size hb;obtain ⟨_,_⟩:=lt2 hb B1 B42;have y44:=zj Y_ hb;obtain ⟨B1,B42⟩:=ah2 a B1 B42;obtain ⟨A,X,Y_⟩:=axa3 a A X Y_;refine bb2 a ?_;replace h:=h _ X A;refine Calls.mono h ?_;clear h;rintro e57 w116 ⟨x40,he_,a,h⟩;refine ⟨x40,he_, ?_⟩;clear he_;obtain ⟨B1,B42,B44⟩:=ah3 a B1 B42 B44;obtain ⟨A,X,Y_⟩:=axr3 a A Y_;refine s6_t B42 fun u97 k B42=> ?_;obtain ⟨B1,B44⟩:=up2 k B1 B44;obtain ⟨A,X,Y_⟩:=axu3 k g42 A X Y_;refine s6_t B44 fun u98 k B44=> ?_;obtain ⟨B1,B42⟩:=up2 k B1 B42;obtain ⟨A,X,Y_⟩:=axu3 k g44 A X Y_;replace h:=h _ X A;exact ⟨bk1,bk42,bk44,aB,ay,aC,aD,az,aE,aF,aA,aG,aH,au,av,aw,ax,b3,s1,x1,b4,s2,x2,b57,s69,x37,b58,s70,x38,rfl,B1,g1,rfl,B42,g42,rfl,B44,g44,(by omega),(by omega),(by omega),A,h⟩
        ·refine zn fun bk45 u99 hb a _ B45=> ?_;have g45:=zj A.size hb;obtain ⟨_,_⟩:=lt2 hb B1 B42;have y45:=zj Y_ hb;obtain ⟨B1,B42⟩:=ah2 a B1 B42;obtain ⟨A,X,Y_⟩:=axa3 a A X Y_;refine bb2 a ?_;replace h:=h _ X A;refine Calls.mono h ?_;clear h;rintro e58 w119 ⟨b59,s71,x41,b60,s72,x42,he_,a,h⟩;refine ⟨b59,s71,x41,b60,s72,x42,he_, ?_⟩;clear he_;obtain ⟨B1,B42,B45⟩:=ah3 a B1 B42 B45;obtain ⟨A,X,Y_⟩:=axr3 a A Y_;replace h:=h _ X A;refine Calls.mono h ?_;clear h;rintro e59 w121 ⟨x43,he_,a,h⟩;refine ⟨x43,he_, ?_⟩;clear he_;obtain ⟨B1,B42,B45⟩:=ah3 a B1 B42 B45;obtain ⟨A,X,Y_⟩:=axr3 a A Y_;refine s6_t B42 fun u100 k B42=> ?_;obtain ⟨B1,B45⟩:=up2 k B1 B45;obtain ⟨A,X,Y_⟩:=axu3 k g42 A X Y_;refine s6_t B45 fun u101 k B45=> ?_;obtain ⟨B1,B42⟩:=up2 k B1 B42;obtain ⟨A,X,Y_⟩:=axu3 k g45 A X Y_;replace h:=h _ X A;exact ⟨bk1,bk42,bk45,aB,ay,aC,aD,az,aE,aF,aA,aG,aH,au,av,aw,ax,b3,s1,x1,b4,s2,x2,b59,s71,x41,b60,s72,x42,rfl,B1,g1,rfl,B42,g42,rfl,B45,g45,(by omega),(by omega),(by omega),A,h⟩
       ·refine zn fun bk46 u102 hb a _ B46=> ?_;have g46:=zj A.size hb;have l1_46:=lt1 hb B1;have y46:=zj Y_ hb;replace B1:=B1.ahead a;obtain ⟨A,X,Y_⟩:=axa3 a A X Y_;refine bb2 a ?_;refine ⟨?_, ?_⟩
        ·replace h:=h _ X A;refine Calls.mono h ?_;clear h;rintro e60 w124 ⟨b61,s73,x44,b62,s74,x45,he_,a,h⟩;refine ⟨b61,s73,x44,b62,s74,x45,he_, ?_⟩;clear he_;obtain ⟨B1,B46⟩:=ah2 a B1 B46;obtain ⟨A,X,Y_⟩:=axr3 a A Y_;refine ⟨?_, ?_⟩
         ·replace h:=h _ X A;refine Calls.mono h ?_;clear h;rintro e61 w126 ⟨x46,he_,a,h⟩;refine ⟨x46,he_, ?_⟩;clear he_;obtain ⟨B1,B46⟩:=ah2 a B1 B46;obtain ⟨A,X,Y_⟩:=axr3 a A Y_;refine zn fun bk47 u103 hb a _ B47=> ?_;have g47:=zj A.size hb;obtain ⟨_,_⟩:=lt2 hb B1 B46;have y47:=zj Y_ hb;obtain ⟨B1,B46⟩:=ah2 a B1 B46;obtain ⟨A,X,Y_⟩:=axa3 a A X Y_;refine bb2 a ?_;refine s6_t B47 fun u104 k B47=> ?_;obtain ⟨B1,B46⟩:=up2 k B1 B46;obtain ⟨A,X,Y_⟩:=axu3 k g47 A X Y_;refine s6_t B46 fun u105 k B46=> ?_;obtain ⟨B1,B47⟩:=up2 k B1 B47;obtain ⟨A,X,Y_⟩:=axu3 k g46 A X Y_;replace h:=h _ X A;exact ⟨bk1,bk47,bk46,aB,ay,aC,aD,az,aE,aF,aA,aG,aH,au,av,aw,ax,b3,s1,x1,b4,s2,x2,b61,s73,x44,b62,s74,x45,rfl,B1,g1,rfl,B47,g47,rfl,B46,g46,(by omega),(by omega),(by omega),A,h⟩
         ·refine zn fun bk48 u106 hb a _ B48=> ?_;have g48:=zj A.size hb;obtain ⟨_,_⟩:=lt2 hb B1 B46;have y48:=zj Y_ hb;obtain ⟨B1,B46⟩:=ah2 a B1 B46;obtain ⟨A,X,Y_⟩:=axa3 a A X Y_;refine bb2 a ?_;replace h:=h _ X A;refine Calls.mono h ?_;clear h;rintro e62 w129 ⟨x47,he_,a,h⟩;refine ⟨x47,he_, ?_⟩;clear he_;obtain ⟨B1,B46,B48⟩:=ah3 a B1 B46 B48;obtain ⟨A,X,Y_⟩:=axr3 a A Y_;refine s6_t B48 fun u107 k B48=> ?_;obtain ⟨B1,B46⟩:=up2 k B1 B46;obtain ⟨A,X,Y_⟩:=axu3 k g48 A X Y_;refine s6_t B46 fun u108 k B46=> ?_;obtain ⟨B1,B48⟩:=up2 k B1 B48;obtain ⟨A,X,Y_⟩:=axu3 k g46 A X Y_;replace h:=h _ X A;exact ⟨bk1,bk48,bk46,aB,ay,aC,aD,az,aE,aF,aA,aG,aH,au,av,aw,ax,b3,s1,x1,b4,s2,x2,b61,s73,x44,b62,s74,x45,rfl,B1,g1,rfl,B48,g48,rfl,B46,g46,(by omega),(by omega),(by omega),A,h⟩
        ·refine zn fun bk49 u109 hb a _ B49=> ?_;have g49:=zj A.size hb;obtain ⟨_,_⟩:=lt2 hb B1 B46;have y49:=zj Y_ hb;obtain ⟨B1,B46⟩:=ah2 a B1 B46;obtain ⟨A,X,Y_⟩:=axa3 a A X Y_;refine bb2 a ?_;replace h:=h _ X A;refine Calls.mono h ?_;clear h;rintro e63 w132 ⟨b63,s75,x48,b64,s76,x49,he_,a,h⟩;refine ⟨b63,s75,x48,b64,s76,x49,he_, ?_⟩;clear he_;obtain ⟨B1,B46,B49⟩:=ah3 a B1 B46 B49;obtain ⟨A,X,Y_⟩:=axr3 a A Y_;replace h:=h _ X A;refine Calls.mono h ?_;clear h;rintro e64 w134 ⟨x50,he_,a,h⟩;refine ⟨x50,he_, ?_⟩;clear he_;obtain ⟨B1,B46,B49⟩:=ah3 a B1 B46 B49;obtain ⟨A,X,Y_⟩:=axr3 a A Y_;refine s6_t B49 fun u110 k B49=> ?_;obtain ⟨B1,B46⟩:=up2 k B1 B46;obtain ⟨A,X,Y_⟩:=axu3 k g49 A X Y_;refine s6_t B46 fun u111 k B46=> ?_;obtain ⟨B1,B49⟩:=up2 k B1 B49;obtain ⟨A,X,Y_⟩:=axu3 k g46 A X Y_;replace h:=h _ X A;exact ⟨bk1,bk49,bk46,aB,ay,aC,aD,az,aE,aF,aA,aG,aH,au,av,aw,ax,b3,s1,x1,b4,s2,x2,b63,s75,x48,b64,s76,x49,rfl,B1,g1,rfl,B49,g49,rfl,B46,g46,(by omega),(by omega),(by omega),A,h⟩
     ·refine ⟨?_, ?_⟩
      ·refine zn fun bk50 u112 hb a _ B50=> ?_;have g50:=zj A.size hb;have l1_50:=lt1 hb B1;have y50:=zj Y_ hb;replace B1:=B1.ahead a;obtain ⟨A,X,Y_⟩:=axa3 a A X Y_;refine bb2 a ?_;refine ⟨?_, ?_⟩
       ·replace h:=h _ X A;refine Calls.mono h ?_;clear h;rintro e65 w137 ⟨b65,s77,x51,b66,s78,x52,he_,a,h⟩;refine ⟨b65,s77,x51,b66,s78,x52,he_, ?_⟩;clear he_;obtain ⟨B1,B50⟩:=ah2 a B1 B50;obtain ⟨A,X,Y_⟩:=axr3 a A Y_;refine ⟨(Bar.of_ahead a), ?_⟩;refine ⟨?_, ?_⟩
        ·replace h:=h _ X A;refine Calls.mono h ?_;clear h;rintro e66 w139 ⟨b67,s79,x53,b68,s80,x54,he_,a,h⟩;refine ⟨b67,s79,x53,b68,s80,x54,he_, ?_⟩;clear he_;obtain ⟨B1,B50⟩:=ah2 a B1 B50;obtain ⟨A,X,Y_⟩:=axr3 a A Y_;refine ⟨?_, ?_⟩
         ·replace h:=h _ X A;refine Calls.mono h ?_;clear h;rintro e67 w141 ⟨x55,he_,a,h⟩;refine ⟨x55,he_, ?_⟩;clear he_;obtain ⟨B1,B50⟩:=ah2 a B1 B50;obtain ⟨A,X,Y_⟩:=axr3 a A Y_;refine zn fun bk51 u113 hb a _ B51=> ?_;have g51:=zj A.size hb;obtain ⟨_,_⟩:=lt2 hb B1 B50;have y51:=zj Y_ hb;obtain ⟨B1,B50⟩:=ah2 a B1 B50;obtain ⟨A,X,Y_⟩:=axa3 a A X Y_;refine bb2 a ?_;refine s6_t B50 fun u114 k B50=> ?_;obtain ⟨B1,B51⟩:=up2 k B1 B51;obtain ⟨A,X,Y_⟩:=axu3 k g50 A X Y_;refine s6_t B51 fun u115 k B51=> ?_;obtain ⟨B1,B50⟩:=up2 k B1 B50;obtain ⟨A,X,Y_⟩:=axu3 k g51 A X Y_;replace h:=h _ X A;exact ⟨bk1,bk50,bk51,aB,ay,aC,aD,az,aE,aF,aA,aG,aH,au,av,aw,ax,b65,s77,x51,b66,s78,x52,b67,s79,x53,b68,s80,x54,rfl,B1,g1,rfl,B50,g50,rfl,B51,g51,(by omega),(by omega),(by omega),A,h⟩
         ·refine zn fun bk52 u116 hb a _ B52=> ?_;have g52:=zj A.size hb;obtain ⟨_,_⟩:=lt2 hb B1 B50;have y52:=zj Y_ hb;obtain ⟨B1,B50⟩:=ah2 a B1 B50;obtain ⟨A,X,Y_⟩:=axa3 a A X Y_;refine bb2 a ?_;replace h:=h _ X A;refine Calls.mono h ?_;clear h;rintro e68 w144 ⟨x56,he_,a,h⟩;refine ⟨x56,he_, ?_⟩;clear he_;obtain ⟨B1,B50,B52⟩:=ah3 a B1 B50 B52;obtain ⟨A,X,Y_⟩:=axr3 a A Y_;refine s6_t B50 fun u117 k B50=> ?_;obtain ⟨B1,B52⟩:=up2 k B1 B52;obtain ⟨A,X,Y_⟩:=axu3 k g50 A X Y_;refine s6_t B52 fun u118 k B52=> ?_;obtain ⟨B1,B50⟩:=up2 k B1 B50;obtain ⟨A,X,Y_⟩:=axu3 k g52 A X Y_;replace h:=h _ X A;exact ⟨bk1,bk50,bk52,aB,ay,aC,aD,az,aE,aF,aA,aG,aH,au,av,aw,ax,b65,s77,x51,b66,s78,x52,b67,s79,x53,b68,s80,x54,rfl,B1,g1,rfl,B50,g50,rfl,B52,g52,(by omega),(by omega),(by omega),A,h⟩
        ·refine zn fun bk53 u119 hb a _ B53=> ?_;have g53:=zj A.size hb;obtain ⟨_,_⟩:=lt2 hb B1 B50;have y53:=zj Y_ hb;obtain ⟨B1,B50⟩:=ah2 a B1 B50;obtain ⟨A,X,Y_⟩:=axa3 a A X Y_;refine bb2 a ?_;replace h:=h _ X A;refine Calls.mono h ?_;clear h;rintro e69 w147 ⟨b69,s81,x57,b70,s82,x58,he_,a,h⟩;refine ⟨b69,s81,x57,b70,s82,x58,he_, ?_⟩;clear he_;obtain ⟨B1,B50,B53⟩:=ah3 a B1 B50 B53;obtain ⟨A,X,Y_⟩:=axr3 a A Y_;replace h:=h _ X A;refine Calls.mono h ?_;clear h;rintro e70 w149 ⟨x59,he_,a,h⟩;refine ⟨x59,he_, ?_⟩;clear he_;obtain ⟨B1,B50,B53⟩:=ah3 a B1 B50 B53;obtain ⟨A,X,Y_⟩:=axr3 a A Y_;refine s6_t B50 fun u120 k B50=> ?_;obtain ⟨B1,B53⟩:=up2 k B1 B53;obtain ⟨A,X,Y_⟩:=axu3 k g50 A X Y_;refine s6_t B53 fun u121 k B53=> ?_;obtain ⟨B1,B50⟩:=up2 k B1 B50;obtain ⟨A,X,Y_⟩:=axu3 k g53 A X Y_;replace h:=h _ X A;exact ⟨bk1,bk50,bk53,aB,ay,aC,aD,az,aE,aF,aA,aG,aH,au,av,aw,ax,b65,s77,x51,b66,s78,x52,b69,s81,x57,b70,s82,x58,rfl,B1,g1,rfl,B50,g50,rfl,B53,g53,(by omega),(by omega),(by omega),A,h⟩
       ·refine zn fun bk54 u122 hb a _ B54=> ?_;have g54:=zj A.size hb;obtain ⟨_,_⟩:=lt2 hb B1 B50;have y54:=zj Y_ hb;obtain ⟨B1,B50⟩:=ah2 a B1 B50;obtain ⟨A,X,Y_⟩:=axa3 a A X Y_;refine bb2 a ?_;replace h:=h _ X A;refine Calls.mono h ?_;clear h;rintro e71 w152 ⟨b71,s83,x60,b72,s84,x61,he_,a,h⟩;refine ⟨b71,s83,x60,b72,s84,x61,he_, ?_⟩;clear he_;obtain ⟨B1,B50,B54⟩:=ah3 a B1 B50 B54;obtain ⟨A,X,Y_⟩:=axr3 a A Y_;refine ⟨(Bar.of_ahead a), ?_⟩;replace h:=h _ X A;refine Calls.mono h ?_;clear h;rintro e72 w154 ⟨b73,s85,x62,b74,s86,x63,he_,a,h⟩;refine ⟨b73,s85,x62,b74,s86,x63,he_, ?_⟩;clear he_;obtain ⟨B1,B50,B54⟩:=ah3 a B1 B50 B54;obtain ⟨A,X,Y_⟩:=axr3 a A Y_;replace h:=h _ X A;refine Calls.mono h ?_;clear h;rintro e73 w156 ⟨x64,he_,a,h⟩;refine ⟨x64,he_, ?_⟩;clear he_;obtain ⟨B1,B50,B54⟩:=ah3 a B1 B50 B54;obtain ⟨A,X,Y_⟩:=axr3 a A Y_;refine s6_t B50 fun u123 k B50=> ?_;obtain ⟨B1,B54⟩:=up2 k B1 B54;obtain ⟨A,X,Y_⟩:=axu3 k g50 A X Y_;refine s6_t B54 fun u124 k B54=> ?_;obtain ⟨B1,B50⟩:=up2 k B1 B50;obtain ⟨A,X,Y_⟩:=axu3 k g54 A X Y_;replace h:=h _ X A;exact ⟨bk1,bk50,bk54,aB,ay,aC,aD,az,aE,aF,aA,aG,aH,au,av,aw,ax,b71,s83,x60,b72,s84,x61,b73,s85,x62,b74,s86,x63,rfl,B1,g1,rfl,B50,g50,rfl,B54,g54,(by omega),(by omega),(by omega),A,h⟩
      ·refine zn fun bk55 u125 hb a _ B55=> ?_;have g55:=zj A.size hb;have l1_55:=lt1 hb B1;have y55:=zj Y_ hb;replace B1:=B1.ahead a;obtain ⟨A,X,Y_⟩:=axa3 a A X Y_;refine bb2 a ?_;refine ⟨?_, ?_⟩
       ·replace h:=h _ X A;refine Calls.mono h ?_;clear h;rintro e74 w159 ⟨b75,s87,x65,b76,s88,x66,he_,a,h⟩;refine ⟨b75,s87,x65,b76,s88,x66,he_, ?_⟩;clear he_;obtain ⟨B1,B55⟩:=ah2 a B1 B55;obtain ⟨A,X,Y_⟩:=axr3 a A Y_;refine ⟨(Bar.of_ahead a), ?_⟩;refine ⟨?_, ?_⟩
        ·replace h:=h _ X A;refine Calls.mono h ?_;clear h;rintro e75 w161 ⟨b77,s89,x67,b78,s90,x68,he_,a,h⟩;refine ⟨b77,s89,x67,b78,s90,x68,he_, ?_⟩;clear he_;obtain ⟨B1,B55⟩:=ah2 a B1 B55;obtain ⟨A,X,Y_⟩:=axr3 a A Y_;refine ⟨?_, ?_⟩
         ·replace h:=h _ X A;refine Calls.mono h ?_;clear h;rintro e76 w163 ⟨x69,he_,a,h⟩;refine ⟨x69,he_, ?_⟩;clear he_;obtain ⟨B1,B55⟩:=ah2 a B1 B55;obtain ⟨A,X,Y_⟩:=axr3 a A Y_;refine zn fun bk56 u126 hb a _ B56=> ?_;have g56:=zj A.size hb;obtain ⟨_,_⟩:=lt2 hb B1 B55;have y56:=zj Y_ hb;obtain ⟨B1,B55⟩:=ah2 a B1 B55;obtain ⟨A,X,Y_⟩:=axa3 a A X Y_;refine bb2 a ?_;refine s6_t B56 fun u127 k B56=> ?_;obtain ⟨B1,B55⟩:=up2 k B1 B55;obtain ⟨A,X,Y_⟩:=axu3 k g56 A X Y_;refine s6_t B55 fun u128 k B55=> ?_;obtain ⟨B1,B56⟩:=up2 k B1 B56;obtain ⟨A,X,Y_⟩:=axu3 k g55 A X Y_;replace h:=h _ X A;exact ⟨bk1,bk56,bk55,aB,ay,aC,aD,az,aE,aF,aA,aG,aH,au,av,aw,ax,b75,s87,x65,b76,s88,x66,b77,s89,x67,b78,s90,x68,rfl,B1,g1,rfl,B56,g56,rfl,B55,g55,(by omega),(by omega),(by omega),A,h⟩
         ·refine zn fun bk57 u129 hb a _ B57=> ?_;have g57:=zj A.size hb;obtain ⟨_,_⟩:=lt2 hb B1 B55;have y57:=zj Y_ hb;obtain ⟨B1,B55⟩:=ah2 a B1 B55;obtain ⟨A,X,Y_⟩:=axa3 a A X Y_;refine bb2 a ?_;replace h:=h _ X A;refine Calls.mono h ?_;clear h;rintro e77 w166 ⟨x70,he_,a,h⟩;refine ⟨x70,he_, ?_⟩;clear he_;obtain ⟨B1,B55,B57⟩:=ah3 a B1 B55 B57;obtain ⟨A,X,Y_⟩:=axr3 a A Y_;refine s6_t B57 fun u130 k B57=> ?_;obtain ⟨B1,B55⟩:=up2 k B1 B55;obtain ⟨A,X,Y_⟩:=axu3 k g57 A X Y_;refine s6_t B55 fun u131 k B55=> ?_;obtain ⟨B1,B57⟩:=up2 k B1 B57;obtain ⟨A,X,Y_⟩:=axu3 k g55 A X Y_;replace h:=h _ X A;exact ⟨bk1,bk57,bk55,aB,ay,aC,aD,az,aE,aF,aA,aG,aH,au,av,aw,ax,b75,s87,x65,b76,s88,x66,b77,s89,x67,b78,s90,x68,rfl,B1,g1,rfl,B57,g57,rfl,B55,g55,(by omega),(by omega),(by omega),A,h⟩
        ·refine zn fun bk58 u132 hb a _ B58=> ?_;have g58:=zj A.size hb;obtain ⟨_,_⟩:=lt2 hb B1 B55;have y58:=zj Y_ hb;obtain ⟨B1,B55⟩:=ah2 a B1 B55;obtain ⟨A,X,Y_⟩:=axa3 a A X Y_;refine bb2 a ?_;replace h:=h _ X A;refine Calls.mono h ?_;clear h;rintro e78 w169 ⟨b79,s91,x71,b80,s92,x72,he_,a,h⟩;refine ⟨b79,s91,x71,b80,s92,x72,he_, ?_⟩;clear he_;obtain ⟨B1,B55,B58⟩:=ah3 a B1 B55 B58;obtain ⟨A,X,Y_⟩:=axr3 a A Y_;replace h:=h _ X A;refine Calls.mono h ?_;clear h;rintro e79 w171 ⟨x73,he_,a,h⟩;refine ⟨x73,he_, ?_⟩;clear he_;obtain ⟨B1,B55,B58⟩:=ah3 a B1 B55 B58;obtain ⟨A,X,Y_⟩:=axr3 a A Y_;refine s6_t B58 fun u133 k B58=> ?_;obtain ⟨B1,B55⟩:=up2 k B1 B55;obtain ⟨A,X,Y_⟩:=axu3 k g58 A X Y_;refine s6_t B55 fun u134 k B55=> ?_;obtain ⟨B1,B58⟩:=up2 k B1 B58;obtain ⟨A,X,Y_⟩:=axu3 k g55 A X Y_;replace h:=h _ X A;exact ⟨bk1,bk58,bk55,aB,ay,aC,aD,az,aE,aF,aA,aG,aH,au,av,aw,ax,b75,s87,x65,b76,s88,x66,b79,s91,x71,b80,s92,x72,rfl,B1,g1,rfl,B58,g58,rfl,B55,g55,(by omega),(by omega),(by omega),A,h⟩
       ·refine zn fun bk59 u135 hb a _ B59=> ?_;have g59:=zj A.size hb;obtain ⟨_,_⟩:=lt2 hb B1 B55;have y59:=zj Y_ hb;obtain ⟨B1,B55⟩:=ah2 a B1 B55;obtain ⟨A,X,Y_⟩:=axa3 a A X Y_;refine bb2 a ?_;replace h:=h _ X A;refine Calls.mono h ?_;clear h;rintro e80 w174 ⟨b81,s93,x74,b82,s94,x75,he_,a,h⟩;refine ⟨b81,s93,x74,b82,s94,x75,he_, ?_⟩;clear he_;obtain ⟨B1,B55,B59⟩:=ah3 a B1 B55 B59;obtain ⟨A,X,Y_⟩:=axr3 a A Y_;refine ⟨(Bar.of_ahead a), ?_⟩;replace h:=h _ X A;refine Calls.mono h ?_;clear h;rintro e81 w176 ⟨b83,s95,x76,b84,s96,x77,he_,a,h⟩;refine ⟨b83,s95,x76,b84,s96,x77,he_, ?_⟩;clear he_;obtain ⟨B1,B55,B59⟩:=ah3 a B1 B55 B59;obtain ⟨A,X,Y_⟩:=axr3 a A Y_;replace h:=h _ X A;refine Calls.mono h ?_;clear h;rintro e82 w178 ⟨x78,he_,a,h⟩;refine ⟨x78,he_, ?_⟩;clear he_;obtain ⟨B1,B55,B59⟩:=ah3 a B1 B55 B59;obtain ⟨A,X,Y_⟩:=axr3 a A Y_;refine s6_t B59 fun u136 k B59=> ?_;obtain ⟨B1,B55⟩:=up2 k B1 B55;obtain ⟨A,X,Y_⟩:=axu3 k g59 A X Y_;refine s6_t B55 fun u137 k B55=> ?_;obtain ⟨B1,B59⟩:=up2 k B1 B59;obtain ⟨A,X,Y_⟩:=axu3 k g55 A X Y_;replace h:=h _ X A;exact ⟨bk1,bk59,bk55,aB,ay,aC,aD,az,aE,aF,aA,aG,aH,au,av,aw,ax,b81,s93,x74,b82,s94,x75,b83,s95,x76,b84,s96,x77,rfl,B1,g1,rfl,B59,g59,rfl,B55,g55,(by omega),(by omega),(by omega),A,h⟩
  · clear h
    intro t1 t2 t5 t6 w_
    refine exE fun bk1=>exE fun bk2=>exE fun bk3=>exE fun aZ=>exE fun ba=>exE fun bb=>exE fun bc=>exE fun bd=>exE fun be=>exE fun bf=>exE fun bg=>exE fun bh=>exE fun bi=>exE fun aX=>exE fun aY=>exE fun aV=>exE fun aW=>exE fun aa=>exE fun ab=>exE fun ac=>exE fun ad=>exE fun ae=>exE fun af=>exE fun ag=>exE fun ah=>exE fun ai=>exE fun aj=>exE fun ak=>exE fun al=>anE fun e_0=>anE fun B1=>anE fun g1=>anE fun e_1=>anE fun B2=>anE fun g2=>anE fun e_2=>anE fun B3=>anE fun g3=>anE fun n1_2=>anE fun n1_3=>anE fun n2_3=>anE fun A=>fun bk=> ?_
    subst e_0
    subst e_1
    subst e_2
    have h:=bp t1 aZ ba bb bc bd be bf bg bh bi aX aY aV aW aa ab ac ad ae af ag ah ai aj ak al w_ A bk
    have X:Ext w_ w_:=Ext.refl _
    have aK:=Sp.Ahead.drew w_;obtain ⟨B1,B2,B3⟩:=ah3 aK B1 B2 B3;obtain ⟨A,X⟩:=axa2 aK A X;clear aK;have z1:=B1.lt;have z2:=B2.lt;have z3:=B3.lt;let V_:Nat→Nat→Prop:=fun (q_ k:Nat)=>(k<0∨w_.drew.heap.size≤k)∧0≤k;refine ⟨V_, ?_⟩;have Y_:w_.drew.heap.size≤w_.drew.heap.size:=Nat.le_refl _;refine xp (b:=bk2) (i:=0) (by first|rfl|exact Sp.zz) (fun hv_=>(by replace hv_:_∧_:=hv_;omega)) ?_;refine l6_t B2 ?_;refine xp (b:=bk1) (i:=12) (by first|rfl|exact Sp.zz) (fun hv_=>(by replace hv_:_∧_:=hv_;omega)) ?_;refine xg 12 B1 rfl ?_;refine xp (b:=bk3) (i:=0) (by first|rfl|exact Sp.zz) (fun hv_=>(by replace hv_:_∧_:=hv_;omega)) ?_;refine l6_t B3 ?_;refine xp (b:=bk1) (i:=13) (by first|rfl|exact Sp.zz) (fun hv_=>(by replace hv_:_∧_:=hv_;omega)) ?_;refine xg 13 B1 rfl ?_;refine ⟨?_, ?_⟩
    ·replace h:=h _ X A;refine Calls.mono h ?_;clear h;rintro e6 w12 ⟨b7,s5,s6,he_,a,h⟩;refine ⟨b7,s5,s6,he_, ?_⟩;clear he_;obtain ⟨B1,B2,B3⟩:=ah3 a B1 B2 B3;obtain ⟨A,X,Y_⟩:=axr3 a A Y_;refine bb2 a ?_;refine ⟨?_, ?_⟩
     ·replace h:=h _ X A;refine Calls.mono h ?_;clear h;rintro e7 w14 ⟨b8,s7,s8,he_,a,h⟩;refine ⟨b8,s7,s8,he_, ?_⟩;clear he_;obtain ⟨B1,B2,B3⟩:=ah3 a B1 B2 B3;obtain ⟨A,X,Y_⟩:=axr3 a A Y_;refine ⟨?_, ?_⟩
      ·refine zn fun bk4 u6 hb a _ B4=> ?_;have g4:=zj A.size hb;obtain ⟨_,_,_⟩:=lt3 hb B1 B2 B3;have y4:=zj Y_ hb;obtain ⟨B1,B2,B3⟩:=ah3 a B1 B2 B3;obtain ⟨A,X,Y_⟩:=axa3 a A X Y_;refine bb4 a ?_;refine zn fun bk5 u7 hb a _ B5=> ?_;have g5:=zj A.size hb;obtain ⟨_,_,_,_⟩:=lt4 hb B1 B2 B3 B4;have y5:=zj Y_ hb;obtain ⟨B1,B2,B3,B4⟩:=ah4 a B1 B2 B3 B4;obtain ⟨A,X,Y_⟩:=axa3 a A X Y_;refine bb4 a ?_;refine s3_t B4 fun u8 k B4=> ?_;obtain ⟨B1,B2,B3,B5⟩:=up4 k B1 B2 B3 B5;obtain ⟨A,X,Y_⟩:=axu3 k g4 A X Y_;refine s3_t B5 fun u9 k B5=> ?_;obtain ⟨B1,B2,B3,B4⟩:=up4 k B1 B2 B3 B4;obtain ⟨A,X,Y_⟩:=axu3 k g5 A X Y_;replace h:=h _ X A;refine ⟨bk2,bk3,bk4,bk5,aa,ab,ac,ad,ae,af,ag,ah,ai,aj,ak,al,b7,s5,s6,b8,s7,s8,rfl,B2,g2,rfl,B3,g3,rfl,B4,g4,rfl,B5,g5, ?_⟩;iterate 6 refine nd ?_
       exact ⟨A,h⟩
      ·refine zn fun bk18 u36 hb a _ B18=> ?_;have g18:=zj A.size hb;obtain ⟨_,_,_⟩:=lt3 hb B1 B2 B3;have y18:=zj Y_ hb;obtain ⟨B1,B2,B3⟩:=ah3 a B1 B2 B3;obtain ⟨A,X,Y_⟩:=axa3 a A X Y_;refine bb4 a ?_;refine zn fun bk19 u37 hb a _ B19=> ?_;have g19:=zj A.size hb;obtain ⟨_,_,_,_⟩:=lt4 hb B1 B2 B3 B18;have y19:=zj Y_ hb;obtain ⟨B1,B2,B3,B18⟩:=ah4 a B1 B2 B3 B18;obtain ⟨A,X,Y_⟩:=axa3 a A X Y_;refine bb4 a ?_;refine s3_t B19 fun u38 k B19=> ?_;obtain ⟨B1,B2,B3,B18⟩:=up4 k B1 B2 B3 B18;obtain ⟨A,X,Y_⟩:=axu3 k g19 A X Y_;refine s3_t B18 fun u39 k B18=> ?_;obtain ⟨B1,B2,B3,B19⟩:=up4 k B1 B2 B3 B19;obtain ⟨A,X,Y_⟩:=axu3 k g18 A X Y_;replace h:=h _ X A;refine ⟨bk2,bk3,bk19,bk18,aa,ab,ac,ad,ae,af,ag,ah,ai,aj,ak,al,b7,s5,s6,b8,s7,s8,rfl,B2,g2,rfl,B3,g3,rfl,B19,g19,rfl,B18,g18, ?_⟩;iterate 6 refine nd ?_
       exact ⟨A,h⟩
     ·refine ⟨?_, ?_⟩
      ·refine zn fun bk20 u40 hb a _ B20=> ?_;have g20:=zj A.size hb;obtain ⟨_,_,_⟩:=lt3 hb B1 B2 B3;have y20:=zj Y_ hb;obtain ⟨B1,B2,B3⟩:=ah3 a B1 B2 B3;obtain ⟨A,X,Y_⟩:=axa3 a A X Y_;refine bb4 a ?_;refine ⟨?_, ?_⟩
       ·replace h:=h _ X A;refine Calls.mono h ?_;clear h;rintro e37 w59 ⟨b43,s41,s42,he_,a,h⟩;refine ⟨b43,s41,s42,he_, ?_⟩;clear he_;obtain ⟨B1,B2,B3,B20⟩:=ah4 a B1 B2 B3 B20;obtain ⟨A,X,Y_⟩:=axr3 a A Y_;refine zn fun bk21 u41 hb a _ B21=> ?_;have g21:=zj A.size hb;obtain ⟨_,_,_,_⟩:=lt4 hb B1 B2 B3 B20;have y21:=zj Y_ hb;obtain ⟨B1,B2,B3,B20⟩:=ah4 a B1 B2 B3 B20;obtain ⟨A,X,Y_⟩:=axa3 a A X Y_;refine bb4 a ?_;refine s3_t B20 fun u42 k B20=> ?_;obtain ⟨B1,B2,B3,B21⟩:=up4 k B1 B2 B3 B21;obtain ⟨A,X,Y_⟩:=axu3 k g20 A X Y_;refine s3_t B21 fun u43 k B21=> ?_;obtain ⟨B1,B2,B3,B20⟩:=up4 k B1 B2 B3 B20;obtain ⟨A,X,Y_⟩:=axu3 k g21 A X Y_;replace h:=h _ X A;refine ⟨bk2,bk3,bk20,bk21,aa,ab,ac,ad,ae,af,ag,ah,ai,aj,ak,al,b7,s5,s6,b43,s41,s42,rfl,B2,g2,rfl,B3,g3,rfl,B20,g20,rfl,B21,g21, ?_⟩;iterate 6 refine nd ?_
        exact ⟨A,h⟩
       ·refine zn fun bk22 u44 hb a _ B22=> ?_;have g22:=zj A.size hb;obtain ⟨_,_,_,_⟩:=lt4 hb B1 B2 B3 B20;have y22:=zj Y_ hb;obtain ⟨B1,B2,B3,B20⟩:=ah4 a B1 B2 B3 B20;obtain ⟨A,X,Y_⟩:=axa3 a A X Y_;refine bb4 a ?_;replace h:=h _ X A;refine Calls.mono h ?_;clear h;rintro e38 w62 ⟨b44,s43,s44,he_,a,h⟩;refine ⟨b44,s43,s44,he_, ?_⟩;clear he_;obtain ⟨B1,B2,B3,B20,B22⟩:=ah5 a B1 B2 B3 B20 B22;obtain ⟨A,X,Y_⟩:=axr3 a A Y_;refine s3_t B20 fun u45 k B20=> ?_;obtain ⟨B1,B2,B3,B22⟩:=up4 k B1 B2 B3 B22;obtain ⟨A,X,Y_⟩:=axu3 k g20 A X Y_;refine s3_t B22 fun u46 k B22=> ?_;obtain ⟨B1,B2,B3,B20⟩:=up4 k B1 B2 B3 B20;obtain ⟨A,X,Y_⟩:=axu3 k g22 A X Y_;replace h:=h _ X A;refine ⟨bk2,bk3,bk20,bk22,aa,ab,ac,ad,ae,af,ag,ah,ai,aj,ak,al,b7,s5,s6,b44,s43,s44,rfl,B2,g2,rfl,B3,g3,rfl,B20,g20,rfl,B22,g22, ?_⟩;iterate 6 refine nd ?_
        exact ⟨A,h⟩
      ·refine zn fun bk23 u47 hb a _ B23=> ?_;have g23:=zj A.size hb;obtain ⟨_,_,_⟩:=lt3 hb B1 B2 B3;have y23:=zj Y_ hb;obtain ⟨B1,B2,B3⟩:=ah3 a B1 B2 B3;obtain ⟨A,X,Y_⟩:=axa3 a A X Y_;refine bb4 a ?_;refine ⟨?_, ?_⟩
       ·replace h:=h _ X A;refine Calls.mono h ?_;clear h;rintro e39 w65 ⟨b45,s45,s46,he_,a,h⟩;refine ⟨b45,s45,s46,he_, ?_⟩;clear he_;obtain ⟨B1,B2,B3,B23⟩:=ah4 a B1 B2 B3 B23;obtain ⟨A,X,Y_⟩:=axr3 a A Y_;refine zn fun bk24 u48 hb a _ B24=> ?_;have g24:=zj A.size hb;obtain ⟨_,_,_,_⟩:=lt4 hb B1 B2 B3 B23;have y24:=zj Y_ hb;obtain ⟨B1,B2,B3,B23⟩:=ah4 a B1 B2 B3 B23;obtain ⟨A,X,Y_⟩:=axa3 a A X Y_;refine bb4 a ?_;refine s3_t B24 fun u49 k B24=> ?_;obtain ⟨B1,B2,B3,B23⟩:=up4 k B1 B2 B3 B23;obtain ⟨A,X,Y_⟩:=axu3 k g24 A X Y_;refine s3_t B23 fun u50 k B23=> ?_;obtain ⟨B1,B2,B3,B24⟩:=up4 k B1 B2 B3 B24;obtain ⟨A,X,Y_⟩:=axu3 k g23 A X Y_;replace h:=h _ X A;refine ⟨bk2,bk3,bk24,bk23,aa,ab,ac,ad,ae,af,ag,ah,ai,aj,ak,al,b7,s5,s6,b45,s45,s46,rfl,B2,g2,rfl,B3,g3,rfl,B24,g24,rfl,B23,g23, ?_⟩;iterate 6 refine nd ?_
        exact ⟨A,h⟩
       ·refine zn fun bk25 u51 hb a _ B25=> ?_;have g25:=zj A.size hb;obtain ⟨_,_,_,_⟩:=lt4 hb B1 B2 B3 B23;have y25:=zj Y_ hb;obtain ⟨B1,B2,B3,B23⟩:=ah4 a B1 B2 B3 B23;obtain ⟨A,X,Y_⟩:=axa3 a A X Y_;refine bb4 a ?_;replace h:=h _ X A;refine Calls.mono h ?_;clear h;rintro e40 w68 ⟨b46,s47,s48,he_,a,h⟩;refine ⟨b46,s47,s48,he_, ?_⟩;clear he_;obtain ⟨B1,B2,B3,B23,B25⟩:=ah5 a B1 B2 B3 B23 B25;obtain ⟨A,X,Y_⟩:=axr3 a A Y_;refine s3_t B25 fun u52 k B25=> ?_;obtain ⟨B1,B2,B3,B23⟩:=up4 k B1 B2 B3 B23;obtain ⟨A,X,Y_⟩:=axu3 k g25 A X Y_;refine s3_t B23 fun u53 k B23=> ?_;obtain ⟨B1,B2,B3,B25⟩:=up4 k B1 B2 B3 B25;obtain ⟨A,X,Y_⟩:=axu3 k g23 A X Y_;replace h:=h _ X A;refine ⟨bk2,bk3,bk25,bk23,aa,ab,ac,ad,ae,af,ag,ah,ai,aj,ak,al,b7,s5,s6,b46,s47,s48,rfl,B2,g2,rfl,B3,g3,rfl,B25,g25,rfl,B23,g23, ?_⟩;iterate 6 refine nd ?_
        exact ⟨A,h⟩
    ·refine ⟨?_, ?_⟩
     ·refine zn fun bk26 u54 hb a _ B26=> ?_;have g26:=zj A.size hb;obtain ⟨_,_,_⟩:=lt3 hb B1 B2 B3;have y26:=zj Y_ hb;obtain ⟨B1,B2,B3⟩:=ah3 a B1 B2 B3;obtain ⟨A,X,Y_⟩:=axa3 a A X Y_;refine bb4 a ?_;refine ⟨?_, ?_⟩
      ·replace h:=h _ X A;refine Calls.mono h ?_;clear h;rintro e41 w71 ⟨b47,s49,s50,he_,a,h⟩;refine ⟨b47,s49,s50,he_, ?_⟩;clear he_;obtain ⟨B1,B2,B3,B26⟩:=ah4 a B1 B2 B3 B26;obtain ⟨A,X,Y_⟩:=axr3 a A Y_;refine bb2 a ?_;refine ⟨?_, ?_⟩
       ·replace h:=h _ X A;refine Calls.mono h ?_;clear h;rintro e42 w73 ⟨b48,s51,s52,he_,a,h⟩;refine ⟨b48,s51,s52,he_, ?_⟩;clear he_;obtain ⟨B1,B2,B3,B26⟩:=ah4 a B1 B2 B3 B26;obtain ⟨A,X,Y_⟩:=axr3 a A Y_;refine zn fun bk27 u55 hb a _ B27=> ?_;have g27:=zj A.size hb;obtain ⟨_,_,_,_⟩:=lt4 hb B1 B2 B3 B26;have y27:=zj Y_ hb;obtain ⟨B1,B2,B3,B26⟩:=ah4 a B1 B2 B3 B26;obtain ⟨A,X,Y_⟩:=axa3 a A X Y_;refine bb4 a ?_;refine s3_t B26 fun u56 k B26=> ?_;obtain ⟨B1,B2,B3,B27⟩:=up4 k B1 B2 B3 B27;obtain ⟨A,X,Y_⟩:=axu3 k g26 A X Y_;refine s3_t B27 fun u57 k B27=> ?_;obtain ⟨B1,B2,B3,B26⟩:=up4 k B1 B2 B3 B26;obtain ⟨A,X,Y_⟩:=axu3 k g27 A X Y_;replace h:=h _ X A;refine ⟨bk2,bk3,bk26,bk27,aa,ab,ac,ad,ae,af,ag,ah,ai,aj,ak,al,b47,s49,s50,b48,s51,s52,rfl,B2,g2,rfl,B3,g3,rfl,B26,g26,rfl,B27,g27, ?_⟩;iterate 6 refine nd ?_
        exact ⟨A,h⟩
       ·refine zn fun bk28 u58 hb a _ B28=> ?_;have g28:=zj A.size hb;obtain ⟨_,_,_,_⟩:=lt4 hb B1 B2 B3 B26;have y28:=zj Y_ hb;obtain ⟨B1,B2,B3,B26⟩:=ah4 a B1 B2 B3 B26;obtain ⟨A,X,Y_⟩:=axa3 a A X Y_;refine bb4 a ?_;replace h:=h _ X A;refine Calls.mono h ?_;clear h;rintro e43 w76 ⟨b49,s53,s54,he_,a,h⟩;refine ⟨b49,s53,s54,he_, ?_⟩;clear he_;obtain ⟨B1,B2,B3,B26,B28⟩:=ah5 a B1 B2 B3 B26 B28;obtain ⟨A,X,Y_⟩:=axr3 a A Y_;refine s3_t B26 fun u59 k B26=> ?_;obtain ⟨B1,B2,B3,B28⟩:=up4 k B1 B2 B3 B28;obtain ⟨A,X,Y_⟩:=axu3 k g26 A X Y_;refine s3_t B28 fun u60 k B28=> ?_;obtain ⟨B1,B2,B3,B26⟩:=up4 k B1 B2 B3 B26;obtain ⟨A,X,Y_⟩:=axu3 k g28 A X Y_;replace h:=h _ X A;refine ⟨bk2,bk3,bk26,bk28,aa,ab,ac,ad,ae,af,ag,ah,ai,aj,ak,al,b47,s49,s50,b49,s53,s54,rfl,B2,g2,rfl,B3,g3,rfl,B26,g26,rfl,B28,g28, ?_⟩;iterate 6 refine nd ?_
        exact ⟨A,h⟩
      ·refine zn fun bk29 u61 hb a _ B29=> ?_;have g29:=zj A.size hb;obtain ⟨_,_,_,_⟩:=lt4 hb B1 B2 B3 B26;have y29:=zj Y_ hb;obtain ⟨B1,B2,B3,B26⟩:=ah4 a B1 B2 B3 B26;obtain ⟨A,X,Y_⟩:=axa3 a A X Y_;refine bb4 a ?_;replace h:=h _ X A;refine Calls.mono h ?_;clear h;rintro e44 w79 ⟨b50,s55,s56,he_,a,h⟩;refine ⟨b50,s55,s56,he_, ?_⟩;clear he_;obtain ⟨B1,B2,B3,B26,B29⟩:=ah5 a B1 B2 B3 B26 B29;obtain ⟨A,X,Y_⟩:=axr3 a A Y_;refine bb2 a ?_;replace h:=h _ X A;refine Calls.mono h ?_;clear h;rintro e45 w81 ⟨b51,s57,s58,he_,a,h⟩;refine ⟨b51,s57,s58,he_, ?_⟩;clear he_;obtain ⟨B1,B2,B3,B26,B29⟩:=ah5 a B1 B2 B3 B26 B29;obtain ⟨A,X,Y_⟩:=axr3 a A Y_;refine s3_t B26 fun u62 k B26=> ?_;obtain ⟨B1,B2,B3,B29⟩:=up4 k B1 B2 B3 B29;obtain ⟨A,X,Y_⟩:=axu3 k g26 A X Y_;refine s3_t B29 fun u63 k B29=> ?_;obtain ⟨B1,B2,B3,B26⟩:=up4 k B1 B2 B3 B26;obtain ⟨A,X,Y_⟩:=axu3 k g29 A X Y_;replace h:=h _ X A;refine ⟨bk2,bk3,bk26,bk29,aa,ab,ac,ad,ae,af,ag,ah,ai,aj,ak,al,b50,s55,s56,b51,s57,s58,rfl,B2,g2,rfl,B3,g3,rfl,B26,g26,rfl,B29,g29, ?_⟩;iterate 6 refine nd ?_
       exact ⟨A,h⟩
     ·refine zn fun bk30 u64 hb a _ B30=> ?_;have g30:=zj A.size hb;obtain ⟨_,_,_⟩:=lt3 hb B1 B2 B3;have y30:=zj Y_ hb;obtain ⟨B1,B2,B3⟩:=ah3 a B1 B2 B3;obtain ⟨A,X,Y_⟩:=axa3 a A X Y_;refine bb4 a ?_;refine ⟨?_, ?_⟩
      ·replace h:=h _ X A;refine Calls.mono h ?_;clear h;rintro e46 w84 ⟨b52,s59,s60,he_,a,h⟩;refine ⟨b52,s59,s60,he_, ?_⟩;clear he_;obtain ⟨B1,B2,B3,B30⟩:=ah4 a B1 B2 B3 B30;obtain ⟨A,X,Y_⟩:=axr3 a A Y_;refine bb2 a ?_;refine ⟨?_, ?_⟩
       ·replace h:=h _ X A;refine Calls.mono h ?_;clear h;rintro e47 w86 ⟨b53,s61,s62,he_,a,h⟩;refine ⟨b53,s61,s62,he_, ?_⟩;clear he_;obtain ⟨B1,B2,B3,B30⟩:=ah4 a B1 B2 B3 B30;obtain ⟨A,X,Y_⟩:=axr3 a A Y_;refine zn fun bk31 u65 hb a _ B31=> ?_;have g31:=zj A.size hb;obtain ⟨_,_,_,_⟩:=lt4 hb B1 B2 B3 B30;have y31:=zj Y_ hb;obtain ⟨B1,B2,B3,B30⟩:=ah4 a B1 B2 B3 B30;obtain ⟨A,X,Y_⟩:=axa3 a A X Y_;refine bb4 a ?_;refine s3_t B31 fun u66 k B31=> ?_;obtain ⟨B1,B2,B3,B30⟩:=up4 k B1 B2 B3 B30;obtain ⟨A,X,Y_⟩:=axu3 k g31 A X Y_;refine s3_t B30 fun u67 k B30=> ?_;obtain ⟨B1,B2,B3,B31⟩:=up4 k B1 B2 B3 B31;obtain ⟨A,X,Y_⟩:=axu3 k g30 A X Y_;replace h:=h _ X A;refine ⟨bk2,bk3,bk31,bk30,aa,ab,ac,ad,ae,af,ag,ah,ai,aj,ak,al,b52,s59,s60,b53,s61,s62,rfl,B2,g2,rfl,B3,g3,rfl,B31,g31,rfl,B30,g30, ?_⟩;iterate 6 refine nd ?_
        exact ⟨A,h⟩
       ·refine zn fun bk32 u68 hb a _ B32=> ?_;have g32:=zj A.size hb;obtain ⟨_,_,_,_⟩:=lt4 hb B1 B2 B3 B30;have y32:=zj Y_ hb;obtain ⟨B1,B2,B3,B30⟩:=ah4 a B1 B2 B3 B30;obtain ⟨A,X,Y_⟩:=axa3 a A X Y_;refine bb4 a ?_;replace h:=h _ X A;refine Calls.mono h ?_;clear h;rintro e48 w89 ⟨b54,s63,s64,he_,a,h⟩;refine ⟨b54,s63,s64,he_, ?_⟩;clear he_;obtain ⟨B1,B2,B3,B30,B32⟩:=ah5 a B1 B2 B3 B30 B32;obtain ⟨A,X,Y_⟩:=axr3 a A Y_;refine s3_t B32 fun u69 k B32=> ?_;obtain ⟨B1,B2,B3,B30⟩:=up4 k B1 B2 B3 B30;obtain ⟨A,X,Y_⟩:=axu3 k g32 A X Y_;refine s3_t B30 fun u70 k B30=> ?_;obtain ⟨B1,B2,B3,B32⟩:=up4 k B1 B2 B3 B32;obtain ⟨A,X,Y_⟩:=axu3 k g30 A X Y_;replace h:=h _ X A;refine ⟨bk2,bk3,bk32,bk30,aa,ab,ac,ad,ae,af,ag,ah,ai,aj,ak,al,b52,s59,s60,b54,s63,s64,rfl,B2,g2,rfl,B3,g3,rfl,B32,g32,rfl,B30,g30, ?_⟩;iterate 6 refine nd ?_
        exact ⟨A,h⟩
      ·refine zn fun bk33 u71 hb a _ B33=> ?_;have g33:=zj A.size hb;obtain ⟨_,_,_,_⟩:=lt4 hb B1 B2 B3 B30;have y33:=zj Y_ hb;obtain ⟨B1,B2,B3,B30⟩:=ah4 a B1 B2 B3 B30;obtain ⟨A,X,Y_⟩:=axa3 a A X Y_;refine bb4 a ?_;replace h:=h _ X A;refine Calls.mono h ?_;clear h;rintro e49 w92 ⟨b55,s65,s66,he_,a,h⟩;refine ⟨b55,s65,s66,he_, ?_⟩;clear he_;obtain ⟨B1,B2,B3,B30,B33⟩:=ah5 a B1 B2 B3 B30 B33;obtain ⟨A,X,Y_⟩:=axr3 a A Y_;refine bb2 a ?_;replace h:=h _ X A;refine Calls.mono h ?_;clear h;rintro e50 w94 ⟨b56,s67,s68,he_,a,h⟩;refine ⟨b56,s67,s68,he_, ?_⟩;clear he_;obtain ⟨B1,B2,B3,B30,B33⟩:=ah5 a B1 B2 B3 B30 B33;obtain ⟨A,X,Y_⟩:=axr3 a A Y_;refine s3_t B33 fun u72 k B33=> ?_;obtain ⟨B1,B2,B3,B30⟩:=up4 k B1 B2 B3 B30;obtain ⟨A,X,Y_⟩:=axu3 k g33 A X Y_;refine s3_t B30 fun u73 k B30=> ?_;obtain ⟨B1,B2,B3,B33⟩:=up4 k B1 B2 B3 B33;obtain ⟨A,X,Y_⟩:=axu3 k g30 A X Y_;replace h:=h _ X A;refine ⟨bk2,bk3,bk33,bk30,aa,ab,ac,ad,ae,af,ag,ah,ai,aj,ak,al,b55,s65,s66,b56,s67,s68,rfl,B2,g2,rfl,B3,g3,rfl,B33,g33,rfl,B30,g30, ?_⟩;iterate 6 refine nd ?_
       exact ⟨A,h⟩
  · clear h
    intro t1 t5 t6 t7 t8 w_
    refine exE fun bk2=>exE fun bk3=>exE fun bk4=>exE fun bk5=>exE fun aa=>exE fun ab=>exE fun ac=>exE fun ad=>exE fun ae=>exE fun af=>exE fun ag=>exE fun ah=>exE fun ai=>exE fun aj=>exE fun ak=>exE fun al=>exE fun am=>exE fun an=>exE fun ao=>exE fun ap=>exE fun aq=>exE fun ar=>anE fun e_0=>anE fun B2=>anE fun g2=>anE fun e_1=>anE fun B3=>anE fun g3=>anE fun e_2=>anE fun B4=>anE fun g4=>anE fun e_3=>anE fun B5=>anE fun g5=>anE fun n2_3=>anE fun n2_4=>anE fun n2_5=>anE fun n3_4=>anE fun n3_5=>anE fun n4_5=>anE fun A=>fun bm=> ?_
    subst e_0
    subst e_1
    subst e_2
    subst e_3
    have h:=bq t1 aa ab ac ad ae af ag ah ai aj ak al am an ao ap aq ar w_ A bm
    have X:Ext w_ w_:=Ext.refl _
    refine l6_t B2 ?_;refine l6_t B3 ?_;refine Calls.mono h ?_;clear h;rintro e8 w15 ⟨b9,s9,x6,b10,s10,x7,x8,he_,a,h⟩;refine ⟨b9,s9,x6,b10,s10,x7,x8,he_, ?_⟩;clear he_;obtain ⟨B2,B3,B4,B5⟩:=ah4 a B2 B3 B4 B5;obtain ⟨A,X⟩:=axr2 a A;refine zn fun bk6 u10 hb a _ B6=> ?_;have g6:=zj A.size hb;obtain ⟨_,_,_,_⟩:=lt4 hb B2 B3 B4 B5;obtain ⟨B2,B3,B4,B5⟩:=ah4 a B2 B3 B4 B5;obtain ⟨A,X⟩:=axa2 a A X;refine s6_t B6 fun u11 k B6=> ?_;obtain ⟨B2,B3,B4,B5⟩:=up4 k B2 B3 B4 B5;obtain ⟨A,X⟩:=axu2 k g6 A X;refine l6_t B2 ?_;refine l6_t B3 ?_;replace h:=h _ X A;refine Calls.mono h ?_;clear h;rintro e9 w17 ⟨b11,s11,x9,b12,s12,x10,x11,he_,a,h⟩;refine ⟨b11,s11,x9,b12,s12,x10,x11,he_, ?_⟩;clear he_;obtain ⟨B2,B3,B4,B5,B6⟩:=ah5 a B2 B3 B4 B5 B6;obtain ⟨A,X⟩:=axr2 a A;refine zn fun bk7 u12 hb a _ B7=> ?_;have g7:=zj A.size hb;obtain ⟨_,_,_,_,_⟩:=lt5 hb B2 B3 B4 B5 B6;obtain ⟨B2,B3,B4,B5,B6⟩:=ah5 a B2 B3 B4 B5 B6;obtain ⟨A,X⟩:=axa2 a A X;refine s6_t B7 fun u13 k B7=> ?_;obtain ⟨B2,B3,B4,B5,B6⟩:=up5 k B2 B3 B4 B5 B6;obtain ⟨A,X⟩:=axu2 k g7 A X;refine l6_t B2 ?_;refine l6_t B3 ?_;replace h:=h _ X A;refine Calls.mono h ?_;clear h;rintro e10 w19 ⟨b13,s13,x12,b14,s14,x13,x14,he_,a,h⟩;refine ⟨b13,s13,x12,b14,s14,x13,x14,he_, ?_⟩;clear he_;obtain ⟨B2,B3,B4,B5,B6,B7⟩:=ah6 a B2 B3 B4 B5 B6 B7;obtain ⟨A,X⟩:=axr2 a A;refine zn fun bk8 u14 hb a _ B8=> ?_;have g8:=zj A.size hb;obtain ⟨_,_,_,_,_,_⟩:=lt6 hb B2 B3 B4 B5 B6 B7;obtain ⟨B2,B3,B4,B5,B6,B7⟩:=ah6 a B2 B3 B4 B5 B6 B7;obtain ⟨A,X⟩:=axa2 a A X;refine s6_t B8 fun u15 k B8=> ?_;obtain ⟨B2,B3,B4,B5,B6,B7⟩:=up6 k B2 B3 B4 B5 B6 B7;obtain ⟨A,X⟩:=axu2 k g8 A X;refine l6_t B2 ?_;replace h:=h _ X A;refine Calls.mono h ?_;clear h;rintro e11 w21 ⟨b15,s15,x15,b16,s16,x16,x17,he_,a,h⟩;refine ⟨b15,s15,x15,b16,s16,x16,x17,he_, ?_⟩;clear he_;obtain ⟨B2,B3,B4,B5,B6,B7,B8⟩:=ah7 a B2 B3 B4 B5 B6 B7 B8;obtain ⟨A,X⟩:=axr2 a A;refine zn fun bk9 u16 hb a _ B9=> ?_;have g9:=zj A.size hb;obtain ⟨_,_,_,_,_,_,_⟩:=lt7 hb B2 B3 B4 B5 B6 B7 B8;obtain ⟨B2,B3,B4,B5,B6,B7,B8⟩:=ah7 a B2 B3 B4 B5 B6 B7 B8;obtain ⟨A,X⟩:=axa2 a A X;refine s6_t B9 fun u17 k B9=> ?_;obtain ⟨B2,B3,B4,B5,B6,B7,B8⟩:=up7 k B2 B3 B4 B5 B6 B7 B8;obtain ⟨A,X⟩:=axu2 k g9 A X;have aK:=Sp.Ahead.drew u17;obtain ⟨B2,B3,B4,B5,B6,B7,B8,B9⟩:=ah8 aK B2 B3 B4 B5 B6 B7 B8 B9;obtain ⟨A,X⟩:=axa2 aK A X;clear aK;refine l6_t B6 ?_;refine yu B4 ?_;refine yu B5 ?_;replace h:=h _ X A;refine Calls.mono h ?_;clear h;rintro e12 w23 ⟨b17,s17,s18,he_,a,h⟩;refine ⟨b17,s17,s18,he_, ?_⟩;clear he_;obtain ⟨B2,B3,B4,B5,B6,B7,B8,B9⟩:=ah8 a B2 B3 B4 B5 B6 B7 B8 B9;obtain ⟨A,X⟩:=axr2 a A;refine ⟨a, ?_⟩;refine Calls.mono h ?_;clear h;rintro e13 w24 ⟨b18,he_,a,h⟩;refine ⟨b18,he_, ?_⟩;clear he_;obtain ⟨B2,B3,B4,B5,B6,B7,B8,B9⟩:=ah8 a B2 B3 B4 B5 B6 B7 B8 B9;obtain ⟨A,X⟩:=axr2 a A;refine ⟨a, ?_⟩;refine zv h (fun h_=> ?_) (fun h_=> ?_)
    ·replace h:=h_;clear h_;exact ⟨A,h⟩
    ·replace h:=h_;clear h_;refine l6_t B7 ?_;refine yu B4 ?_;refine yu B5 ?_;refine Calls.mono h ?_;clear h;rintro e14 w25 ⟨b19,s19,s20,he_,a,h⟩;refine ⟨b19,s19,s20,he_, ?_⟩;clear he_;obtain ⟨B2,B3,B4,B5,B6,B7,B8,B9⟩:=ah8 a B2 B3 B4 B5 B6 B7 B8 B9;obtain ⟨A,X⟩:=axr2 a A;refine ⟨a, ?_⟩;refine Calls.mono h ?_;clear h;rintro e15 w26 ⟨b20,he_,a,h⟩;refine ⟨b20,he_, ?_⟩;clear he_;obtain ⟨B2,B3,B4,B5,B6,B7,B8,B9⟩:=ah8 a B2 B3 B4 B5 B6 B7 B8 B9;obtain ⟨A,X⟩:=axr2 a A;refine ⟨a, ?_⟩;refine zv h (fun h_=> ?_) (fun h_=> ?_)
     ·replace h:=h_;clear h_;exact ⟨A,h⟩
     ·replace h:=h_;clear h_;refine l6_t B8 ?_;refine yu B4 ?_;refine yu B5 ?_;refine Calls.mono h ?_;clear h;rintro e16 w27 ⟨b21,s21,s22,he_,a,h⟩;refine ⟨b21,s21,s22,he_, ?_⟩;clear he_;obtain ⟨B2,B3,B4,B5,B6,B7,B8,B9⟩:=ah8 a B2 B3 B4 B5 B6 B7 B8 B9;obtain ⟨A,X⟩:=axr2 a A;refine ⟨a, ?_⟩;refine Calls.mono h ?_;clear h;rintro e17 w28 ⟨b22,he_,a,h⟩;refine ⟨b22,he_, ?_⟩;clear he_;obtain ⟨B2,B3,B4,B5,B6,B7,B8,B9⟩:=ah8 a B2 B3 B4 B5 B6 B7 B8 B9;obtain ⟨A,X⟩:=axr2 a A;refine ⟨a, ?_⟩;refine zv h (fun h_=> ?_) (fun h_=> ?_)
      ·replace h:=h_;clear h_;exact ⟨A,h⟩
      ·replace h:=h_;clear h_;refine l6_t B9 ?_;refine yu B4 ?_;refine yu B4 ?_;refine Calls.mono h ?_;clear h;rintro e18 w29 ⟨b23,s23,s24,he_,a,h⟩;refine ⟨b23,s23,s24,he_, ?_⟩;clear he_;obtain ⟨B2,B3,B4,B5,B6,B7,B8,B9⟩:=ah8 a B2 B3 B4 B5 B6 B7 B8 B9;obtain ⟨A,X⟩:=axr2 a A;refine ⟨a, ?_⟩;refine Calls.mono h ?_;clear h;rintro e19 w30 ⟨b24,he_,a,h⟩;refine ⟨b24,he_, ?_⟩;clear he_;obtain ⟨B2,B3,B4,B5,B6,B7,B8,B9⟩:=ah8 a B2 B3 B4 B5 B6 B7 B8 B9;obtain ⟨A,X⟩:=axr2 a A;refine ⟨a, ?_⟩;refine zv h (fun h_=> ?_) (fun h_=> ?_)
       ·replace h:=h_;clear h_;exact ⟨A,h⟩
       ·replace h:=h_;clear h_;have aK:=Sp.Ahead.drew w30;obtain ⟨B2,B3,B4,B5,B6,B7,B8,B9⟩:=ah8 aK B2 B3 B4 B5 B6 B7 B8 B9;obtain ⟨A,X⟩:=axa2 aK A X;clear aK;have z2:=B2.lt;have z3:=B3.lt;have z4:=B4.lt;have z5:=B5.lt;have z6:=B6.lt;have z7:=B7.lt;have z8:=B8.lt;have z9:=B9.lt;let V_:Nat→Nat→Prop:=fun (q_ k:Nat)=>(k<0∨w30.drew.heap.size≤k)∧0≤k;refine ⟨V_, ?_⟩;have Y_:w30.drew.heap.size≤w30.drew.heap.size:=Nat.le_refl _;refine xp (b:=bk4) (i:=0) (by first|rfl|exact Sp.zz) (fun hv_=>(by replace hv_:_∧_:=hv_;omega)) ?_;refine yu B4 ?_;refine xp (b:=bk5) (i:=0) (by first|rfl|exact Sp.zz) (fun hv_=>(by replace hv_:_∧_:=hv_;omega)) ?_;refine yu B5 ?_;refine ⟨?_, ?_⟩
        ·refine zn fun bk10 u18 hb a _ B10=> ?_;have g10:=zj A.size hb;obtain ⟨_,_,_,_,_,_,_,_⟩:=lt8 hb B2 B3 B4 B5 B6 B7 B8 B9;have y10:=zj Y_ hb;obtain ⟨B2,B3,B4,B5,B6,B7,B8,B9⟩:=ah8 a B2 B3 B4 B5 B6 B7 B8 B9;obtain ⟨A,X,Y_⟩:=axa3 a A X Y_;refine bb2 a ?_;refine zn fun bk11 u19 hb a _ B11=> ?_;have g11:=zj A.size hb;obtain ⟨_,_,_,_,_,_,_,_⟩:=lt8 hb B2 B3 B4 B5 B6 B7 B8 B9;have l10_11:=lt1 hb B10;have y11:=zj Y_ hb;obtain ⟨B2,B3,B4,B5,B6,B7,B8,B9⟩:=ah8 a B2 B3 B4 B5 B6 B7 B8 B9;replace B10:=B10.ahead a;obtain ⟨A,X,Y_⟩:=axa3 a A X Y_;refine bb2 a ?_;refine s3_t B10 fun u20 k B10=> ?_;obtain ⟨B2,B3,B4,B5,B6,B7,B8,B9⟩:=up8 k B2 B3 B4 B5 B6 B7 B8 B9;replace B11:=up1 k B11;obtain ⟨A,X,Y_⟩:=axu3 k g10 A X Y_;refine ⟨(k.bar (V:=V_ 1) (by show _∧_;omega)), ?_⟩;refine s3_t B11 fun u21 k B11=> ?_;obtain ⟨B2,B3,B4,B5,B6,B7,B8,B9⟩:=up8 k B2 B3 B4 B5 B6 B7 B8 B9;replace B10:=up1 k B10;obtain ⟨A,X,Y_⟩:=axu3 k g11 A X Y_;replace h:=h _ X A;refine ⟨bk2,bk3,bk4,bk5,bk10,bk11,aa,ab,ac,ad,ae,af,ag,ah,ai,aj,ak,al,am,an,ao,ap,aq,ar,am,an,ao,ap,aq,ar,rfl,B2,g2,rfl,B3,g3,rfl,B4,g4,rfl,B5,g5,rfl,B10,g10,rfl,B11,g11, ?_⟩;iterate 15 refine nd ?_
         exact ⟨A,h⟩
        ·refine zn fun bk16 u32 hb a _ B16=> ?_;have g16:=zj A.size hb;obtain ⟨_,_,_,_,_,_,_,_⟩:=lt8 hb B2 B3 B4 B5 B6 B7 B8 B9;have y16:=zj Y_ hb;obtain ⟨B2,B3,B4,B5,B6,B7,B8,B9⟩:=ah8 a B2 B3 B4 B5 B6 B7 B8 B9;obtain ⟨A,X,Y_⟩:=axa3 a A X Y_;refine bb2 a ?_;refine zn fun bk17 u33 hb a _ B17=> ?_;have g17:=zj A.size hb;obtain ⟨_,_,_,_,_,_,_,_⟩:=lt8 hb B2 B3 B4 B5 B6 B7 B8 B9;have l16_17:=lt1 hb B16;have y17:=zj Y_ hb;obtain ⟨B2,B3,B4,B5,B6,B7,B8,B9⟩:=ah8 a B2 B3 B4 B5 B6 B7 B8 B9;replace B16:=B16.ahead a;obtain ⟨A,X,Y_⟩:=axa3 a A X Y_;refine bb2 a ?_;refine s3_t B17 fun u34 k B17=> ?_;obtain ⟨B2,B3,B4,B5,B6,B7,B8,B9⟩:=up8 k B2 B3 B4 B5 B6 B7 B8 B9;replace B16:=up1 k B16;obtain ⟨A,X,Y_⟩:=axu3 k g17 A X Y_;refine ⟨(k.bar (V:=V_ 1) (by show _∧_;omega)), ?_⟩;refine s3_t B16 fun u35 k B16=> ?_;obtain ⟨B2,B3,B4,B5,B6,B7,B8,B9⟩:=up8 k B2 B3 B4 B5 B6 B7 B8 B9;replace B17:=up1 k B17;obtain ⟨A,X,Y_⟩:=axu3 k g16 A X Y_;replace h:=h _ X A;refine ⟨bk2,bk3,bk4,bk5,bk17,bk16,aa,ab,ac,ad,ae,af,ag,ah,ai,aj,ak,al,am,an,ao,ap,aq,ar,am,an,ao,ap,aq,ar,rfl,B2,g2,rfl,B3,g3,rfl,B4,g4,rfl,B5,g5,rfl,B17,g17,rfl,B16,g16, ?_⟩;iterate 15 refine nd ?_
         exact ⟨A,h⟩
  · clear h
    intro t1 t5 t6 t7 t8 t17 t18 w_
    refine exE fun bk2=>exE fun bk3=>exE fun bk4=>exE fun bk5=>exE fun bk10=>exE fun bk11=>exE fun aa=>exE fun ab=>exE fun ac=>exE fun ad=>exE fun ae=>exE fun af=>exE fun ag=>exE fun ah=>exE fun ai=>exE fun aj=>exE fun ak=>exE fun al=>exE fun am=>exE fun an=>exE fun ao=>exE fun ap=>exE fun aq=>exE fun ar=>exE fun aL=>exE fun aM=>exE fun aN=>exE fun aO=>exE fun aP=>exE fun aQ=>anE fun e_0=>anE fun B2=>anE fun g2=>anE fun e_1=>anE fun B3=>anE fun g3=>anE fun e_2=>anE fun B4=>anE fun g4=>anE fun e_3=>anE fun B5=>anE fun g5=>anE fun e_4=>anE fun B10=>anE fun g10=>anE fun e_5=>anE fun B11=>anE fun g11=>anE fun n2_3=>anE fun n2_4=>anE fun n2_5=>anE fun n2_10=>anE fun n2_11=>anE fun n3_4=>anE fun n3_5=>anE fun n3_10=>anE fun n3_11=>anE fun n4_5=>anE fun n4_10=>anE fun n4_11=>anE fun n5_10=>anE fun n5_11=>anE fun n10_11=>anE fun A=>fun bn=> ?_
    subst e_0
    subst e_1
    subst e_2
    subst e_3
    subst e_4
    subst e_5
    have h:=bs t1 aa ab ac ad ae af ag ah ai aj ak al am an ao ap aq ar aL aM aN aO aP aQ w_ A bn
    have X:Ext w_ w_:=Ext.refl _
    refine yu B4 ?_;refine yu B5 ?_;refine Calls.mono h ?_;clear h;rintro e20 w31 ⟨x18,he_,a,h⟩;refine ⟨x18,he_, ?_⟩;clear he_;obtain ⟨B2,B3,B4,B5,B10,B11⟩:=ah6 a B2 B3 B4 B5 B10 B11;obtain ⟨A,X⟩:=axr2 a A;refine zv h (fun h_=> ?_) (fun h_=> ?_)
    ·replace h:=h_;clear h_;have aK:=Sp.Ahead.drew w31;obtain ⟨B2,B3,B4,B5,B10,B11⟩:=ah6 aK B2 B3 B4 B5 B10 B11;obtain ⟨A,X⟩:=axa2 aK A X;clear aK;have z2:=B2.lt;have z3:=B3.lt;have z4:=B4.lt;have z5:=B5.lt;have z10:=B10.lt;have z11:=B11.lt;let V_:Nat→Nat→Prop:=fun (q_ k:Nat)=>(k=bk10∨k=bk11∨w31.drew.heap.size≤k)∧0≤k;refine ⟨V_, ?_⟩;have Y_:w31.drew.heap.size≤w31.drew.heap.size:=Nat.le_refl _;refine xp (b:=bk5) (i:=0) (by first|rfl|exact Sp.zz) (fun hv_=>(by replace hv_:_∧_:=hv_;omega)) ?_;refine yu B5 ?_;refine xp (b:=bk4) (i:=0) (by first|rfl|exact Sp.zz) (fun hv_=>(by replace hv_:_∧_:=hv_;omega)) ?_;refine yu B4 ?_;refine s3_t B10 fun u22 k B10=> ?_;obtain ⟨B2,B3,B4,B5,B11⟩:=up5 k B2 B3 B4 B5 B11;obtain ⟨A,X,Y_⟩:=axu3 k g10 A X Y_;refine ⟨(k.bar (V:=V_ 1) (by show _∧_;omega)), ?_⟩;refine s3_t B11 fun u23 k B11=> ?_;obtain ⟨B2,B3,B4,B5,B10⟩:=up5 k B2 B3 B4 B5 B10;obtain ⟨A,X,Y_⟩:=axu3 k g11 A X Y_;replace h:=h _ X A;refine ⟨bk2,bk3,bk4,bk5,bk10,bk11,aa,ab,ac,ad,ae,af,ag,ah,ai,aj,ak,al,am,an,ao,ap,aq,ar,ap,aq,ar,am,an,ao,rfl,B2,g2,rfl,B3,g3,rfl,B4,g4,rfl,B5,g5,rfl,B10,g10,rfl,B11,g11, ?_⟩;iterate 15 refine nd ?_
     exact ⟨A,h⟩
    ·replace h:=h_;clear h_;refine ⟨bk2,bk3,bk4,bk5,bk10,bk11,aa,ab,ac,ad,ae,af,ag,ah,ai,aj,ak,al,am,an,ao,ap,aq,ar,aL,aM,aN,aO,aP,aQ,rfl,B2,g2,rfl,B3,g3,rfl,B4,g4,rfl,B5,g5,rfl,B10,g10,rfl,B11,g11, ?_⟩;iterate 15 refine nd ?_
     exact ⟨A,h⟩
  · clear h
    intro t1 t5 t6 t7 t8 t17 t18 w_
    refine exE fun bk2=>exE fun bk3=>exE fun bk4=>exE fun bk5=>exE fun bk10=>exE fun bk11=>exE fun aa=>exE fun ab=>exE fun ac=>exE fun ad=>exE fun ae=>exE fun af=>exE fun ag=>exE fun ah=>exE fun ai=>exE fun aj=>exE fun ak=>exE fun al=>exE fun am=>exE fun an=>exE fun ao=>exE fun ap=>exE fun aq=>exE fun ar=>exE fun aL=>exE fun aM=>exE fun aN=>exE fun aO=>exE fun aP=>exE fun aQ=>anE fun e_0=>anE fun B2=>anE fun g2=>anE fun e_1=>anE fun B3=>anE fun g3=>anE fun e_2=>anE fun B4=>anE fun g4=>anE fun e_3=>anE fun B5=>anE fun g5=>anE fun e_4=>anE fun B10=>anE fun g10=>anE fun e_5=>anE fun B11=>anE fun g11=>anE fun n2_3=>anE fun n2_4=>anE fun n2_5=>anE fun n2_10=>anE fun n2_11=>anE fun n3_4=>anE fun n3_5=>anE fun n3_10=>anE fun n3_11=>anE fun n4_5=>anE fun n4_10=>anE fun n4_11=>anE fun n5_10=>anE fun n5_11=>anE fun n10_11=>anE fun A=>fun bo=> ?_
    subst e_0
    subst e_1
    subst e_2
    subst e_3
    subst e_4
    subst e_5
    have h:=bt t1 aa ab ac ad ae af ag ah ai aj ak al am an ao ap aq ar aL aM aN aO aP aQ w_ A bo
    have X:Ext w_ w_:=Ext.refl _
    refine l6_t B2 ?_;refine l6_t B3 ?_;refine Calls.mono h ?_;clear h;rintro e21 w32 ⟨b25,s25,x19,b26,s26,x20,x21,he_,a,h⟩;refine ⟨b25,s25,x19,b26,s26,x20,x21,he_, ?_⟩;clear he_;obtain ⟨B2,B3,B4,B5,B10,B11⟩:=ah6 a B2 B3 B4 B5 B10 B11;obtain ⟨A,X⟩:=axr2 a A;refine zn fun bk12 u24 hb a _ B12=> ?_;have g12:=zj A.size hb;obtain ⟨_,_,_,_,_,_⟩:=lt6 hb B2 B3 B4 B5 B10 B11;obtain ⟨B2,B3,B4,B5,B10,B11⟩:=ah6 a B2 B3 B4 B5 B10 B11;obtain ⟨A,X⟩:=axa2 a A X;refine s6_t B12 fun u25 k B12=> ?_;obtain ⟨B2,B3,B4,B5,B10,B11⟩:=up6 k B2 B3 B4 B5 B10 B11;obtain ⟨A,X⟩:=axu2 k g12 A X;refine l6_t B2 ?_;refine l6_t B3 ?_;replace h:=h _ X A;refine Calls.mono h ?_;clear h;rintro e22 w34 ⟨b27,s27,x22,b28,s28,x23,x24,he_,a,h⟩;refine ⟨b27,s27,x22,b28,s28,x23,x24,he_, ?_⟩;clear he_;obtain ⟨B2,B3,B4,B5,B10,B11,B12⟩:=ah7 a B2 B3 B4 B5 B10 B11 B12;obtain ⟨A,X⟩:=axr2 a A;refine zn fun bk13 u26 hb a _ B13=> ?_;have g13:=zj A.size hb;obtain ⟨_,_,_,_,_,_,_⟩:=lt7 hb B2 B3 B4 B5 B10 B11 B12;obtain ⟨B2,B3,B4,B5,B10,B11,B12⟩:=ah7 a B2 B3 B4 B5 B10 B11 B12;obtain ⟨A,X⟩:=axa2 a A X;refine s6_t B13 fun u27 k B13=> ?_;obtain ⟨B2,B3,B4,B5,B10,B11,B12⟩:=up7 k B2 B3 B4 B5 B10 B11 B12;obtain ⟨A,X⟩:=axu2 k g13 A X;refine l6_t B2 ?_;replace h:=h _ X A;refine Calls.mono h ?_;clear h;rintro e23 w36 ⟨b29,s29,x25,b30,s30,x26,x27,he_,a,h⟩;refine ⟨b29,s29,x25,b30,s30,x26,x27,he_, ?_⟩;clear he_;obtain ⟨B2,B3,B4,B5,B10,B11,B12,B13⟩:=ah8 a B2 B3 B4 B5 B10 B11 B12 B13;obtain ⟨A,X⟩:=axr2 a A;refine zn fun bk14 u28 hb a _ B14=> ?_;have g14:=zj A.size hb;obtain ⟨_,_,_,_,_,_,_,_⟩:=lt8 hb B2 B3 B4 B5 B10 B11 B12 B13;obtain ⟨B2,B3,B4,B5,B10,B11,B12,B13⟩:=ah8 a B2 B3 B4 B5 B10 B11 B12 B13;obtain ⟨A,X⟩:=axa2 a A X;refine s6_t B14 fun u29 k B14=> ?_;obtain ⟨B2,B3,B4,B5,B10,B11,B12,B13⟩:=up8 k B2 B3 B4 B5 B10 B11 B12 B13;obtain ⟨A,X⟩:=axu2 k g14 A X;have aK:=Sp.Ahead.drew u29;obtain ⟨B2,B3,B4,B5,B10,B11,B12,B13⟩:=ah8 aK B2 B3 B4 B5 B10 B11 B12 B13;replace B14:=B14.ahead aK;obtain ⟨A,X⟩:=axa2 aK A X;clear aK;refine l6_t B12 ?_;refine yu B10 ?_;replace h:=h _ X A;refine Calls.mono h ?_;clear h;rintro e24 w38 ⟨b31,he_,a,h⟩;refine ⟨b31,he_, ?_⟩;clear he_;obtain ⟨B2,B3,B4,B5,B10,B11,B12,B13⟩:=ah8 a B2 B3 B4 B5 B10 B11 B12 B13;replace B14:=B14.ahead a;obtain ⟨A,X⟩:=axr2 a A;refine ⟨a, ?_⟩;refine zv h (fun h_=> ?_) (fun h_=> ?_)
    ·replace h:=h_;clear h_;exact ⟨A,h⟩
    ·replace h:=h_;clear h_;refine l6_t B13 ?_;refine yu B11 ?_;refine Calls.mono h ?_;clear h;rintro e25 w39 ⟨b32,he_,a,h⟩;refine ⟨b32,he_, ?_⟩;clear he_;obtain ⟨B2,B3,B4,B5,B10,B11,B12,B13⟩:=ah8 a B2 B3 B4 B5 B10 B11 B12 B13;replace B14:=B14.ahead a;obtain ⟨A,X⟩:=axr2 a A;refine ⟨a, ?_⟩;refine zv h (fun h_=> ?_) (fun h_=> ?_)
     ·replace h:=h_;clear h_;exact ⟨A,h⟩
     ·replace h:=h_;clear h_;refine l6_t B14 ?_;refine yu B4 ?_;refine Calls.mono h ?_;clear h;rintro e26 w40 ⟨b33,s31,s32,he_,a,h⟩;refine ⟨b33,s31,s32,he_, ?_⟩;clear he_;obtain ⟨B2,B3,B4,B5,B10,B11,B12,B13⟩:=ah8 a B2 B3 B4 B5 B10 B11 B12 B13;replace B14:=B14.ahead a;obtain ⟨A,X⟩:=axr2 a A;refine ⟨a, ?_⟩;refine Calls.mono h ?_;clear h;rintro e27 w41 ⟨b34,he_,a,h⟩;refine ⟨b34,he_, ?_⟩;clear he_;obtain ⟨B2,B3,B4,B5,B10,B11,B12,B13⟩:=ah8 a B2 B3 B4 B5 B10 B11 B12 B13;replace B14:=B14.ahead a;obtain ⟨A,X⟩:=axr2 a A;refine ⟨a, ?_⟩;refine zv h (fun h_=> ?_) (fun h_=> ?_)
      ·replace h:=h_;clear h_;exact ⟨A,h⟩
      ·replace h:=h_;clear h_;refine l6_t B2 ?_;refine l6_t B3 ?_;refine Calls.mono h ?_;clear h;rintro e28 w42 ⟨b35,s33,x28,b36,s34,x29,x30,he_,a,h⟩;refine ⟨b35,s33,x28,b36,s34,x29,x30,he_, ?_⟩;clear he_;obtain ⟨B2,B3,B4,B5,B10,B11,B12,B13⟩:=ah8 a B2 B3 B4 B5 B10 B11 B12 B13;replace B14:=B14.ahead a;obtain ⟨A,X⟩:=axr2 a A;refine zn fun bk15 u30 hb a _ B15=> ?_;have g15:=zj A.size hb;obtain ⟨_,_,_,_,_,_,_,_⟩:=lt8 hb B2 B3 B4 B5 B10 B11 B12 B13;have l14_15:=lt1 hb B14;obtain ⟨B2,B3,B4,B5,B10,B11,B12,B13⟩:=ah8 a B2 B3 B4 B5 B10 B11 B12 B13;replace B14:=B14.ahead a;obtain ⟨A,X⟩:=axa2 a A X;refine s6_t B15 fun u31 k B15=> ?_;obtain ⟨B2,B3,B4,B5,B10,B11,B12,B13⟩:=up8 k B2 B3 B4 B5 B10 B11 B12 B13;replace B14:=up1 k B14;obtain ⟨A,X⟩:=axu2 k g15 A X;refine zv h (fun h_=> ?_) (fun h_=> ?_)
       ·replace h:=h_;clear h_;refine v9 B3 ?_;replace h:=h _ X A;refine Calls.mono h ?_;clear h;rintro e29 w44 ⟨b37,s35,s36,he_,a,h⟩;refine ⟨b37,s35,s36,he_, ?_⟩;clear he_;obtain ⟨B2,B3,B4,B5,B10,B11,B12,B13⟩:=ah8 a B2 B3 B4 B5 B10 B11 B12 B13;obtain ⟨B14,B15⟩:=ah2 a B14 B15;obtain ⟨A,X⟩:=axr2 a A;refine Calls.mono h ?_;clear h;rintro e30 w45 ⟨x31,he_,a,h⟩;refine ⟨x31,he_, ?_⟩;clear he_;obtain ⟨B2,B3,B4,B5,B10,B11,B12,B13⟩:=ah8 a B2 B3 B4 B5 B10 B11 B12 B13;obtain ⟨B14,B15⟩:=ah2 a B14 B15;obtain ⟨A,X⟩:=axr2 a A;refine zv h (fun h_=> ?_) (fun h_=> ?_)
        ·replace h:=h_;clear h_;refine ut B3 ?_;refine Calls.mono h ?_;clear h;rintro e31 w46 ⟨b38,s37,s38,he_,a,h⟩;refine ⟨b38,s37,s38,he_, ?_⟩;clear he_;obtain ⟨B2,B3,B4,B5,B10,B11,B12,B13⟩:=ah8 a B2 B3 B4 B5 B10 B11 B12 B13;obtain ⟨B14,B15⟩:=ah2 a B14 B15;obtain ⟨A,X⟩:=axr2 a A;refine Calls.mono h ?_;clear h;rintro e32 w47 ⟨x32,he_,a,h⟩;refine ⟨x32,he_, ?_⟩;clear he_;obtain ⟨B2,B3,B4,B5,B10,B11,B12,B13⟩:=ah8 a B2 B3 B4 B5 B10 B11 B12 B13;obtain ⟨B14,B15⟩:=ah2 a B14 B15;obtain ⟨A,X⟩:=axr2 a A;refine zv h (fun h_=> ?_) (fun h_=> ?_)
         ·replace h:=h_;clear h_;refine Calls.mono h ?_;clear h;rintro e33 w48 ⟨b39,he_,a,h⟩;refine ⟨b39,he_, ?_⟩;clear he_;obtain ⟨B2,B3,B4,B5,B10,B11,B12,B13⟩:=ah8 a B2 B3 B4 B5 B10 B11 B12 B13;obtain ⟨B14,B15⟩:=ah2 a B14 B15;obtain ⟨A,X⟩:=axr2 a A;exact ⟨A,h⟩
         ·replace h:=h_;clear h_;exact ⟨A,h⟩
        ·replace h:=h_;clear h_;exact ⟨A,h⟩
       ·replace h:=h_;clear h_;have aK:=Sp.Ahead.drew u31;obtain ⟨B2,B3,B4,B5,B10,B11,B12,B13⟩:=ah8 aK B2 B3 B4 B5 B10 B11 B12 B13;obtain ⟨B14,B15⟩:=ah2 aK B14 B15;obtain ⟨A,X⟩:=axa2 aK A X;clear aK;refine l6_t B15 ?_;refine yu B4 ?_;refine yu B5 ?_;replace h:=h _ X A;refine Calls.mono h ?_;clear h;rintro e34 w50 ⟨b40,s39,s40,he_,a,h⟩;refine ⟨b40,s39,s40,he_, ?_⟩;clear he_;obtain ⟨B2,B3,B4,B5,B10,B11,B12,B13⟩:=ah8 a B2 B3 B4 B5 B10 B11 B12 B13;obtain ⟨B14,B15⟩:=ah2 a B14 B15;obtain ⟨A,X⟩:=axr2 a A;refine ⟨a, ?_⟩;refine Calls.mono h ?_;clear h;rintro e35 w51 ⟨b41,he_,a,h⟩;refine ⟨b41,he_, ?_⟩;clear he_;obtain ⟨B2,B3,B4,B5,B10,B11,B12,B13⟩:=ah8 a B2 B3 B4 B5 B10 B11 B12 B13;obtain ⟨B14,B15⟩:=ah2 a B14 B15;obtain ⟨A,X⟩:=axr2 a A;refine ⟨a, ?_⟩;refine zv h (fun h_=> ?_) (fun h_=> ?_)
        ·replace h:=h_;clear h_;refine Calls.mono h ?_;clear h;rintro e36 w52 ⟨b42,he_,a,h⟩;refine ⟨b42,he_, ?_⟩;clear he_;obtain ⟨B2,B3,B4,B5,B10,B11,B12,B13⟩:=ah8 a B2 B3 B4 B5 B10 B11 B12 B13;obtain ⟨B14,B15⟩:=ah2 a B14 B15;obtain ⟨A,X⟩:=axr2 a A;refine ⟨a, ?_⟩;exact ⟨A,h⟩
        ·replace h:=h_;clear h_;exact ⟨A,h⟩
theorem Vp (aa:Bool) (ab:Slc) (ac:Int) (ad:Bool) (ae:Slc) (af:Int) (w:World) (R:Ending→World→Prop) (h:xw w w fun w1=>(kD 7 #[uD aa ab ac] w1 fun w2 b1 s1 x1=>Ahead w1 w2∧(kD 7 #[uD ad ae af] w2 fun w3 b2 s2 x2=>Ahead w2 w3∧(xw w w3 fun w4=>(kT 59 #[uD b1 s1 x1,uD b2 s2 x2] w4 fun w5 x3 x4=>Ahead w4 w5∧(br (decide (x3>0)) (xw w w5 fun w6=>(R (.returned (uS b2 s2 x2 b1 s1 x1)) w6)) (xw w w5 fun w7=>(R (.returned (uS b1 s1 x1 b2 s2 x2)) w7)))))))):Calls pr 21 #[uS aa ab ac ad ae af] w (fun e_ w_=>Ahead w w_∧R e_ w_):=by
 refine Vq aa ab ac ad ae af w _ ?_
 ·have A:Ahead w w:=Ahead.refl w
  have X:Ext w w:=Ext.refl w
  refine zn fun bk1 u1 hb a _ B1=> ?_;have g1:=zj A.size hb;obtain ⟨A,X⟩:=axa2 a A X;refine zn fun bk2 u2 hb a _ B2=> ?_;have g2:=zj A.size hb;have l1_2:=lt1 hb B1;replace B1:=B1.ahead a;obtain ⟨A,X⟩:=axa2 a A X;have ag:=Sp.Ahead.drew u2;obtain ⟨B1,B2⟩:=ah2 ag B1 B2;obtain ⟨A,X⟩:=axa2 ag A X;clear ag;have z1:=B1.lt;have z2:=B2.lt;let V_:Nat→Nat→Prop:=fun (q_ k:Nat)=>(k=bk1∨u2.drew.heap.size≤k)∧((q_=1∨q_=4)→k≠bk1);refine ⟨V_, ?_⟩;have Y_:u2.drew.heap.size≤u2.drew.heap.size:=Nat.le_refl _;refine xp (b:=bk1) (i:=0) (by first|rfl|exact Sp.zz) (fun hv_=>(by replace hv_:_∧_:=hv_;omega)) ?_;refine v9 B1 ?_;refine xp (b:=bk1) (i:=3) (by first|rfl|exact Sp.zz) (fun hv_=>(by replace hv_:_∧_:=hv_;omega)) ?_;refine ut B1 ?_;replace h:=h _ X A;refine Calls.mono h ?_;clear h;rintro e1 w2 ⟨b1,s1,x1,he_,a,h⟩;refine ⟨b1,s1,x1,he_, ?_⟩;clear he_;obtain ⟨B1,B2⟩:=ah2 a B1 B2;obtain ⟨A,X,Y_⟩:=axr3 a A Y_;refine ⟨(Bar.of_ahead a), ?_⟩;refine Calls.mono h ?_;clear h;rintro e2 w3 ⟨b2,s2,x2,he_,a,h⟩;refine ⟨b2,s2,x2,he_, ?_⟩;clear he_;obtain ⟨B1,B2⟩:=ah2 a B1 B2;obtain ⟨A,X,Y_⟩:=axr3 a A Y_;refine Uz B1 fun u3 k B1=> ?_;replace B2:=up1 k B2;obtain ⟨A,X,Y_⟩:=axu3 k g1 A X Y_;refine U0 B1 fun u4 k B1=> ?_;replace B2:=up1 k B2;obtain ⟨A,X,Y_⟩:=axu3 k g1 A X Y_;refine v9 B1 ?_;refine ut B1 ?_;replace h:=h _ X A;refine Calls.mono h ?_;clear h;rintro e3 w5 ⟨x3,x4,he_,a,h⟩;refine ⟨x3,x4,he_, ?_⟩;clear he_;obtain ⟨B1,B2⟩:=ah2 a B1 B2;obtain ⟨A,X⟩:=axr2 a A;refine zv h (fun h_=> ?_) (fun h_=> ?_)
  ·replace h:=h_;clear h_;refine ut B1 ?_;refine v9 B1 ?_;refine Uz B1 fun u5 k B1=> ?_;replace B2:=up1 k B2;obtain ⟨A,X⟩:=axu2 k g1 A X;refine U0 B1 fun u6 k B1=> ?_;replace B2:=up1 k B2;obtain ⟨A,X⟩:=axu2 k g1 A X;refine l6_t B1 ?_;refine s6_t B2 fun u7 k B2=> ?_;replace B1:=up1 k B1;obtain ⟨A,X⟩:=axu2 k g2 A X;refine l6_t B2 ?_;replace h:=h _ X A;exact ⟨A,h⟩
  ·replace h:=h_;clear h_;refine l6_t B1 ?_;refine s6_t B2 fun u8 k B2=> ?_;replace B1:=up1 k B1;obtain ⟨A,X⟩:=axu2 k g2 A X;refine l6_t B2 ?_;replace h:=h _ X A;exact ⟨A,h⟩
theorem Yq (ak:Bool) (al:Slc) (am:Int) (an:Bool) (ao:Slc) (ap:Int) (ax:Int) (w:World) (R:Ending→World→Prop) (K3:Int→Bool→Slc→Slc→Bool→Slc→Slc→Bool→Slc→Slc→World→Prop) (h:xw w w fun w1=>(kR 9 #[uD ak al am] w1 fun w2 b1 s1 s2=>Ahead w1 w2∧(xw w w2 fun w3=>(kR 9 #[uD an ao ap] w3 fun w4 b2 s3 s4=>Ahead w3 w4∧(xw w w4 fun w14=>(K3 ax false nSl nSl b1 s1 s2 b2 s3 s4 w14)))))) (ay:∀ag ah ai aj aa ab ac ad ae af w_,Ahead w w_→K3 ag ah ai aj aa ab ac ad ae af w_→xw w w_ fun w5=>(kR 20 #[uR ad ae af,uR aa ab ac] w5 fun w6 b3 s5 s6=>Ahead w5 w6∧(kI 8 #[vi ag,vi 0,vi 1000] w6 fun w7 x1=>Ahead w6 w7∧(kR 16 #[vi x1] w7 fun w8 b4 s7 s8=>Ahead w7 w8∧(kR 16 #[vi 1000] w8 fun w9 b5 s9 s10=>Ahead w8 w9∧(kR 12 #[uR b4 s7 s8,uR b5 s9 s10] w9 fun w10 b6 s11 s12=>Ahead w9 w10∧(kR 19 #[uR b3 s5 s6,uR b6 s11 s12] w10 fun w11 b7 s13 s14=>Ahead w10 w11∧(kR 28 #[uR aa ab ac,uR b7 s13 s14] w11 fun w12 b8 s15 s16=>Ahead w11 w12∧(xw w w12 fun w13=>(R (.returned (uR b8 s15 s16)) w13)))))))))):Calls pr 22 #[uS ak al am an ao ap,vi ax] w (fun e_ w_=>Ahead w w_∧R e_ w_):=by
  refine Yr ak al am an ao ap ax w _ (fun ag t4 az aA w_=>∃ar:Nat,∃au:Nat,∃av:Nat,∃ah:Bool,∃ai:Slc,∃aj:Slc,∃aa:Bool,∃ab:Slc,∃ac:Slc,∃ad:Bool,∃ae:Slc,∃af:Slc,t4=⟨ar,0,none⟩∧Blt w_ ar 34 #[Value.bool ah,ai.v,aj.v]∧w.heap.size≤ar∧az=⟨au,0,none⟩∧Blt w_ au 34 #[Value.bool aa,ab.v,ac.v]∧w.heap.size≤au∧aA=⟨av,0,none⟩∧Blt w_ av 34 #[Value.bool ad,ae.v,af.v]∧w.heap.size≤av∧ar≠au∧ar≠av∧au≠av∧Ahead w w_∧K3 ag ah ai aj aa ab ac ad ae af w_) ?_ ?_
  · have A:Ahead w w:=Ahead.refl w
    have X:Ext w w:=Ext.refl w
    refine zn fun bk1 u1 hb a _ B1=> ?_;have g1:=zj A.size hb;obtain ⟨A,X⟩:=axa2 a A X;refine zn fun bk2 u2 hb a _ B2=> ?_;have g2:=zj A.size hb;have l1_2:=lt1 hb B1;replace B1:=B1.ahead a;obtain ⟨A,X⟩:=axa2 a A X;have aq:=Sp.Ahead.drew u2;obtain ⟨B1,B2⟩:=ah2 aq B1 B2;obtain ⟨A,X⟩:=axa2 aq A X;clear aq;have z1:=B1.lt;have z2:=B2.lt;let V_:Nat→Nat→Prop:=fun (q_ k:Nat)=>(k<0∨u2.drew.heap.size≤k)∧0≤k;refine ⟨V_, ?_⟩;have Y_:u2.drew.heap.size≤u2.drew.heap.size:=Nat.le_refl _;refine xp (b:=bk1) (i:=0) (by first|rfl|exact Sp.zz) (fun hv_=>(by replace hv_:_∧_:=hv_;omega)) ?_;refine v9 B1 ?_;refine xp (b:=bk1) (i:=3) (by first|rfl|exact Sp.zz) (fun hv_=>(by replace hv_:_∧_:=hv_;omega)) ?_;refine ut B1 ?_;refine ⟨?_, ?_⟩
    ·replace h:=h _ X A;refine Calls.mono h ?_;clear h;rintro e1 w2 ⟨b1,s1,s2,he_,a,h⟩;refine ⟨b1,s1,s2,he_, ?_⟩;clear he_;obtain ⟨B1,B2⟩:=ah2 a B1 B2;obtain ⟨A,X,Y_⟩:=axr3 a A Y_;refine ⟨(Bar.of_ahead a), ?_⟩;refine ⟨?_, ?_⟩
     ·replace h:=h _ X A;refine Calls.mono h ?_;clear h;rintro e2 w4 ⟨b2,s3,s4,he_,a,h⟩;refine ⟨b2,s3,s4,he_, ?_⟩;clear he_;obtain ⟨B1,B2⟩:=ah2 a B1 B2;obtain ⟨A,X,Y_⟩:=axr3 a A Y_;refine ⟨?_, ?_⟩
      ·refine zn fun bk3 u3 hb a _ B3=> ?_;have g3:=zj A.size hb;obtain ⟨_,_⟩:=lt2 hb B1 B2;have y3:=zj Y_ hb;obtain ⟨B1,B2⟩:=ah2 a B1 B2;obtain ⟨A,X,Y_⟩:=axa3 a A X Y_;refine bb2 a ?_;refine zn fun bk4 u4 hb a _ B4=> ?_;have g4:=zj A.size hb;obtain ⟨_,_,_⟩:=lt3 hb B1 B2 B3;have y4:=zj Y_ hb;obtain ⟨B1,B2,B3⟩:=ah3 a B1 B2 B3;obtain ⟨A,X,Y_⟩:=axa3 a A X Y_;refine bb2 a ?_;refine s3_t B3 fun u5 k B3=> ?_;obtain ⟨B1,B2,B4⟩:=up3 k B1 B2 B4;obtain ⟨A,X,Y_⟩:=axu3 k g3 A X Y_;refine s3_t B4 fun u6 k B4=> ?_;obtain ⟨B1,B2,B3⟩:=up3 k B1 B2 B3;obtain ⟨A,X,Y_⟩:=axu3 k g4 A X Y_;replace h:=h _ X A;exact ⟨bk2,bk3,bk4,false,(⟨none,0,0⟩:Slc),(⟨none,0,0⟩:Slc),b1,s1,s2,b2,s3,s4,rfl,B2,g2,rfl,B3,g3,rfl,B4,g4,(by omega),(by omega),(by omega),A,h⟩
      ·refine zn fun bk5 u8 hb a _ B5=> ?_;have g5:=zj A.size hb;obtain ⟨_,_⟩:=lt2 hb B1 B2;have y5:=zj Y_ hb;obtain ⟨B1,B2⟩:=ah2 a B1 B2;obtain ⟨A,X,Y_⟩:=axa3 a A X Y_;refine bb2 a ?_;refine zn fun bk6 u9 hb a _ B6=> ?_;have g6:=zj A.size hb;obtain ⟨_,_,_⟩:=lt3 hb B1 B2 B5;have y6:=zj Y_ hb;obtain ⟨B1,B2,B5⟩:=ah3 a B1 B2 B5;obtain ⟨A,X,Y_⟩:=axa3 a A X Y_;refine bb2 a ?_;refine s3_t B6 fun u10 k B6=> ?_;obtain ⟨B1,B2,B5⟩:=up3 k B1 B2 B5;obtain ⟨A,X,Y_⟩:=axu3 k g6 A X Y_;refine s3_t B5 fun u11 k B5=> ?_;obtain ⟨B1,B2,B6⟩:=up3 k B1 B2 B6;obtain ⟨A,X,Y_⟩:=axu3 k g5 A X Y_;replace h:=h _ X A;exact ⟨bk2,bk6,bk5,false,(⟨none,0,0⟩:Slc),(⟨none,0,0⟩:Slc),b1,s1,s2,b2,s3,s4,rfl,B2,g2,rfl,B6,g6,rfl,B5,g5,(by omega),(by omega),(by omega),A,h⟩
     ·refine ⟨?_, ?_⟩
      ·refine zn fun bk7 u12 hb a _ B7=> ?_;have g7:=zj A.size hb;obtain ⟨_,_⟩:=lt2 hb B1 B2;have y7:=zj Y_ hb;obtain ⟨B1,B2⟩:=ah2 a B1 B2;obtain ⟨A,X,Y_⟩:=axa3 a A X Y_;refine bb2 a ?_;refine ⟨?_, ?_⟩
       ·replace h:=h _ X A;refine Calls.mono h ?_;clear h;rintro e10 w17 ⟨b9,s17,s18,he_,a,h⟩;refine ⟨b9,s17,s18,he_, ?_⟩;clear he_;obtain ⟨B1,B2,B7⟩:=ah3 a B1 B2 B7;obtain ⟨A,X,Y_⟩:=axr3 a A Y_;refine zn fun bk8 u13 hb a _ B8=> ?_;have g8:=zj A.size hb;obtain ⟨_,_,_⟩:=lt3 hb B1 B2 B7;have y8:=zj Y_ hb;obtain ⟨B1,B2,B7⟩:=ah3 a B1 B2 B7;obtain ⟨A,X,Y_⟩:=axa3 a A X Y_;refine bb2 a ?_;refine s3_t B7 fun u14 k B7=> ?_;obtain ⟨B1,B2,B8⟩:=up3 k B1 B2 B8;obtain ⟨A,X,Y_⟩:=axu3 k g7 A X Y_;refine s3_t B8 fun u15 k B8=> ?_;obtain ⟨B1,B2,B7⟩:=up3 k B1 B2 B7;obtain ⟨A,X,Y_⟩:=axu3 k g8 A X Y_;replace h:=h _ X A;exact ⟨bk2,bk7,bk8,false,(⟨none,0,0⟩:Slc),(⟨none,0,0⟩:Slc),b1,s1,s2,b9,s17,s18,rfl,B2,g2,rfl,B7,g7,rfl,B8,g8,(by omega),(by omega),(by omega),A,h⟩
       ·refine zn fun bk9 u16 hb a _ B9=> ?_;have g9:=zj A.size hb;obtain ⟨_,_,_⟩:=lt3 hb B1 B2 B7;have y9:=zj Y_ hb;obtain ⟨B1,B2,B7⟩:=ah3 a B1 B2 B7;obtain ⟨A,X,Y_⟩:=axa3 a A X Y_;refine bb2 a ?_;replace h:=h _ X A;refine Calls.mono h ?_;clear h;rintro e11 w20 ⟨b10,s19,s20,he_,a,h⟩;refine ⟨b10,s19,s20,he_, ?_⟩;clear he_;obtain ⟨B1,B2,B7,B9⟩:=ah4 a B1 B2 B7 B9;obtain ⟨A,X,Y_⟩:=axr3 a A Y_;refine s3_t B7 fun u17 k B7=> ?_;obtain ⟨B1,B2,B9⟩:=up3 k B1 B2 B9;obtain ⟨A,X,Y_⟩:=axu3 k g7 A X Y_;refine s3_t B9 fun u18 k B9=> ?_;obtain ⟨B1,B2,B7⟩:=up3 k B1 B2 B7;obtain ⟨A,X,Y_⟩:=axu3 k g9 A X Y_;replace h:=h _ X A;exact ⟨bk2,bk7,bk9,false,(⟨none,0,0⟩:Slc),(⟨none,0,0⟩:Slc),b1,s1,s2,b10,s19,s20,rfl,B2,g2,rfl,B7,g7,rfl,B9,g9,(by omega),(by omega),(by omega),A,h⟩
      ·refine zn fun bk10 u19 hb a _ B10=> ?_;have g10:=zj A.size hb;obtain ⟨_,_⟩:=lt2 hb B1 B2;have y10:=zj Y_ hb;obtain ⟨B1,B2⟩:=ah2 a B1 B2;obtain ⟨A,X,Y_⟩:=axa3 a A X Y_;refine bb2 a ?_;refine ⟨?_, ?_⟩
       ·replace h:=h _ X A;refine Calls.mono h ?_;clear h;rintro e12 w23 ⟨b11,s21,s22,he_,a,h⟩;refine ⟨b11,s21,s22,he_, ?_⟩;clear he_;obtain ⟨B1,B2,B10⟩:=ah3 a B1 B2 B10;obtain ⟨A,X,Y_⟩:=axr3 a A Y_;refine zn fun bk11 u20 hb a _ B11=> ?_;have g11:=zj A.size hb;obtain ⟨_,_,_⟩:=lt3 hb B1 B2 B10;have y11:=zj Y_ hb;obtain ⟨B1,B2,B10⟩:=ah3 a B1 B2 B10;obtain ⟨A,X,Y_⟩:=axa3 a A X Y_;refine bb2 a ?_;refine s3_t B11 fun u21 k B11=> ?_;obtain ⟨B1,B2,B10⟩:=up3 k B1 B2 B10;obtain ⟨A,X,Y_⟩:=axu3 k g11 A X Y_;refine s3_t B10 fun u22 k B10=> ?_;obtain ⟨B1,B2,B11⟩:=up3 k B1 B2 B11;obtain ⟨A,X,Y_⟩:=axu3 k g10 A X Y_;replace h:=h _ X A;exact ⟨bk2,bk11,bk10,false,(⟨none,0,0⟩:Slc),(⟨none,0,0⟩:Slc),b1,s1,s2,b11,s21,s22,rfl,B2,g2,rfl,B11,g11,rfl,B10,g10,(by omega),(by omega),(by omega),A,h⟩
       ·refine zn fun bk12 u23 hb a _ B12=> ?_;have g12:=zj A.size hb;obtain ⟨_,_,_⟩:=lt3 hb B1 B2 B10;have y12:=zj Y_ hb;obtain ⟨B1,B2,B10⟩:=ah3 a B1 B2 B10;obtain ⟨A,X,Y_⟩:=axa3 a A X Y_;refine bb2 a ?_;replace h:=h _ X A;refine Calls.mono h ?_;clear h;rintro e13 w26 ⟨b12,s23,s24,he_,a,h⟩;refine ⟨b12,s23,s24,he_, ?_⟩;clear he_;obtain ⟨B1,B2,B10,B12⟩:=ah4 a B1 B2 B10 B12;obtain ⟨A,X,Y_⟩:=axr3 a A Y_;refine s3_t B12 fun u24 k B12=> ?_;obtain ⟨B1,B2,B10⟩:=up3 k B1 B2 B10;obtain ⟨A,X,Y_⟩:=axu3 k g12 A X Y_;refine s3_t B10 fun u25 k B10=> ?_;obtain ⟨B1,B2,B12⟩:=up3 k B1 B2 B12;obtain ⟨A,X,Y_⟩:=axu3 k g10 A X Y_;replace h:=h _ X A;exact ⟨bk2,bk12,bk10,false,(⟨none,0,0⟩:Slc),(⟨none,0,0⟩:Slc),b1,s1,s2,b12,s23,s24,rfl,B2,g2,rfl,B12,g12,rfl,B10,g10,(by omega),(by omega),(by omega),A,h⟩
    ·refine ⟨?_, ?_⟩
     ·refine zn fun bk13 u26 hb a _ B13=> ?_;have g13:=zj A.size hb;obtain ⟨_,_⟩:=lt2 hb B1 B2;have y13:=zj Y_ hb;obtain ⟨B1,B2⟩:=ah2 a B1 B2;obtain ⟨A,X,Y_⟩:=axa3 a A X Y_;refine bb2 a ?_;refine ⟨?_, ?_⟩
      ·replace h:=h _ X A;refine Calls.mono h ?_;clear h;rintro e14 w29 ⟨b13,s25,s26,he_,a,h⟩;refine ⟨b13,s25,s26,he_, ?_⟩;clear he_;obtain ⟨B1,B2,B13⟩:=ah3 a B1 B2 B13;obtain ⟨A,X,Y_⟩:=axr3 a A Y_;refine ⟨(Bar.of_ahead a), ?_⟩;refine ⟨?_, ?_⟩
       ·replace h:=h _ X A;refine Calls.mono h ?_;clear h;rintro e15 w31 ⟨b14,s27,s28,he_,a,h⟩;refine ⟨b14,s27,s28,he_, ?_⟩;clear he_;obtain ⟨B1,B2,B13⟩:=ah3 a B1 B2 B13;obtain ⟨A,X,Y_⟩:=axr3 a A Y_;refine zn fun bk14 u27 hb a _ B14=> ?_;have g14:=zj A.size hb;obtain ⟨_,_,_⟩:=lt3 hb B1 B2 B13;have y14:=zj Y_ hb;obtain ⟨B1,B2,B13⟩:=ah3 a B1 B2 B13;obtain ⟨A,X,Y_⟩:=axa3 a A X Y_;refine bb2 a ?_;refine s3_t B13 fun u28 k B13=> ?_;obtain ⟨B1,B2,B14⟩:=up3 k B1 B2 B14;obtain ⟨A,X,Y_⟩:=axu3 k g13 A X Y_;refine s3_t B14 fun u29 k B14=> ?_;obtain ⟨B1,B2,B13⟩:=up3 k B1 B2 B13;obtain ⟨A,X,Y_⟩:=axu3 k g14 A X Y_;replace h:=h _ X A;exact ⟨bk2,bk13,bk14,false,(⟨none,0,0⟩:Slc),(⟨none,0,0⟩:Slc),b13,s25,s26,b14,s27,s28,rfl,B2,g2,rfl,B13,g13,rfl,B14,g14,(by omega),(by omega),(by omega),A,h⟩
       ·refine zn fun bk15 u30 hb a _ B15=> ?_;have g15:=zj A.size hb;obtain ⟨_,_,_⟩:=lt3 hb B1 B2 B13;have y15:=zj Y_ hb;obtain ⟨B1,B2,B13⟩:=ah3 a B1 B2 B13;obtain ⟨A,X,Y_⟩:=axa3 a A X Y_;refine bb2 a ?_;replace h:=h _ X A;refine Calls.mono h ?_;clear h;rintro e16 w34 ⟨b15,s29,s30,he_,a,h⟩;refine ⟨b15,s29,s30,he_, ?_⟩;clear he_;obtain ⟨B1,B2,B13,B15⟩:=ah4 a B1 B2 B13 B15;obtain ⟨A,X,Y_⟩:=axr3 a A Y_;refine s3_t B13 fun u31 k B13=> ?_;obtain ⟨B1,B2,B15⟩:=up3 k B1 B2 B15;obtain ⟨A,X,Y_⟩:=axu3 k g13 A X Y_;refine s3_t B15 fun u32 k B15=> ?_;obtain ⟨B1,B2,B13⟩:=up3 k B1 B2 B13;obtain ⟨A,X,Y_⟩:=axu3 k g15 A X Y_;replace h:=h _ X A;exact ⟨bk2,bk13,bk15,false,(⟨none,0,0⟩:Slc),(⟨none,0,0⟩:Slc),b13,s25,s26,b15,s29,s30,rfl,B2,g2,rfl,B13,g13,rfl,B15,g15,(by omega),(by omega),(by omega),A,h⟩
      ·refine zn fun bk16 u33 hb a _ B16=> ?_;have g16:=zj A.size hb;obtain ⟨_,_,_⟩:=lt3 hb B1 B2 B13;have y16:=zj Y_ hb;obtain ⟨B1,B2,B13⟩:=ah3 a B1 B2 B13;obtain ⟨A,X,Y_⟩:=axa3 a A X Y_;refine bb2 a ?_;replace h:=h _ X A;refine Calls.mono h ?_;clear h;rintro e17 w37 ⟨b16,s31,s32,he_,a,h⟩;refine ⟨b16,s31,s32,he_, ?_⟩;clear he_;obtain ⟨B1,B2,B13,B16⟩:=ah4 a B1 B2 B13 B16;obtain ⟨A,X,Y_⟩:=axr3 a A Y_;refine ⟨(Bar.of_ahead a), ?_⟩;replace h:=h _ X A;refine Calls.mono h ?_;clear h;rintro e18 w39 ⟨b17,s33,s34,he_,a,h⟩;refine ⟨b17,s33,s34,he_, ?_⟩;clear he_;obtain ⟨B1,B2,B13,B16⟩:=ah4 a B1 B2 B13 B16;obtain ⟨A,X,Y_⟩:=axr3 a A Y_;refine s3_t B13 fun u34 k B13=> ?_;obtain ⟨B1,B2,B16⟩:=up3 k B1 B2 B16;obtain ⟨A,X,Y_⟩:=axu3 k g13 A X Y_;refine s3_t B16 fun u35 k B16=> ?_;obtain ⟨B1,B2,B13⟩:=up3 k B1 B2 B13;obtain ⟨A,X,Y_⟩:=axu3 k g16 A X Y_;replace h:=h _ X A;exact ⟨bk2,bk13,bk16,false,(⟨none,0,0⟩:Slc),(⟨none,0,0⟩:Slc),b16,s31,s32,b17,s33,s34,rfl,B2,g2,rfl,B13,g13,rfl,B16,g16,(by omega),(by omega),(by omega),A,h⟩
     ·refine zn fun bk17 u36 hb a _ B17=> ?_;have g17:=zj A.size hb;obtain ⟨_,_⟩:=lt2 hb B1 B2;have y17:=zj Y_ hb;obtain ⟨B1,B2⟩:=ah2 a B1 B2;obtain ⟨A,X,Y_⟩:=axa3 a A X Y_;refine bb2 a ?_;refine ⟨?_, ?_⟩
      ·replace h:=h _ X A;refine Calls.mono h ?_;clear h;rintro e19 w42 ⟨b18,s35,s36,he_,a,h⟩;refine ⟨b18,s35,s36,he_, ?_⟩;clear he_;obtain ⟨B1,B2,B17⟩:=ah3 a B1 B2 B17;obtain ⟨A,X,Y_⟩:=axr3 a A Y_;refine ⟨(Bar.of_ahead a), ?_⟩;refine ⟨?_, ?_⟩
       ·replace h:=h _ X A;refine Calls.mono h ?_;clear h;rintro e20 w44 ⟨b19,s37,s38,he_,a,h⟩;refine ⟨b19,s37,s38,he_, ?_⟩;clear he_;obtain ⟨B1,B2,B17⟩:=ah3 a B1 B2 B17;obtain ⟨A,X,Y_⟩:=axr3 a A Y_;refine zn fun bk18 u37 hb a _ B18=> ?_;have g18:=zj A.size hb;obtain ⟨_,_,_⟩:=lt3 hb B1 B2 B17;have y18:=zj Y_ hb;obtain ⟨B1,B2,B17⟩:=ah3 a B1 B2 B17;obtain ⟨A,X,Y_⟩:=axa3 a A X Y_;refine bb2 a ?_;refine s3_t B18 fun u38 k B18=> ?_;obtain ⟨B1,B2,B17⟩:=up3 k B1 B2 B17;obtain ⟨A,X,Y_⟩:=axu3 k g18 A X Y_;refine s3_t B17 fun u39 k B17=> ?_;obtain ⟨B1,B2,B18⟩:=up3 k B1 B2 B18;obtain ⟨A,X,Y_⟩:=axu3 k g17 A X Y_;replace h:=h _ X A;exact ⟨bk2,bk18,bk17,false,(⟨none,0,0⟩:Slc),(⟨none,0,0⟩:Slc),b18,s35,s36,b19,s37,s38,rfl,B2,g2,rfl,B18,g18,rfl,B17,g17,(by omega),(by omega),(by omega),A,h⟩
       ·refine zn fun bk19 u40 hb a _ B19=> ?_;have g19:=zj A.size hb;obtain ⟨_,_,_⟩:=lt3 hb B1 B2 B17;have y19:=zj Y_ hb;obtain ⟨B1,B2,B17⟩:=ah3 a B1 B2 B17;obtain ⟨A,X,Y_⟩:=axa3 a A X Y_;refine bb2 a ?_;replace h:=h _ X A;refine Calls.mono h ?_;clear h;rintro e21 w47 ⟨b20,s39,s40,he_,a,h⟩;refine ⟨b20,s39,s40,he_, ?_⟩;clear he_;obtain ⟨B1,B2,B17,B19⟩:=ah4 a B1 B2 B17 B19;obtain ⟨A,X,Y_⟩:=axr3 a A Y_;refine s3_t B19 fun u41 k B19=> ?_;obtain ⟨B1,B2,B17⟩:=up3 k B1 B2 B17;obtain ⟨A,X,Y_⟩:=axu3 k g19 A X Y_;refine s3_t B17 fun u42 k B17=> ?_;obtain ⟨B1,B2,B19⟩:=up3 k B1 B2 B19;obtain ⟨A,X,Y_⟩:=axu3 k g17 A X Y_;replace h:=h _ X A;exact ⟨bk2,bk19,bk17,false,(⟨none,0,0⟩:Slc),(⟨none,0,0⟩:Slc),b18,s35,s36,b20,s39,s40,rfl,B2,g2,rfl,B19,g19,rfl,B17,g17,(by omega),(by omega),(by omega),A,h⟩
      ·refine zn fun bk20 u43 hb a _ B20=> ?_;have g20:=zj A.size hb;obtain ⟨_,_,_⟩:=lt3 hb B1 B2 B17;have y20:=zj Y_ hb;obtain ⟨B1,B2,B17⟩:=ah3 a B1 B2 B17;obtain ⟨A,X,Y_⟩:=axa3 a A X Y_;refine bb2 a ?_;replace h:=h _ X A;refine Calls.mono h ?_;clear h;rintro e22 w50 ⟨b21,s41,s42,he_,a,h⟩;refine ⟨b21,s41,s42,he_, ?_⟩;clear he_;obtain ⟨B1,B2,B17,B20⟩:=ah4 a B1 B2 B17 B20;obtain ⟨A,X,Y_⟩:=axr3 a A Y_;refine ⟨(Bar.of_ahead a), ?_⟩;replace h:=h _ X A;refine Calls.mono h ?_;clear h;rintro e23 w52 ⟨b22,s43,s44,he_,a,h⟩;refine ⟨b22,s43,s44,he_, ?_⟩;clear he_;obtain ⟨B1,B2,B17,B20⟩:=ah4 a B1 B2 B17 B20;obtain ⟨A,X,Y_⟩:=axr3 a A Y_;refine s3_t B20 fun u44 k B20=> ?_;obtain ⟨B1,B2,B17⟩:=up3 k B1 B2 B17;obtain ⟨A,X,Y_⟩:=axu3 k g20 A X Y_;refine s3_t B17 fun u45 k B17=> ?_;obtain ⟨B1,B2,B20⟩:=up3 k B1 B2 B20;obtain ⟨A,X,Y_⟩:=axu3 k g17 A X Y_;replace h:=h _ X A;exact ⟨bk2,bk20,bk17,false,(⟨none,0,0⟩:Slc),(⟨none,0,0⟩:Slc),b21,s41,s42,b22,s43,s44,rfl,B2,g2,rfl,B20,g20,rfl,B17,g17,(by omega),(by omega),(by omega),A,h⟩
  · clear h
    rintro ag t4 az aA w_ ⟨bk2,bk3,bk4,ah,ai,aj,aa,ab,ac,ad,ae,af,rfl,B2,g2,rfl,B3,g3,rfl,B4,g4,n2_3,n2_4,n3_4,A,aw⟩
    have h:=ay ag ah ai aj aa ab ac ad ae af w_ A aw
    have X:Ext w_ w_:=Ext.refl _
    have aq:=Sp.Ahead.drew w_;obtain ⟨B2,B3,B4⟩:=ah3 aq B2 B3 B4;obtain ⟨A,X⟩:=axa2 aq A X;clear aq;refine yu B3 ?_;refine yu B4 ?_;refine yu B3 ?_;replace h:=h _ X A;refine Calls.mono h ?_;clear h;rintro e3 w6 ⟨b3,s5,s6,he_,a,h⟩;refine ⟨b3,s5,s6,he_, ?_⟩;clear he_;obtain ⟨B2,B3,B4⟩:=ah3 a B2 B3 B4;obtain ⟨A,X⟩:=axr2 a A;refine ⟨a, ?_⟩;refine Calls.mono h ?_;clear h;rintro e4 w7 ⟨x1,he_,a,h⟩;refine ⟨x1,he_, ?_⟩;clear he_;obtain ⟨B2,B3,B4⟩:=ah3 a B2 B3 B4;obtain ⟨A,X⟩:=axr2 a A;refine ⟨a, ?_⟩;refine Calls.mono h ?_;clear h;rintro e5 w8 ⟨b4,s7,s8,he_,a,h⟩;refine ⟨b4,s7,s8,he_, ?_⟩;clear he_;obtain ⟨B2,B3,B4⟩:=ah3 a B2 B3 B4;obtain ⟨A,X⟩:=axr2 a A;refine ⟨a, ?_⟩;refine Calls.mono h ?_;clear h;rintro e6 w9 ⟨b5,s9,s10,he_,a,h⟩;refine ⟨b5,s9,s10,he_, ?_⟩;clear he_;obtain ⟨B2,B3,B4⟩:=ah3 a B2 B3 B4;obtain ⟨A,X⟩:=axr2 a A;refine ⟨a, ?_⟩;refine Calls.mono h ?_;clear h;rintro e7 w10 ⟨b6,s11,s12,he_,a,h⟩;refine ⟨b6,s11,s12,he_, ?_⟩;clear he_;obtain ⟨B2,B3,B4⟩:=ah3 a B2 B3 B4;obtain ⟨A,X⟩:=axr2 a A;refine ⟨a, ?_⟩;refine Calls.mono h ?_;clear h;rintro e8 w11 ⟨b7,s13,s14,he_,a,h⟩;refine ⟨b7,s13,s14,he_, ?_⟩;clear he_;obtain ⟨B2,B3,B4⟩:=ah3 a B2 B3 B4;obtain ⟨A,X⟩:=axr2 a A;refine ⟨a, ?_⟩;refine Calls.mono h ?_;clear h;rintro e9 w12 ⟨b8,s15,s16,he_,a,h⟩;refine ⟨b8,s15,s16,he_, ?_⟩;clear he_;obtain ⟨B2,B3,B4⟩:=ah3 a B2 B3 B4;obtain ⟨A,X⟩:=axr2 a A;refine ⟨a, ?_⟩;refine s3_t B2 fun u7 k B2=> ?_;obtain ⟨B3,B4⟩:=up2 k B3 B4;obtain ⟨A,X⟩:=axu2 k g2 A X;refine yu B2 ?_;replace h:=h _ X A;exact ⟨A,h⟩
theorem Qu (ad:Bool) (ae:Slc) (af:Int) (ag:Bool) (ah:Slc) (ai:Int) (aj:Int) (aa:Bool) (ab:Slc) (ac:Slc) (w:World) (R:Ending→World→Prop) (h:br (aj==0) (xw w w fun w1=>(kR 9 #[uD ad ae af] w1 fun w2 b1 s1 s2=>Ahead w1 w2∧(kI 18 #[uR b1 s1 s2,uR aa ab ac] w2 fun w3 x1=>Ahead w2 w3∧(br (decide (x1≤0)) (kR 9 #[uD ag ah ai] w3 fun w4 b2 s3 s4=>Ahead w3 w4∧(kI 18 #[uR aa ab ac,uR b2 s3 s4] w4 fun w5 x2=>Ahead w4 w5∧(R (.returned (.bool (decide (x2≤0)))) w5))) (R (.returned (.bool false)) w3))))) (xw w w fun w6=>(R (.returned (.bool false)) w6))):Calls pr 27 #[uS ad ae af ag ah ai,vi aj,uR aa ab ac] w (fun e_ w_=>Ahead w w_∧R e_ w_):=by
  refine Qv ad ae af ag ah ai aj aa ab ac w _ ?_
  · have A:Ahead w w:=Ahead.refl w
    have X:Ext w w:=Ext.refl w
    refine zn fun bk1 u1 hb a _ B1=> ?_;have g1:=zj A.size hb;obtain ⟨A,X⟩:=axa2 a A X;refine zn fun bk2 u2 hb a _ B2=> ?_;have g2:=zj A.size hb;have l1_2:=lt1 hb B1;replace B1:=B1.ahead a;obtain ⟨A,X⟩:=axa2 a A X;have ak:=Sp.Ahead.drew u2;obtain ⟨B1,B2⟩:=ah2 ak B1 B2;obtain ⟨A,X⟩:=axa2 ak A X;clear ak;refine zv h (fun h_=> ?_) (fun h_=> ?_)
    ·replace h:=h_;clear h_;refine v9 B1 ?_;refine yu B2 ?_;replace h:=h _ X A;refine Calls.mono h ?_;clear h;rintro e1 w2 ⟨b1,s1,s2,he_,a,h⟩;refine ⟨b1,s1,s2,he_, ?_⟩;clear he_;obtain ⟨B1,B2⟩:=ah2 a B1 B2;obtain ⟨A,X⟩:=axr2 a A;refine ⟨a, ?_⟩;refine Calls.mono h ?_;clear h;rintro e2 w3 ⟨x1,he_,a,h⟩;refine ⟨x1,he_, ?_⟩;clear he_;obtain ⟨B1,B2⟩:=ah2 a B1 B2;obtain ⟨A,X⟩:=axr2 a A;refine ⟨a, ?_⟩;refine zv h (fun h_=> ?_) (fun h_=> ?_)
     ·replace h:=h_;clear h_;refine yu B2 ?_;refine ut B1 ?_;refine Calls.mono h ?_;clear h;rintro e3 w4 ⟨b2,s3,s4,he_,a,h⟩;refine ⟨b2,s3,s4,he_, ?_⟩;clear he_;obtain ⟨B1,B2⟩:=ah2 a B1 B2;obtain ⟨A,X⟩:=axr2 a A;refine ⟨a, ?_⟩;refine Calls.mono h ?_;clear h;rintro e4 w5 ⟨x2,he_,a,h⟩;refine ⟨x2,he_, ?_⟩;clear he_;obtain ⟨B1,B2⟩:=ah2 a B1 B2;obtain ⟨A,X⟩:=axr2 a A;refine ⟨a, ?_⟩;exact ⟨A,h⟩
     ·replace h:=h_;clear h_;exact ⟨A,h⟩
    ·replace h:=h_;clear h_;replace h:=h _ X A;exact ⟨A,h⟩
theorem Fb (aa:Bool) (ab:Slc) (ac:Int) (w:World) (R:Ending→World→Prop) (h:xw w w fun w1=>(Calls pr 125 #[ab.v,vi ac] w1 fun e1 w2=>∃s1:Slc,∃x1:Int,e1= .returned (.tuple #[s1.v,vi x1])∧Ahead w1 w2∧(br aa (Calls pr 133 (zD ((Int.tmod ac 2)==1) s1 x1) w2 fun e2 w3=>∃b1:Bool,∃s2:Slc,∃x2:Int,e2= .returned (.tuple #[uP b1 s2,vi x2])∧Ahead w2 w3∧(xw w w3 fun w4=>(R (.returned (.tuple #[uP b1 s2,vi x2])) w4))) (Calls pr 133 (zD false s1 x1) w2 fun e3 w5=>∃b2:Bool,∃s3:Slc,∃x3:Int,e3= .returned (.tuple #[uP b2 s3,vi x3])∧Ahead w2 w5∧(xw w w5 fun w6=>(R (.returned (.tuple #[uP b2 s3,vi x3])) w6)))))):Calls pr 137 #[uP aa ab,vi ac] w (fun e_ w_=>Ahead w w_∧R e_ w_):=by
 refine Fc aa ab ac w _ ?_
 ·have A:Ahead w w:=Ahead.refl w
  have X:Ext w w:=Ext.refl w
  refine zn fun bk1 u1 hb a _ B1=> ?_;have g1:=zj A.size hb;obtain ⟨A,X⟩:=axa2 a A X;refine zn fun bk2 u2 hb a _ B2=> ?_;have g2:=zj A.size hb;have l1_2:=lt1 hb B1;replace B1:=B1.ahead a;obtain ⟨A,X⟩:=axa2 a A X;refine ym 1 B1 rfl ?_;replace h:=h _ X A;refine Calls.mono h ?_;clear h;rintro e1 w2 ⟨s1,x1,he_,a,h⟩;refine ⟨s1,x1,he_, ?_⟩;clear he_;obtain ⟨B1,B2⟩:=ah2 a B1 B2;obtain ⟨A,X⟩:=axr2 a A;refine yt 0 B1 rfl ?_;refine zv h (fun h_=> ?_) (fun h_=> ?_)
  ·replace h:=h_;clear h_;refine Calls.mono h ?_;clear h;rintro e2 w3 ⟨b1,s2,x2,he_,a,h⟩;refine ⟨b1,s2,x2,he_, ?_⟩;clear he_;obtain ⟨B1,B2⟩:=ah2 a B1 B2;obtain ⟨A,X⟩:=axr2 a A;refine s2_t B2 fun u3 k B2=> ?_;replace B1:=up1 k B1;obtain ⟨A,X⟩:=axu2 k g2 A X;refine l2_t B2 ?_;replace h:=h _ X A;exact ⟨A,h⟩
  ·replace h:=h_;clear h_;refine Calls.mono h ?_;clear h;rintro e3 w5 ⟨b2,s3,x3,he_,a,h⟩;refine ⟨b2,s3,x3,he_, ?_⟩;clear he_;obtain ⟨B1,B2⟩:=ah2 a B1 B2;obtain ⟨A,X⟩:=axr2 a A;refine s2_t B2 fun u4 k B2=> ?_;replace B1:=up1 k B1;obtain ⟨A,X⟩:=axu2 k g2 A X;refine l2_t B2 ?_;replace h:=h _ X A;exact ⟨A,h⟩
end
section
open Go Go.RowKit Eng Sp Dg L2
namespace Sm
open _root_.Go.Proofs.YtbeiopoejdkheaaGreatDoor.Nat (Num xj)
open _root_.Go.Proofs.YtbeiopoejdkheaaGreatDoor.Wr (js)
open Sb Dy R7
theorem Dv.row {w} {n:Bool} {s} {l:List Nat} {e:Int} (r:Rd .u64 w s (nn l)) (h1:l.length*8≤140737488351232) (h2:ok B64 l) (hb:bl (val B64 l)≤4096) (he: -99≤e∧e≤99):∃v,Dv w n s e 6000 v:=by
 refine ⟨dv (sg n (val B64 l)) e FL,⟨l,r,h1,h2,by omega,by unfold FL;omega,by omega,rfl⟩, ?_,by omega⟩
 rw [dv,Int.natAbs_mul,qa]
 exact Nat.le_trans ni (by unfold FL;omega)
theorem Ut {w} {n1:Bool} {s1:Slc} {e1:Int} {n2:Bool} {s2:Slc} {e2:Int} (hT:Tab w) (hd1:∀e,-99≤e∧e≤99→∃v,Dv w n1 s1 e 6000 v) (hd2:∀e,-99≤e∧e≤99→∃v,Dv w n2 s2 e 6000 v):Calls pr surdtop_order_id #[.agg (c6 n1 s1 e1 n2 s2 e2)] w fun en w'=>Ahead w w'∧∃m1 t1 f1 m2 t2 f2 lo hi,en= .returned (.agg (c6 m1 t1 f1 m2 t2 f2))∧Sv w' m1 t1 f1 m2 t2 f2 6000 lo hi∧(-99≤f1∧f1≤99)∧(-99≤f2∧f2≤99):=by
 refine Vp n1 s1 e1 n2 s2 e2 w (fun en w'=>∃m1 t1 f1 m2 t2 f2 lo hi,en= .returned (.agg (c6 m1 t1 f1 m2 t2 f2))∧Sv w' m1 t1 f1 m2 t2 f2 6000 lo hi∧(-99≤f1∧f1≤99)∧(-99≤f2∧f2≤99)) fun w1 x1 a1=> ?_
 refine Calls.mono Wr.Pi ?_
 rintro en w2 ⟨k2,t0,rfl,ht0⟩
 refine ⟨_,_,_,rfl,k2,Calls.mono Wr.Pi ?_⟩
 rintro en w3 ⟨k3,t1,rfl,ht1⟩
 obtain ⟨v1,d1⟩:=hd1 t0 ht0
 obtain ⟨v2,d2⟩:=hd2 t1 ht1
 refine ⟨_,_,_,rfl,k3,fun w4 x4 a4=>Calls.mono (Vw (hT.ahead a4) (d1.ahead a4) (d2.ahead a4)) ?_⟩
 rintro en w5 ⟨k5,rfl⟩
 have a5:=a4.trans k5
 refine ⟨_,_,rfl,k5,zm (fun hgt=>fun w6 x6 a6=> ?_) (fun hng=>fun w6 x6 a6=> ?_)⟩
 ·have hgt':=qr.1 (of_decide_eq_true hgt)
  exact ⟨_,_,_,_,_,_,v2,v1,rfl,⟨d2.ahead a6,d1.ahead a6,by omega⟩,ht1,ht0⟩
 ·have hng':¬v2<v1:=fun q=>of_decide_eq_false hng (qr.2 q)
  exact ⟨_,_,_,_,_,_,v1,v2,rfl,⟨d1.ahead a6,d2.ahead a6,by omega⟩,ht0,ht1⟩
theorem zff {w n1 s1} {e1:Int} {n2:Bool} {s2:Slc} {e2:Int} {K:Nat} {lo hi p:Int} {q k:Nat} {b s t} (h:Dv w n1 s1 e1 K lo) (h':Dv w n2 s2 e2 K hi) (hx:RV w b s t p q k) (hk:2097152+k≤67108864) (hl:lo*(q:Int)≤p*(S1000:Int)) (hu:p*(S1000:Int)≤hi*(q:Int)):Calls pr surdtop_has_id #[.agg (c6 n1 s1 e1 n2 s2 e2), .int .i64 0, .agg #[.bool b,s.v,t.v]] w fun en w'=>Ahead w w'∧en= .returned (.bool true):=by
 refine Qu n1 s1 e1 n2 s2 e2 0 b s t w (fun en w'=>en= .returned (.bool true)) (yz rfl fun w1 x1 a1=> ?_)
 refine Calls.mono (qs (h.ahead a1)) ?_
 rintro en w2 ⟨k2,c,x,y,rfl,hlo⟩
 have hx2:=(hx.ahead a1).ahead k2
 refine ⟨_,_,_,rfl,k2,Calls.mono (Ti hlo hx2 (by omega)) ?_⟩
 rintro en w3 ⟨k3,rfl⟩
 refine ⟨_,rfl,k3,yz (decide_eq_true (Zs.2 hl)) ?_⟩
 refine Calls.mono (qs ((((h'.ahead a1).ahead k2)).ahead k3)) ?_
 rintro en w4 ⟨k4,c',x',y',rfl,hhi⟩
 refine ⟨_,_,_,rfl,k4,Calls.mono (Ti ((hx2.ahead k3).ahead k4) hhi (by omega)) ?_⟩
 rintro en w5 ⟨k5,rfl⟩
 refine ⟨_,rfl,k5, ?_⟩
 try dsimp only
 rw [decide_eq_true (Zs.2 hu)]
def In (lo hi p:Int) (q:Nat):Prop:=lo*(q:Int)≤p*(S1000:Int)∧p*(S1000:Int)≤hi*(q:Int)
theorem zer {lo hi i S:Int} (hS:0<S) (hle:lo≤hi) (h0:0≤i) (h1:i≤1000):lo*(S*(S*S*1000))≤(lo*(S*S*1000)+(hi*S -lo*S)*i*S)*S∧(lo*(S*S*1000)+(hi*S -lo*S)*i*S)*S≤hi*(S*(S*S*1000)):=by
 have e1:(lo*(S*S*1000)+(hi*S -lo*S)*i*S)*S=lo*(S*(S*S*1000))+(hi -lo)*i*(S*S*S):=by
  rw [←Int.sub_mul,Int.add_mul]
  congr 1<;>ac_rfl
 have e2:hi*(S*(S*S*1000))=lo*(S*(S*S*1000))+(hi -lo)*1000*(S*S*S):=by
  have:(hi -lo)*1000*(S*S*S)=hi*(S*(S*S*1000)) -lo*(S*(S*S*1000)):=by
   rw [←Int.sub_mul];ac_rfl
  omega
 have hSS:0≤S*S*S:=Int.le_of_lt (Int.mul_pos (Int.mul_pos hS hS) hS)
 have g1:0≤(hi -lo)*i*(S*S*S):=Int.mul_nonneg (Int.mul_nonneg (by omega) h0) hSS
 have g2:(hi -lo)*i*(S*S*S)≤(hi -lo)*1000*(S*S*S):=Int.mul_le_mul_of_nonneg_right (Int.mul_le_mul_of_nonneg_left h1 (by omega)) hSS
 rw [e1,e2]
 constructor<;>omega
theorem Q8 {w n1 s1} {e1:Int} {n2 s2} {e2:Int} {K:Nat} {lo hi i:Int} (h:Sv w n1 s1 e1 n2 s2 e2 K lo hi):Calls pr surdtop_inside_id #[.agg (c6 n1 s1 e1 n2 s2 e2), .int .i64 i] w fun en w'=>Ahead w w'∧∃b s t p q,en= .returned (.agg #[.bool b,Slc.v s,Slc.v t])∧RV w' b s t p q 8388608∧In lo hi p q:=by
 refine Yq n1 s1 e1 n2 s2 e2 i w (fun en w'=>∃b s t p q,en= .returned (.agg #[.bool b,Slc.v s,Slc.v t])∧RV w' b s t p q 8388608∧In lo hi p q) (fun i' _ _ _ b s t b' s' t' w_=>i=i'∧RV w_ b s t lo S1000 2097152∧RV w_ b' s' t' hi S1000 2097152) (fun w1 x1 a1=> ?_) ?_
 ·refine Calls.mono (qs (h.a.ahead a1)) ?_
  rintro en w2 ⟨k2,b1,t1,u1,rfl,rlo⟩
  refine ⟨_,_,_,rfl,k2,fun w3 x3 a3=>Calls.mono (qs (h.b.ahead a3)) ?_⟩
  rintro en w4 ⟨k4,b2,t2,u2,rfl,rhi⟩
  exact ⟨_,_,_,rfl,k4,fun w5 x5 a5=>⟨rfl,((rlo.ext x3).ahead k4).ext x5,rhi.ext x5⟩⟩
 rintro i' _ _ _ b1 t1 u1 b2 t2 u2 w4 a4 ⟨rfl,rlo,rhi⟩ w5 x5 a5
 have rlo5:∀{w5},Ext w4 w5→RV w5 b1 t1 u1 lo S1000 2097152:=fun x=>rlo.ext x
 refine Calls.mono (Ca (rhi.ext x5) (rlo5 x5) (by omega)) ?_
 rintro en w6 ⟨k6,b3,t3,u3,rfl,r3⟩
 refine ⟨_,_,_,rfl,k6,Calls.mono (js (by omega) (by omega) (by omega)) ?_⟩
 rintro en w7 ⟨rfl,r,rfl,hr0,hr1⟩
 obtain ⟨j,rfl⟩:=Int.eq_ofNat_of_zero_le hr0
 refine ⟨_,rfl,Ahead.refl _,Calls.mono (D0 (v:=j) (by omega)) ?_⟩
 rintro en w8 ⟨k8,b4,t4,u4,rfl,r4⟩
 refine ⟨_,_,_,rfl,k8,Calls.mono (D0 (v:=1000) (by omega)) ?_⟩
 rintro en w9 ⟨k9,b5,t5,u5,rfl,r5⟩
 refine ⟨_,_,_,rfl,k9,Calls.mono (D4 (r4.ahead k9) r5 (by decide) (by omega)) ?_⟩
 rintro en w10 ⟨k10,b6,t6,u6,rfl,r6⟩
 refine ⟨_,_,_,rfl,k10,Calls.mono (Tj (((r3.ahead k8).ahead k9).ahead k10) r6 (by omega)) ?_⟩
 rintro en w11 ⟨k11,b7,t7,u7,rfl,r7⟩
 have r1:=(((((rlo5 x5).ahead k6).ahead k8).ahead k9).ahead k10).ahead k11
 refine ⟨_,_,_,rfl,k11,Calls.mono (Th r1 r7 (by omega)) ?_⟩
 rintro en w12 ⟨k12,b8,t8,u8,rfl,r8⟩
 refine ⟨_,_,_,rfl,k12,fun w13 x13 a13=>⟨_,_,_,_,_,rfl,(r8.ext x13).mono (by omega), ?_⟩⟩
 obtain ⟨g1,g2⟩:=zer (lo:=lo) (hi:=hi) (i:=(j:Int)) qi h.le hr0 hr1
 have es:sgZ ((1000:Nat):Int)*((j:Int)*((1:Nat):Int))=(j:Int):=by
  rw [show sgZ ((1000:Nat):Int)=1 from rfl];omega
 have en:(((1000:Nat):Int)).natAbs=1000:=rfl
 rw [es,en]
 unfold In
 rw [Nat.one_mul,Int.natCast_mul,Int.natCast_mul,Int.natCast_mul]
 exact ⟨g1,g2⟩
end Sm
end
section
open Go Go.RowKit Eng Sp Dg L2
namespace Sm
open _root_.Go.Proofs.YtbeiopoejdkheaaGreatDoor.Nat (OwnNil Num Num.bl Num.ext Num.ahead OwnNil.mono OwnNil.ext OwnNil.rd OwnNil.ahead OwnNil.nil zw xj xf yn xe Ret Ret.num xc)
open Sb Dy R7
theorem powTwo {w a} {x:Nat} (ha:Num w a x) (hb:bl x≤1048576):Calls pr mul_Pow_id #[a.v, .int .i64 2] w (Ret w 0 (x*x)):=by
 rcases Nat.lt_or_ge (bl x) 2 with h|h
 ·have hx:x*x=x:=by
   have h1:=uv x
   have h2:(2:Nat)^bl x≤2^1:=Nat.pow_le_pow_right (by omega) (by omega)
   have h3:x=0∨x=1:=by omega
   rcases h3 with rfl|rfl<;>rfl
  rw [hx]
  refine fr a 2 w _ (fun _ _ _ _ _=>False) (fun _ _ _ _ _=>0) (zt rfl ?_) (fun _ _ _ _ _ h=>h.elim)
  obtain ⟨l,rl,ll,ol,vl⟩:=ha
  refine Calls.mono (yn rl ll ol) ?_
  rw [vl]
  rintro e w1 ⟨h1,s,rfl,os⟩
  refine ⟨_,rfl,zt rfl (Calls.mono (xe (xf os (by omega))) ?_)⟩
  rintro e w2 ⟨rfl,rfl⟩
  refine ⟨_,rfl,yz (decide_eq_true (by omega)) ⟨h1,s,rfl, ?_⟩⟩
  rw [if_pos rfl];exact os
 ·have:=Mul.ff (n:=2) ha h (by omega) (by omega)
  rw [show x^2=x*x from Nat.pow_two x] at this
  exact this
theorem wPowTwo {w} {n:Bool} {s} {x:Nat} (h:Num w s x) (hb:bl x≤1048576):Calls pr whole_Pow_id #[.agg (c2 n s), .int .i64 2] w fun en w'=>Ahead w w'∧WA ((x*x:Nat):Int) en w':=by
 have bm:=nh (x:=x) (y:=x)
 refine Fb n s 2 w (WA ((x*x:Nat):Int)) fun w1 x1 a1=>Calls.mono (powTwo (h.ahead a1) hb) ?_
 intro en w2 hr
 obtain ⟨h2,u,rfl,ou,nu⟩:=hr.num rfl (by omega)
 have res:Calls pr whole_result_id #[.bool false,u.v, .int .i64 0] w2 fun e2 w3=>∃b1:Bool,∃s2:Slc,∃x2:Int,e2= .returned (Value.tuple #[Value.agg #[Value.bool b1,s2.v],Value.int .i64 x2])∧Ahead w2 w3∧
   (∀w4,Ext w3 w4→Ahead w w4→WA ((x*x:Nat):Int) (.returned (Value.tuple #[Value.agg #[Value.bool b1,s2.v],Value.int .i64 x2])) w4):=by
  refine Calls.mono (pf nu (by omega)) ?_
  rintro en w6 ⟨h6,v,rfl,rv⟩
  exact ⟨_,_,_,rfl,h6,fun w7 X7 a7=>⟨v,rfl,rv.ext X7⟩⟩
 exact ⟨_,_,rfl,h2,zm (fun _=>res) (fun _=>res)⟩
end Sm
end
section
open Go Go.RowKit Eng Sp Dg L2
namespace Sm
open _root_.Go.Proofs.YtbeiopoejdkheaaGreatDoor.Nat (OwnNil Num Num.bl Num.ext Num.ahead OwnNil.mono OwnNil.ext OwnNil.rd OwnNil.ahead OwnNil.nil zw xj xf)
open Sb Dy R7
theorem halfExp {t:TypeId} {w:World} {K:Int→Prop} (h:K 549755813888):fixI pr .i64 (binOp .quo t (.int .i64 1099511627776) (.int .i64 2)) w K:=by
 refine ⟨549755813888,fun w' _=> ?_,h⟩
 rw [show binOp .quo t (.int .i64 1099511627776) (.int .i64 2)=pure (.int .i64 549755813888) from by rfl]
 rfl
theorem zf8 {n:Bool} {x:Nat} :vz n x*vz n x=((od x*od x:Nat):Int):=by
 unfold vz sg
 split
 ·rw [Int.neg_mul_neg,Int.natCast_mul]
 ·rw [Int.natCast_mul]
theorem Qz {w n s} {e v:Int} {K:Nat} (hT:Tab w) (h:Dv w n s e K v) (he: -500≤e) (hK:2*K≤262144):Calls pr dyadic_Pow_id #[.agg (c3 n s e), .int .i64 2] w fun en w'=>Ahead w w'∧AV (2*K) (fun u=>u*(S1000:Int)=v*v) en w':=by
 have hb:=h.b
 obtain ⟨x,q,f,rfl⟩:=h.sd
 have hq0:=q.e0
 have hq1:=q.e1
 have hwi:wi e:=by unfold wi;omega
 have heD:=q.eD
 have hbo:=q.od
 have g1: -500≤eD x e:=by unfold eD;split<;>omega
 have hval:dv ((od x*od x:Nat):Int) (eD x e*2) FL*(S1000:Int)=dv (sg n x) e FL*dv (sg n x) e FL:=by
  rw [←mz f,←zf8 (n:=n),show eD x e*2=eD x e+eD x e by omega,show FL= -500+ -500 from rfl,Ce g1 g1]
  show dv (vz n x) (eD x e) (-500)*dv (vz n x) (eD x e) (-500)*(S1000:Int)=dv (vz n x) (eD x e) FL*dv (vz n x) (eD x e) FL
  rw [Tr g1,←S500]
  ac_rfl
 have hbits:bl (dv ((od x*od x:Nat):Int) (eD x e*2) FL).natAbs≤2*K:=by
  have hle:(dv ((od x*od x:Nat):Int) (eD x e*2) FL).natAbs≤(dv (sg n x) e FL*dv (sg n x) e FL).natAbs:=by
   rw [←hval,Int.natAbs_mul (dv _ _ _)]
   exact Nat.le_mul_of_pos_right _ ju
  refine Nat.le_trans (yw hle) ?_
  rw [Int.natAbs_mul]
  exact Nat.le_trans nh (by omega)
 refine P3 n s e 2 w _ (yv fun b1 w1 hb1 h1 z1 B1=>yv fun b2 w2 hb2 h2 z2 B2=> ?_)
 have A1:Blk w2 b1 (c3 n s e):=B1.ahead h2
 have A2:Blk w2 b2 (c3 false ⟨none,0,0⟩ 0):=B2
 refine get3 A1 (Calls.mono (qe (hT.ahead (h1.trans h2)) (q.num.ahead (h1.trans h2))) ?_)
 simp only [if_pos hwi]
 rintro en w3 ⟨h3,t,rfl,ot⟩
 have a3:=(h1.trans h2).trans h3
 refine ⟨_,_,_,_,rfl,yv fun b3 w4 hb3 h4 z4 B3=>set3 B3 fun w7 u7 C3=>zt rfl (zt rfl ?_)⟩
 have s3:=a3.size
 have q2:=(A2.ahead h3).lt
 have a7:=u7.ahead (a3.trans h4) (by omega)
 have C2:=u7.blk ((A2.ahead h3).ahead h4) (by omega)
 have r7:Rd .u64 w7 t (nn (digs B64 (od x))):=u7.rd _ _ (ot.ahead h4).rd
 have lo:=zw (N:=od x) (m:=2^15) (by omega)
 refine uu 0 C3 rfl (vj 1 C3 rfl (Calls.mono (wPowTwo (vd r7 (by omega)) hbo) ?_))
 rintro en w14 ⟨h14,u,rfl,ru⟩
 refine ⟨_,_,_,rfl,yv fun b4 w15 hb4 h15 z15 B4=>set2 B4 fun w17 u17 C4=>zt rfl ?_⟩
 have a14:=a7.trans h14
 have q3:=(C3.ahead h14).lt
 have q4:=(C2.ahead h14).lt
 have s14:=a14.size
 have a17:=u17.ahead (a14.trans h15) (by omega)
 have D3:=u17.blk ((C3.ahead h14).ahead h15) (by omega)
 have D2:=u17.blk ((C2.ahead h14).ahead h15) (by omega)
 have ru17:=u17.rd _ _ (ru.ahead h15)
 have bm:=nh (x:=od x) (y:=od x)
 have hnat:(((od x*od x:Nat):Int)).natAbs=od x*od x:=rfl
 rw [hnat] at ru17
 have lsq:=zw (N:=od x*od x) (m:=2^16) (by omega)
 have tail:∀w28,Ahead w17 w28→ldB ⟨b4,0,none⟩ w28 fun b11=>ldS ((⟨b4,0,none⟩:Addr).add 1) w28 fun s11=>ldI .i64 ((⟨b3,0,none⟩:Addr).add 2) w28 fun x17=>
   Calls pr dyadic_told_id #[.agg #[.bool b11,s11.v], .int .i64 (IntKind.i64.wrap (x17*2))] w28 fun e3 w32=>∃b12:Bool,∃s12:Slc,∃x18:Int,∃x19:Int,e3= .returned (.tuple #[.agg #[.bool b12,s12.v, .int .i64 x18], .int .i64 x19])∧
    (stC ⟨b2,0,none⟩ (.bool b12) w32 fun w33=>stC ((⟨b2,0,none⟩:Addr).add 1) s12.v w33 fun w34=>stC ((⟨b2,0,none⟩:Addr).add 2) (.int .i64 x18) w34 fun w35=>
     ldB ⟨b2,0,none⟩ w35 fun b13=>ldS ((⟨b2,0,none⟩:Addr).add 1) w35 fun s13=>ldI .i64 ((⟨b2,0,none⟩:Addr).add 2) w35 fun x20=>
      Ahead w w35∧AV (2*K) (fun u=>u*(S1000:Int)=dv (sg n x) e FL*dv (sg n x) e FL) (.returned (.tuple #[.agg #[.bool b13,s13.v, .int .i64 x20], .int .i64 x19])) w35):=by
  intro w28 g
  refine uu 0 (C4.ahead g) rfl (vj 1 (C4.ahead g) rfl (xz 2 (D3.ahead g) rfl ?_))
  rw [zp (by omega) (by omega)]
  refine Calls.mono (Qx (ng:=zb ((od x*od x:Nat):Int)) (X:=od x*od x) (E:=eD x e*2) (hT.ahead (a17.trans g)) (vd (ru17.ahead g) (by omega)) (by omega) (by unfold FL;omega) (by omega) (by have hz:=za1 ((od x*od x:Nat):Int);rw [hnat] at hz;rw [hz]) hbits (by omega)) ?_
  rintro en w32 ⟨k32,n3,s3',e3,v3,rfl,d3,rfl⟩
  exact ⟨_,_,_,_,rfl,set3 ((D2.ahead g).ahead k32) fun w35 u35 E2=>get3 E2 ⟨u35.ahead ((a17.trans g).trans k32) (by have:=h1.size;omega),_,_,_,_,rfl,d3.upd u35,hval⟩⟩
 by_cases hE0:eD x e=0
 ·exact xz 2 D3 rfl (zt (by simp [hE0]) (xz 2 D3 rfl (zt (by simp [hE0]) fun w63 g=>tail w63 g)))
 ·refine xz 2 D3 rfl (yz (by simpa using hE0) (zt rfl (xz 2 D3 rfl (yz (by simpa using hE0) (yz rfl (xz 2 D3 rfl (halfExp (zt (decide_eq_false (by omega)) (xz 2 D3 rfl (halfExp fun w28 g=> ?_))))))))))
  rw [zp (by omega) (by omega)]
  exact zt (decide_eq_false (by omega)) (tail w28 g)
def SqP (lo hi l u:Int):Prop:=∃a b,SzP lo hi a b∧l*(S1000:Int)≤a*a∧b*b≤u*(S1000:Int)
theorem zad {w n1 s1} {e1:Int} {n2 s2} {e2:Int} {K:Nat} {lo hi pos:Int} (hT:Tab w) (h:Sv w n1 s1 e1 n2 s2 e2 K lo hi) (he1: -500≤e1) (he2: -500≤e2) (hp: -150≤pos∧pos≤50) (hK:1100≤K) (hK':K≤8192):Calls pr span_Square_id #[.agg (c6 n1 s1 e1 n2 s2 e2), .int .i64 pos] w fun en w'=>Ahead w w'∧AS 32768 (SqP lo hi) en w':=by
 refine Qg n1 s1 e1 n2 s2 e2 pos w (AS 32768 (SqP lo hi)) fun w1 x1 a1=> ?_
 have hpow:Calls pr span_Pow_id #[.agg (c6 n1 s1 e1 n2 s2 e2), .int .i64 2, .int .i64 pos] w1 fun en w'=>Ahead w1 w'∧AS 32768 (SqP lo hi) en w':=by
  refine Di n1 s1 e1 n2 s2 e2 2 pos w1 (AS 32768 (SqP lo hi)) fun w2 x2 a2=> ?_
  have a12:=a1.trans a2
  refine Calls.mono (Yx (hT.ahead a12) (h.ahead a12)) ?_
  rintro en w3 ⟨k3,rfl⟩
  have a3:=a12.trans k3
  refine ⟨_,rfl,k3,zt rfl (zt rfl (zt rfl (zt (decide_eq_false (by omega)) (zt (decide_eq_false (by omega)) (yz rfl (Calls.mono (Gq (hT.ahead a3) (h.ahead a3)) ?_))))))⟩
  rintro en w8 ⟨k8,m1,t1,f1,m2,t2,f2,l,u,rfl,d1,d2,hp',hf⟩
  refine ⟨_,_,_,_,_,_,rfl,k8,fun w9 x9 a9=> ?_⟩
  have hT1:=hT.ahead a1
  refine Calls.mono (Qz (hT1.ahead a9) (d1.ext x9) (by omega) (by omega)) ?_
  rintro en w10 ⟨k10,n3,s3,e3,v3,rfl,d3,p3⟩
  refine ⟨_,_,_,_,rfl,k10,fun w11 x11 a11=>Calls.mono (Qz (hT1.ahead a11) (((d2.ext x9).ahead k10).ext x11) (by omega) (by omega)) ?_⟩
  rintro en w12 ⟨k12,n4,s4,e4,v4,rfl,d4,p4⟩
  refine ⟨_,_,_,_,rfl,k12,fun w13 x13 a13=>Calls.mono Wr.kc ?_⟩
  rintro en w14 ⟨rfl,rfl⟩
  refine ⟨_,rfl,Ahead.refl _,zt rfl ?_⟩
  refine Calls.mono (fx (hT1.ahead a13) (((d3.ext x11).ahead k12).ext x13) (d4.ext x13) hp (by omega) (by omega)) ?_
  rintro en w16 ⟨k16,n5,s5,e5,n6,s6,e6,l',u',rfl,d5,d6,g1,g2⟩
  refine ⟨_,_,_,_,_,_,_,rfl,k16,fun w17 x17 a17=>⟨_,_,_,_,_,_,l',u',rfl,(d5.ext x17).mono (by omega) (by omega),(d6.ext x17).mono (by omega) (by omega),l,u,hp', ?_, ?_⟩⟩
  ·rw [←p3];exact Int.mul_le_mul_of_nonneg_right g1 (Int.le_of_lt qi)
  ·rw [←p4];exact Int.mul_le_mul_of_nonneg_right g2 (Int.le_of_lt qi)
 refine Calls.mono hpow ?_
 rintro en w2 ⟨k2,n5,s5,e5,n6,s6,e6,l',u',rfl,d5,d6,hq⟩
 exact ⟨_,_,_,_,_,_,_,rfl,k2,fun w3 x3 a3=>⟨_,_,_,_,_,_,l',u',rfl,d5.ext x3,d6.ext x3,hq⟩⟩
end Sm
end
section
open Go Go.RowKit Eng Sp Dg L2
namespace Sm
open Sb Dy R7
theorem mulR {a b c:Int} (h:a≤b) (hc:0≤c):a*c≤b*c:=Int.mul_le_mul_of_nonneg_right h hc
theorem canS {a b:Int} (h:a*(S1000:Int)≤b*(S1000:Int)):a≤b:=Int.le_of_mul_le_mul_right h qi
theorem ac4 {p r S:Int} :p*S*(r*S)=p*r*S*S:=by ac_rfl
theorem zb2 {lo hi lo' hi' l u p p':Int} {q q':Nat} (h:In lo hi p q) (h':In lo' hi' p' q') (hl:l≤lo+lo') (hu:hi+hi'≤u):In l u (p*(q':Int)+p'*(q:Int)) (q*q'):=by
 have a1:=mulR h.1 (Int.natCast_nonneg q')
 have a2:=mulR h.2 (Int.natCast_nonneg q')
 have b1:=mulR h'.1 (Int.natCast_nonneg q)
 have b2:=mulR h'.2 (Int.natCast_nonneg q)
 have c1:=mulR hl (Int.natCast_nonneg (q*q'))
 have c2:=mulR hu (Int.natCast_nonneg (q*q'))
 unfold In
 rw [Int.add_mul] at c1 c2
 rw [Int.add_mul]
 have e1:lo*((q*q':Nat):Int)=lo*q*q':=by rw [Int.natCast_mul,Int.mul_assoc]
 have e2:hi*((q*q':Nat):Int)=hi*q*q':=by rw [Int.natCast_mul,Int.mul_assoc]
 have e3:lo'*((q*q':Nat):Int)=lo'*q'*q:=by rw [Int.natCast_mul];ac_rfl
 have e4:hi'*((q*q':Nat):Int)=hi'*q'*q:=by rw [Int.natCast_mul];ac_rfl
 have e5:p*(q':Int)*(S1000:Int)=p*(S1000:Int)*q':=Int.mul_right_comm ..
 have e6:p'*(q:Int)*(S1000:Int)=p'*(S1000:Int)*q:=Int.mul_right_comm ..
 constructor<;>omega
theorem zfh {lo hi p:Int} {q:Nat} (h:In lo hi p q):In (-hi) (-lo) (-p) q:=by
 unfold In at*
 rw [Int.neg_mul,Int.neg_mul,Int.neg_mul]
 omega
theorem zfj {lo hi lo' hi' l u p p':Int} {q q':Nat} (h:In lo hi p q) (h':In lo' hi' p' q') (hl:l≤lo -hi') (hu:hi -lo'≤u):In l u (p*(q':Int) -p'*(q:Int)) (q*q'):=by
 have:=zb2 h (zfh h') (l:=l) (u:=u) (by omega) (by omega)
 rw [Int.neg_mul] at this
 rw [Int.sub_eq_add_neg];exact this
theorem box {a b c d X Y m:Int} (h1:a≤X) (h2:X≤b) (h3:c≤Y) (h4:Y≤d) (m1:m≤a*c) (m2:m≤a*d) (m3:m≤b*c) (m4:m≤b*d):m≤X*Y:=by
 rcases Int.lt_or_le Y 0 with hy|hy
 ·have g1:b*Y≤X*Y:=Int.mul_le_mul_of_nonpos_right h2 (Int.le_of_lt hy)
  rcases Int.lt_or_le b 0 with hb|hb
  ·have:=Int.mul_le_mul_of_nonpos_left (Int.le_of_lt hb) h4;omega
  ·have:=Int.mul_le_mul_of_nonneg_left h3 hb;omega
 ·have g1:a*Y≤X*Y:=mulR h1 hy
  rcases Int.lt_or_le a 0 with ha|ha
  ·have:=Int.mul_le_mul_of_nonpos_left (Int.le_of_lt ha) h4;omega
  ·have:=Int.mul_le_mul_of_nonneg_left h3 ha;omega
def MlP (lo hi lo' hi' l u:Int):Prop:=(l*(S1000:Int)≤lo*lo'∧l*(S1000:Int)≤lo*hi'∧l*(S1000:Int)≤hi*lo'∧l*(S1000:Int)≤hi*hi')∧(lo*lo'≤u*(S1000:Int)∧lo*hi'≤u*(S1000:Int)∧hi*lo'≤u*(S1000:Int)∧hi*hi'≤u*(S1000:Int))
theorem zfg {lo hi lo' hi' l u p p':Int} {q q':Nat} (h:In lo hi p q) (h':In lo' hi' p' q') (hm:MlP lo hi lo' hi' l u):In l u (p*p') (q*q'):=by
 obtain ⟨⟨m1,m2,m3,m4⟩,u1,u2,u3,u4⟩:=hm
 have hQ:(0:Int)≤(q:Int)*(q':Int):=Int.mul_nonneg (Int.natCast_nonneg _) (Int.natCast_nonneg _)
 have cor:∀{m x y:Int},m≤x*y→m*((q:Int)*(q':Int))≤x*(q:Int)*(y*(q':Int)):=fun {m x y} g=>by
  have:=mulR g hQ
  rw [show x*(q:Int)*(y*(q':Int))=x*y*((q:Int)*(q':Int)) by ac_rfl];exact this
 have cor2:∀{m x y:Int},x*y≤m→-(m*((q:Int)*(q':Int)))≤-(x*(q:Int))*(y*(q':Int)):=fun {m x y} g=>by
  have:=mulR g hQ
  rw [Int.neg_mul,show x*(q:Int)*(y*(q':Int))=x*y*((q:Int)*(q':Int)) by ac_rfl];omega
 have b1:=box h.1 h.2 h'.1 h'.2 (cor m1) (cor m2) (cor m3) (cor m4)
 have b2:=box (a:= -(hi*(q:Int))) (b:= -(lo*(q:Int))) (X:= -(p*(S1000:Int))) (by have:=h.2;omega) (by have:=h.1;omega) h'.1 h'.2 (cor2 u3) (cor2 u4) (cor2 u1) (cor2 u2)
 rw [Int.neg_mul] at b2
 have e:p*(S1000:Int)*(p'*(S1000:Int))=p*p'*(S1000:Int)*(S1000:Int):=ac4
 rw [e] at b1 b2
 unfold In
 rw [Int.natCast_mul]
 refine ⟨canS ?_,canS ?_⟩
 ·rw [show l*((q:Int)*(q':Int))*(S1000:Int)=l*(S1000:Int)*((q:Int)*(q':Int)) from Int.mul_right_comm ..];exact b1
 ·rw [show u*((q:Int)*(q':Int))*(S1000:Int)=u*(S1000:Int)*((q:Int)*(q':Int)) from Int.mul_right_comm ..];omega
theorem zbz {lo hi l u p:Int} {q:Nat} (h:In lo hi p q) (hz:SzP lo hi l u):In l u (p.natAbs:Int) q:=by
 obtain ⟨h1,h2⟩:=h
 obtain ⟨z0,z1,z2,z3,z4⟩:=hz
 have hq:(0:Int)≤(q:Int):=Int.natCast_nonneg q
 have eA:(p.natAbs:Int)*(S1000:Int)=((p*(S1000:Int)).natAbs:Int):=by rw [Int.natAbs_mul,Int.natCast_mul];rfl
 unfold In
 rw [eA]
 have a1:=mulR z2 hq
 have a2:=mulR z3 hq
 rw [Int.neg_mul] at a1
 constructor
 ·rcases z1 with rfl|g|g
  ·rw [Int.zero_mul];omega
  ·have:=mulR g hq;omega
  ·have:=mulR g hq;rw [Int.neg_mul] at this;omega
 ·omega
end Sm
end
section
open Go Go.RowKit Eng Sp Dg L2
namespace Sm
open Sb Dy R7
theorem zf3 {lo hi l u p:Int} {q:Nat} (h:In lo hi p q) (hs:SqP lo hi l u):In l u (p*p) (q*q):=by
 obtain ⟨a,b,hz,h1,h2⟩:=hs
 obtain ⟨g1,g2⟩:=zbz h hz
 have hq:(0:Int)≤(q:Int):=Int.natCast_nonneg q
 have ha:0≤a*(q:Int):=Int.mul_nonneg hz.1 hq
 have hn:0≤(p.natAbs:Int)*(S1000:Int):=Int.mul_nonneg (by omega) (Int.le_of_lt qi)
 have hb:0≤b*(q:Int):=Int.le_trans hn g2
 have k1:=Int.mul_le_mul g1 g1 ha hn
 have k2:=Int.mul_le_mul g2 g2 hn hb
 have hpp:(p.natAbs:Int)*(p.natAbs:Int)=p*p:=by
  have:(p.natAbs:Int)=p∨(p.natAbs:Int)= -p:=by omega
  rcases this with e|e
  ·rw [e]
  ·rw [e,Int.neg_mul_neg]
 have eS:(p.natAbs:Int)*(S1000:Int)*((p.natAbs:Int)*(S1000:Int))=p*p*(S1000:Int)*(S1000:Int):=by rw [ac4,hpp]
 rw [eS] at k1 k2
 have hQ:(0:Int)≤(q:Int)*(q:Int):=Int.mul_nonneg hq hq
 have m1:=mulR h1 hQ
 have m2:=mulR h2 hQ
 have e1:∀z:Int,z*(q:Int)*(z*(q:Int))=z*z*((q:Int)*(q:Int)):=fun z=>by ac_rfl
 rw [e1] at k1 k2
 unfold In
 rw [Int.natCast_mul]
 refine ⟨canS ?_,canS ?_⟩
 ·rw [show l*((q:Int)*(q:Int))*(S1000:Int)=l*(S1000:Int)*((q:Int)*(q:Int)) from Int.mul_right_comm ..];omega
 ·rw [show u*((q:Int)*(q:Int))*(S1000:Int)=u*(S1000:Int)*((q:Int)*(q:Int)) from Int.mul_right_comm ..];omega
theorem cross {a b c d S x y:Int} (h:a*b≤c*d) (hS:0≤S):a*S*b≤c*S*d:=by
 have:=mulR h hS
 rw [Int.mul_right_comm a,Int.mul_right_comm c];exact this
theorem zb1 {lo hi lo' hi' p p':Int} {q q':Nat} (h:In lo hi p q) (h':In lo' hi' p' q') (hq':0<q') (hle:p*(q':Int)≤p'*(q:Int)):In (min lo lo') (min hi hi') p q:=by
 have hq:(0:Int)≤(q:Int):=Int.natCast_nonneg q
 have a1:=mulR (show min lo lo'≤lo by omega) hq
 refine ⟨Int.le_trans a1 h.1, ?_⟩
 rcases Int.le_total hi hi' with g|g
 ·rw [show min hi hi'=hi by omega];exact h.2
 ·rw [show min hi hi'=hi' by omega]
  refine Int.le_of_mul_le_mul_right (a:=(q':Int)) ?_ (by omega)
  have b1:=cross (x:=0) (y:=0) hle (Int.le_of_lt qi)
  have b2:=mulR h'.2 hq
  rw [Int.mul_right_comm hi']
  exact Int.le_trans b1 b2
theorem zb0 {lo hi lo' hi' p p':Int} {q q':Nat} (h:In lo hi p q) (h':In lo' hi' p' q') (hq':0<q') (hle:p'*(q:Int)≤p*(q':Int)):In (max lo lo') (max hi hi') p q:=by
 have hq:(0:Int)≤(q:Int):=Int.natCast_nonneg q
 have a1:=mulR (show hi≤max hi hi' by omega) hq
 refine ⟨?_,Int.le_trans h.2 a1⟩
 rcases Int.le_total lo' lo with g|g
 ·rw [show max lo lo'=lo by omega];exact h.1
 ·rw [show max lo lo'=lo' by omega]
  refine Int.le_of_mul_le_mul_right (a:=(q':Int)) ?_ (by omega)
  have b1:=cross (x:=0) (y:=0) hle (Int.le_of_lt qi)
  have b2:=mulR h'.1 hq
  rw [Int.mul_right_comm lo']
  exact Int.le_trans b2 b1
theorem canS2 {l a b c d S:Int} (hS:0<S) (h:l*(a*(b*S))≤c*S*d*S):l*(a*b)≤c*d*S:=by
 refine Int.le_of_mul_le_mul_right (a:=S) ?_ hS
 rw [show l*(a*b)*S=l*(a*(b*S)) by ac_rfl,show c*d*S*S=c*S*d*S by ac_rfl];exact h
theorem canS3 {l a b c d S:Int} (hS:0<S) (h:c*S*d*S≤l*(a*(b*S))):c*d*S≤l*(a*b):=by
 refine Int.le_of_mul_le_mul_right (a:=S) ?_ hS
 rw [show l*(a*b)*S=l*(a*(b*S)) by ac_rfl,show c*d*S*S=c*S*d*S by ac_rfl];exact h
theorem zfi {lo hi lo' hi' l u p p':Int} {q q':Nat} (h:In lo hi p q) (h':In lo' hi' p' q') (hq:0<q) (hq':0<q') (hle:lo'≤hi') (hs:0<lo'∨hi'<0) (hQ:QP lo hi lo' hi' l u):p'≠0∧In l u (sgZ p'*(p*(q':Int))) (q*p'.natAbs):=by
 have hqi:(0:Int)<(q:Int):=by omega
 have hqi':(0:Int)<(q':Int):=by omega
 obtain ⟨k1,k2⟩:=hQ (p*(S1000:Int)) q (p'*(S1000:Int)) q' hqi hqi' h.1 h.2 h'.1 h'.2
 unfold In
 rw [Int.natCast_mul]
 rcases hs with g|g
 ·have hp:0<p':=by
   have a:=Int.mul_pos g hqi'
   have b:=h'.1
   rcases Int.lt_or_le 0 p' with c|c
   ·exact c
   ·have:=Int.mul_nonpos_of_nonpos_of_nonneg c (Int.le_of_lt qi);omega
  have hz:sgZ p'=1:=by unfold sgZ;rw [if_neg (by omega),if_neg (by omega)]
  obtain ⟨m1,m2⟩:=k1 g
  rw [hz,Int.one_mul,show (p'.natAbs:Int)=p' by omega]
  exact ⟨by omega,canS2 qi m1,canS3 qi m2⟩
 ·have hp:p'<0:=by
   have a:=Int.mul_neg_of_neg_of_pos g hqi'
   have b:=h'.2
   rcases Int.lt_or_le p' 0 with c|c
   ·exact c
   ·have:=Int.mul_nonneg c (Int.le_of_lt qi);omega
  have hz:sgZ p'= -1:=by unfold sgZ;rw [if_neg (by omega),if_pos hp]
  obtain ⟨m1,m2⟩:=k2 g
  rw [←Int.neg_mul,←Int.neg_mul] at m1 m2
  rw [hz,show (p'.natAbs:Int)= -p' by omega,show -1*(p*(q':Int))= -p*(q':Int) by rw [Int.neg_mul,Int.neg_mul,Int.one_mul]]
  exact ⟨by omega,canS2 qi m1,canS3 qi m2⟩
end Sm
end
section
open Go Go.RowKit Eng Sp Dg L2
namespace Sm
def arF (P:Program) (t:TypeId):Bool:=match P.underlying t with
 |some (.array n e)=>n==4&&(match P.info? e with
  |some i=>i.size==6
  |none=>false)&&(match P.underlying e with
  |some (.array _ _)=>true
  |_=>false)
 |_=>false
theorem zef {P:Program} {t:TypeId} (h:arF P t=true):∃e i m f,P.underlying t=some (.array 4 e)∧P.info? e=some i∧i.size=6∧P.underlying e=some (.array m f):=by
 unfold arF at h
 split at h
 ·rename_i n e hu
  simp only [Bool.and_eq_true] at h
  obtain ⟨⟨h1,h2⟩,h3⟩:=h
  split at h2
  ·rename_i i hi
   split at h3
   ·rename_i m f hf
    have:n=4:=eq_of_beq h1
    subst this
    exact ⟨e,i,m,f,hu,hi,eq_of_beq h2,hf⟩
   ·cases h3
  ·cases h2
 ·cases h
theorem zdq {P:Program} {t:TypeId} (hT:arF P t=true) (w:World) (cs out:Array Value) {j:Nat} (hj:j<4) (he:cs.extract (j*6) (j*6+6)=out):(Instr.index t (.agg cs) (.int .i64 (j:Int))).run P w= .ok (.agg out) w:=by
 obtain ⟨e,i,m,f,hu,hi,hs,hf⟩:=zef hT
 simp only [Instr.index,asIntOf,underlying,program,Sem.run_bind,Sem.run,Result.andThen,hu,Sem.run_pure]
 simp [hj,show (0:Int)≤(j:Int) by omega,show (j:Int)<4 by omega,sizeOf,typeInfo,program,Sem.run,hi,hs,part,isAgg,underlying,hf,he]
end Sm
end
section
open Go Go.RowKit Eng Sp Dg
namespace Sm
open Sb
open _root_.Go.Proofs.YtbeiopoejdkheaaGreatDoor.Mul (Only)
structure DY where
  n:Bool
  s:Slc
  e:Int
def DY.cs (d:DY):List Value:= [.bool d.n,d.s.v, .int .i64 d.e]
def dys:List DY→List Value
 | []=> []
 |d::l=>d.cs++dys l
theorem Zu:∀l:List DY,(dys l).length=l.length*3
 | []=>rfl
 |d::l=>by
  have:(dys (d::l)).length=(dys l).length+3:=rfl
  rw [this,Zu l,List.length_cons,Nat.add_mul]
theorem Zt:∀(l:List DY) (d:DY),dys (l++ [d])=dys l++d.cs
 | [],d=>by simp [dys]
 |a::l,d=>by
  show a.cs++dys (l++ [d])=a.cs++dys l++d.cs
  rw [Zt l d,List.append_assoc]
def nU (v:Value):Bool:=match v with
 | .int .u64 _=>false
 |_=>true
theorem noUof {cs:Array Value} (h:∀v∈cs.toList,nU v=true):Sb.noU cs=true:=List.all_eq_true.2 h
theorem Cm {cs:Array Value} (h:Sb.noU cs=true):∀v∈cs.toList,nU v=true:=List.all_eq_true.1 h
theorem zb5:∀(l:List DY),∀v∈dys l,nU v=true
 | [],v,h=>by cases h
 |d::l,v,h=>by
  rcases List.mem_append.1 h with h|h
  ·unfold DY.cs at h
   rcases List.mem_cons.1 h with rfl|h
   ·rfl
   ·rcases List.mem_cons.1 h with rfl|h
    ·rfl
    ·rcases List.mem_cons.1 h with rfl|h
     ·rfl
     ·cases h
  ·exact zb5 l v h
theorem zew {z:Array Value} (hz:Sb.noU z=true) (n:Nat):∀v∈(Builtin.zeroCells z n).toList,nU v=true:=by
 intro v hv
 unfold Builtin.zeroCells at hv
 rw [Array.toList_map,List.mem_map] at hv
 obtain ⟨i,hi,rfl⟩:=hv
 have hi':i<n*z.size:=by simpa using hi
 have hp:0<z.size:=by
  rcases Nat.eq_zero_or_pos z.size with h|h
  ·rw [h] at hi';omega
  ·exact h
 have hm:=Nat.mod_lt i hp
 have:z[i % z.size]! =z[i % z.size]:=by simp [hm]
 rw [this]
 exact Cm hz _ (by simp)
structure Grw (row:Option Nat) (w w':World):Prop where
  rd:∀s l,Rd .u64 w s l→Rd .u64 w' s l
  ah:∀w0,Ahead w0 w→(∀g,row=some g→w0.heap.size≤g)→Ahead w0 w'
  bl:∀b cs,Blk w b cs→some b≠row→Blk w' b cs
  sz:w.heap.size≤w'.heap.size
def DRow (e:TypeId) (base:Nat) (w:World) (s:Slc) (ds:List DY):Prop:=(s=⟨none,0,0⟩∧ds= [])∨
 ∃g cap cur,s=⟨some ⟨g,0,none⟩,ds.length,cap⟩∧base≤g∧w.heap[g]? =some (.cells cur e (0,0))∧ds.length≤cap∧cap≤maxLen∧cur.size=cap*3∧cur.toList.take (ds.length*3)=dys ds∧Sb.noU cur=true
theorem DRow.nil {e:TypeId} {base:Nat} {w:World} :DRow e base w ⟨none,0,0⟩ []:= .inl ⟨rfl,rfl⟩
theorem DRow.keep {e:TypeId} {base:Nat} {w} {w':World} {s} {ds:List DY} (h:DRow e base w s ds) (hk:∀g,s.v.ownBlock=some g→g<w.heap.size→w'.heap[g]? =w.heap[g]?):DRow e base w' s ds:=by
 rcases h with h|⟨g,cap,cur,rfl,hg,hh,hr⟩
 ·exact .inl h
 ·exact .inr ⟨g,cap,cur,rfl,hg,by rw [hk g rfl (Array.getElem?_eq_some_iff.1 hh).1,hh],hr⟩
theorem DRow.ahead {e:TypeId} {base:Nat} {w w' s} {ds:List DY} (h:DRow e base w s ds) (a:Ahead w w'):DRow e base w' s ds:=
 h.keep fun g _ hg=>Below.block a g hg
theorem DRow.lt {e:TypeId} {base:Nat} {w s} {ds:List DY} (h:DRow e base w s ds) {g:Nat} (hg:s.v.ownBlock=some g):base≤g∧g<w.heap.size:=by
 rcases h with ⟨rfl,_⟩|⟨g',cap,cur,rfl,h1,hh,_⟩
 ·cases hg
 ·obtain rfl:g'=g:=Option.some.inj hg
  exact ⟨h1,(Array.getElem?_eq_some_iff.1 hh).1⟩
def sl3 (P:Program) (t e:TypeId):Bool:=match P.underlying t with
 |some (.slice e')=>Nat.beq e' e&&(match P.info? e with
  |some i=>Nat.beq i.size 3&&Nat.ble i.bytes 48&&(match i.zero with
   |some z=>Nat.beq z.cells.size 3&&Sb.noU z.cells
   |none=>false)
  |none=>false)
 |_=>false
theorem ze4 {P:Program} {t e:TypeId} (h:sl3 P t e=true):P.underlying t=some (.slice e)∧∃i z,P.info? e=some i∧i.size=3∧i.bytes≤48∧i.zero=some z∧z.cells.size=3∧Sb.noU z.cells=true:=by
 unfold sl3 at h
 split at h
 ·rename_i e' hu
  simp only [Bool.and_eq_true] at h
  obtain ⟨h1,h2⟩:=h
  have:e'=e:=Nat.eq_of_beq_eq_true h1
  subst this
  split at h2
  ·rename_i i hi
   simp only [Bool.and_eq_true] at h2
   obtain ⟨⟨h3,h4⟩,h5⟩:=h2
   split at h5
   ·rename_i z hz
    simp only [Bool.and_eq_true] at h5
    exact ⟨hu,i,z,hi,Nat.eq_of_beq_eq_true h3,Nat.le_of_ble_eq_true h4,hz,Nat.eq_of_beq_eq_true h5.1,h5.2⟩
   ·cases h5
  ·cases h2
 ·cases h
theorem Tn (d:DY):d.cs.length=3:=rfl
theorem cell3 {w} {b:Nat} {d:DY} (B:Blk w b (c3 d.n d.s d.e)):∀j u,d.cs[j]? =some u→w.cell? ((⟨b,0,none⟩:Addr).add j)=some u:=by
 intro j u hj
 have hj':j<3:=(List.getElem?_eq_some_iff.1 hj).1
 rw [zz]
 refine B.cell ?_
 have:(c3 d.n d.s d.e)[j]? =d.cs[j]? :=by
  rw [←Array.getElem?_toList];rfl
 rw [this,hj]
theorem zdi {e:TypeId} {w:World} {xs ys:List Value} {z:Array Value} {m c n:Nat} (hx:xs.length=3*m) (hy:ys.length=3) (hz:z.size=3) (hnz:Sb.noU z=true) (hxy:∀v∈xs++ys,nU v=true) (hc:m+1≤c):Sb.noU (xs.toArray++ys.toArray++Builtin.zeroCells z (c -(m+1)))=true∧(xs.toArray++ys.toArray++Builtin.zeroCells z (c -(m+1))).size=c*3∧(xs.toArray++ys.toArray++Builtin.zeroCells z (c -(m+1))).toList.take ((m+1)*3)=xs++ys:=by
 refine ⟨noUof fun v hv=> ?_, ?_, ?_⟩
 ·simp only [Array.toList_append] at hv
  rcases List.mem_append.1 hv with h|h
  ·exact hxy v h
  ·exact zew hnz _ v h
 ·simp only [Array.size_append,List.size_toArray,size_zeroCells,hx,hy,hz]
  omega
 ·simp only [Array.toList_append]
  have:(m+1)*3=(xs++ys).length:=by rw [List.length_append,hx,hy];omega
  rw [this]
  exact List.take_left
theorem app3 {t e ty:TypeId} {base:Nat} {w s} {ds:List DY} {b:Nat} {d:DY} (h:DRow e base w s ds) (B:Blk w b (c3 d.n d.s d.e)) (hb:base≤w.heap.size) (hsz:ds.length+1≤1000) {K:Slc→World→Prop} (hk:∀s' w',DRow e base w' s' (ds++ [d])→Grw s.v.ownBlock w w'→K s' w') (hT:sl3 pr t e=true:=by kernel_rfl):semS pr (Builtin.append_ #[t,t] ty #[s.v,(⟨some ⟨b,0,none⟩,1,1⟩:Slc).v]) w K:=by
 obtain ⟨hu,inf,z,hinf,hs,hby,hz,hzc,hnz⟩:=ze4 hT
 have hnews:=cell3 B
 have hl1:d.cs.length=1*inf.size:=by rw [hs];rfl
 have hnd:∀v∈dys ds++d.cs,nU v=true:=by rw [←Zt];exact zb5 _
 have grown:∀c,ds.length+1≤c→c≤maxLen→∀o,o=Obj.cells ((dys ds).toArray++d.cs.toArray++Builtin.zeroCells z.cells (c -(ds.length+1))) e (0,0)→
   DRow e base (w.drew.alloc o) ⟨some ⟨w.heap.size,0,none⟩,ds.length+1,c⟩ (ds++ [d]):=by
  rintro c h1 h2 o rfl
  obtain ⟨n1,n2,n3⟩:=zdi (e:=e) (w:=w) (n:=0) (by rw [Zu,Nat.mul_comm]) rfl hzc hnz hnd h1
  refine .inr ⟨w.heap.size,c,_,by simp,hb,heap_alloc_new w.drew _,by simpa using h1,h2,n2, ?_,n1⟩
  rw [Zt,List.length_append]
  exact n3
 have gr:∀(row:Option Nat) o,Grw row w (w.drew.alloc o):=fun row o=>by
  have a:Ahead w (w.drew.alloc o):=Ahead.trans (Ahead.drew w) (Ahead.alloc w.drew o)
  exact ⟨fun s l r=>r.ahead a,fun w0 h0 _=>Ahead.trans h0 a,fun b cs B _=>B.ahead a,a.size⟩
 unfold semS
 rw [Sem.wp_iff_run]
 have hx:(⟨some ⟨b,0,none⟩,1,1⟩:Slc).v= .slice (some ⟨b,0,none⟩) 1 1:=rfl
 rcases h with ⟨rfl,rfl⟩|⟨g,cap,cur,rfl,hg,hh,hc,hcm,hcs,htk,hnu⟩
 ·have hr:=run_append_nil (P:=pr) w t ty e inf z hu hinf hz ⟨b,0,none⟩ 1 1 d.cs hl1 hnews (by omega) (by omega) (by omega)
  rw [hx,show Slc.v ⟨none,0,0⟩= .slice none 0 0 from rfl,hr]
  have hge:=grownCap_ge w 1 0 e
  have hcm:=grownCap_le_maxLen w 1 0 e (by unfold maxLen;omega)
  exact ⟨⟨some ⟨w.heap.size,0,none⟩,1,grownCap w 1 0 e⟩,rfl,hk _ _ (grown _ hge hcm _ (by simp [dys])) (gr _ _)⟩
 ·by_cases hroom:ds.length+1≤cap
  ·have hfit:ds.length*inf.size+d.cs.length≤cur.size:=by rw [hs,hcs,Tn];omega
   have hr:=run_append_room (P:=pr) w t ty e inf hu hinf g ds.length cap cur hh ⟨b,0,none⟩ 1 1 d.cs hl1 hnews
    (fun u hu=>by
     unfold DY.cs at hu
     rcases List.mem_cons.1 hu with rfl|hu
     ·rfl
     ·rcases List.mem_cons.1 hu with rfl|hu
      ·simp [Value.oneCell',Slc.v]
      ·rcases List.mem_cons.1 hu with rfl|hu
       ·rfl
       ·cases hu) hroom hfit
   rw [hx,show Slc.v ⟨some ⟨g,0,none⟩,ds.length,cap⟩= .slice (some ⟨g,0,none⟩) ds.length cap from rfl,hr]
   have hB:Blk w g cur:=⟨e,hh⟩
   have ho:Only g w (w.setRow g (cur.toList.take (ds.length*inf.size)++d.cs++cur.toList.drop (ds.length*inf.size+d.cs.length)).toArray):=⟨rfl,rfl,rfl,by simp [World.setRow],fun j hj=>setRow_other w g j _ hj⟩
   refine ⟨⟨some ⟨g,0,none⟩,ds.length+1,cap⟩,rfl,hk _ _ (.inr ⟨g,cap,_,by simp,hg,setRow_heap w g cur _ e _ hh,by simpa using hroom,hcm, ?_, ?_, ?_⟩) ⟨fun s l r=>ho.rd r (Cq hB hnu r),fun w0 h0 hq=>ho.ahead h0 (hq g rfl),fun b' cs' B' hne=>B'.only ho (fun q=>hne (by rw [q];rfl)),Nat.le_of_eq ho.2.2.2.1.symm⟩⟩
   ·simp only [List.size_toArray,List.length_append,List.length_take,List.length_drop,Array.length_toList,hs,Tn]
    omega
   ·rw [hs,htk,Zt,List.length_append]
    have:(ds.length+ [d].length)*3=(dys ds++d.cs).length:=by rw [List.length_append,Zu,Tn];show (ds.length+1)*3=_;omega
    rw [this]
    show (dys ds++d.cs++_).take _=_
    exact List.take_left
   ·refine noUof fun v hv=> ?_
    rw [hs,htk] at hv
    rcases List.mem_append.1 hv with hv|hv
    ·exact hnd v hv
    ·exact Cm hnu v (List.mem_of_mem_drop hv)
  ·have holds:∀j u,(dys ds)[j]? =some u→w.cell? ((⟨g,0,none⟩:Addr).add j)=some u:=by
    intro j u hj
    rw [zz]
    refine Blk.cell ⟨e,hh⟩ ?_
    rw [←htk,List.getElem?_take] at hj
    split at hj
    ·rw [←Array.getElem?_toList];exact hj
    ·cases hj
   have hr:=run_append_grow (P:=pr) w t ty e inf z hu hinf hz ⟨g,0,none⟩ ds.length cap (dys ds) (by rw [Zu,hs]) holds ⟨b,0,none⟩ 1 1 d.cs hl1 hnews (by omega) (by omega)
    (growslice_fits (by omega) (Nat.le_trans (Nat.mul_le_mul (Nat.le_refl (ds.length+1)) hby) (by omega)))
   rw [hx,show Slc.v ⟨some ⟨g,0,none⟩,ds.length,cap⟩= .slice (some ⟨g,0,none⟩) ds.length cap from rfl,hr]
   have hge:=grownCap_ge w (ds.length+1) cap e
   have hcm2:=grownCap_le_maxLen w (ds.length+1) cap e (by unfold maxLen;omega)
   exact ⟨⟨some ⟨w.heap.size,0,none⟩,ds.length+1,grownCap w (ds.length+1) cap e⟩,rfl,hk _ _ (grown _ hge hcm2 _ rfl) (gr _ _)⟩
end Sm
end
section
open Go Go.RowKit Eng Sp Dg L2
namespace Sm
open Sb Dy R7
open _root_.Go.Proofs.YtbeiopoejdkheaaGreatDoor.Mul (Only)
theorem Cf:∀(l:List DY) (z:DY) (i:Nat),i<l.length→(dys l)[3*i]? =some (.bool (l.getD i z).n)∧(dys l)[3*i+1]? =some (l.getD i z).s.v∧(dys l)[3*i+2]? =some (.int .i64 (l.getD i z).e)
 | [],z,i,h=>by simp at h
 |a::l,z,0,h=>⟨rfl,rfl,rfl⟩
 |a::l,z,i+1,h=>by
  have:=Cf l z i (by simpa using h)
  have e:∀k,(dys (a::l))[3*(i+1)+k]? =(dys l)[3*i+k]? :=fun k=>by
   show (a.cs++dys l)[3*(i+1)+k]? =_
   rw [List.getElem?_append_right (by show 3≤_;omega)]
   congr 1
   show 3*(i+1)+k -3=_
   omega
  rw [show 3*(i+1)=3*(i+1)+0 from rfl,e 0,e 1,e 2]
  exact this
def At3 (w:World) (g o:Nat) (d:DY):Prop:=w.cell? ⟨g,o,none⟩=some (.bool d.n)∧w.cell? ⟨g,o+1,none⟩=some d.s.v∧w.cell? ⟨g,o+2,none⟩=some (.int .i64 d.e)
theorem At3.ahead {w w'} {g o:Nat} {d:DY} (h:At3 w g o d) (a:Ahead w w'):At3 w' g o d:=⟨a.cell h.1,a.cell h.2.1,a.cell h.2.2⟩
theorem At3.ld {w} {g o:Nat} {d:DY} {F:Bool→Slc→Int→Prop} (h:At3 w g o d) (hk:F d.n d.s d.e):ldB ⟨g,o,none⟩ w fun b=>ldS ((⟨g,o,none⟩:Addr).add 1) w fun s=>ldI .i64 ((⟨g,o,none⟩:Addr).add 2) w fun x=>F b s x:=
 ⟨_,h.1,_,by rw [tj];exact h.2.1,_,by rw [tj];exact h.2.2,hk⟩
theorem At3.lt {w} {g o:Nat} {d:DY} (h:At3 w g o d):g<w.heap.size:=by
 have h:=h.1
 unfold World.cell? at h
 split at h
 ·rename_i hh;exact (Array.getElem?_eq_some_iff.1 hh).1
 ·cases h
structure R3 (w:World) (s:Slc) (m:Nat) (d:Nat→DY):Prop where
  n:s.n=m
  c:m≤s.c
  get:∃g o,s.A=some ⟨g,o,none⟩∧∀i,i<m→At3 w g (o+3*i) (d i)
theorem DRow.r3 {e:TypeId} {base:Nat} {w s} {ds:List DY} (h:DRow e base w s ds) (z:DY) (hne:ds≠ []):R3 w s ds.length (fun i=>ds.getD i z):=by
 rcases h with ⟨_,h⟩|⟨g,cap,cur,rfl,h1,hh,hc,_,hs,ht,_⟩
 ·exact absurd h hne
 ·refine ⟨rfl,hc,g,0,rfl,fun i hi=> ?_⟩
  obtain ⟨q0,q1,q2⟩:=Cf ds z i hi
  have key:∀j u,(dys ds)[j]? =some u→w.cell? ⟨g,j,none⟩=some u:=fun j u hj=>by
   refine Blk.cell ⟨e,hh⟩ ?_
   rw [←ht,List.getElem?_take] at hj
   split at hj
   ·rw [←Array.getElem?_toList];exact hj
   ·cases hj
  rw [Nat.zero_add]
  exact ⟨key _ _ q0,key _ _ q1,key _ _ q2⟩
def isS3 (P:Program) (t:TypeId):Bool:=match P.underlying t with
 |some (.slice e)=>match P.info? e with
  |some i=>i.size==3
  |none=>false
 |_=>false
theorem Hs {P:Program} {t:TypeId} (h:isS3 P t=true):∃e i,P.underlying t=some (.slice e)∧P.info? e=some i∧i.size=3:=by
 unfold isS3 at h
 split at h
 ·rename_i e hu
  split at h
  ·rename_i i hi
   exact ⟨e,i,hu,hi,by simpa using h⟩
  ·cases h
 ·cases h
theorem Cx {P:Program} {t:TypeId} (hT:isS3 P t=true) (w:World) {s:Slc} {g o i:Nat} (hA:s.A=some ⟨g,o,none⟩) (h1:i<s.n):(Instr.indexAt t s.v (.int .i64 (i:Int))).run P w= .ok (.pointer (some ⟨g,o+3*i,none⟩)) w:=by
 obtain ⟨e,inf,hu,hi,hs⟩:=Hs hT
 obtain ⟨A,n,c⟩:=s
 simp only at hA h1
 subst hA
 have e1:(⟨g,o,none⟩:Addr).add (i*3)=⟨g,o+3*i,none⟩:=by rw [tj,Nat.mul_comm]
 simp only [Instr.indexAt,asIntOf,Slc.v,underlying,program,Sem.run_bind,Sem.run,Result.andThen,hu,Sem.run_pure]
 simp [h1,show (i:Int)<(n:Int) by omega,show (0:Int)≤(i:Int) by omega,sizeOf,typeInfo,program,Sem.run,hi,hs,hu,e1]
theorem ze3 {P:Program} {t:TypeId} (hT:isS3 P t=true) (w:World) {s:Slc} {g o:Nat} (hA:s.A=some ⟨g,o,none⟩) (h1:2≤s.n) (h2:s.n≤s.c):(Instr.sliceAt t s.v (some (.int .i64 1)) none none).run P w= .ok (Slc.v ⟨some ⟨g,o+3,none⟩,s.n -1,s.c -1⟩) w:=by
 obtain ⟨e,inf,hu,hi,hs⟩:=Hs hT
 obtain ⟨A,n,c⟩:=s
 simp only at hA h1 h2
 subst hA
 have e1:(⟨g,o,none⟩:Addr).add 3=⟨g,o+3,none⟩:=tj
 have hc:¬c=1:=by omega
 have hn1:(1:Int)≤(n:Int):=by omega
 simp [Instr.sliceAt,Instr.slice,Instr.sliceBounds,Instr.sliceBound,run_underlying hu,asIntOf,hn1,hc,sizeOf,typeInfo,hi,hs,Slc.v,e1]
def Chg (b:Nat) (w w':World):Prop:=∃w1,Ahead w w1∧Upd b w1 w'
theorem Chg.ahead {b:Nat} {w0 w w'} (h:Chg b w w') (a:Ahead w0 w) (hb:w0.heap.size≤b):Ahead w0 w':=by
 obtain ⟨w1,h1,u⟩:=h;exact u.ahead (a.trans h1) hb
theorem Chg.blk {b c:Nat} {w w'} {cs:Array Value} (h:Chg b w w') (B:Blk w c cs) (hne:c≠b):Blk w' c cs:=by
 obtain ⟨w1,h1,u⟩:=h;exact u.blk (B.ahead h1) hne
theorem Chg.dv {b:Nat} {w w' n s} {e:Int} {K:Nat} {v:Int} (h:Chg b w w') (d:Dv w n s e K v):Dv w' n s e K v:=by
 obtain ⟨w1,h1,u⟩:=h;exact (d.ahead h1).upd u
theorem stage {w} {b7 b2:Nat} {n n':Bool} {s s':Slc} {e e' v v':Int} {K:Nat} {c:Int→Bool} {F:World→Prop} (hT:Tab w) (B7:Blk w b7 (c3 n s e)) (B2:Blk w b2 (c3 n' s' e')) (hne:b7≠b2) (h:Dv w n s e K v) (h':Dv w n' s' e' K v') (hk:∀w' n1 s1 e1 v1,Chg b2 w w'→Blk w' b7 (c3 n s e)→Blk w' b2 (c3 n1 s1 e1)→Dv w' n1 s1 e1 K v1→((c (cmpZ v v')=true∧v1=v)∨(c (cmpZ v v')=false∧v1=v'))→F w'):ldB ⟨b7,0,none⟩ w fun b4=>ldS ((⟨b7,0,none⟩:Addr).add 1) w fun s5=>ldI .i64 ((⟨b7,0,none⟩:Addr).add 2) w fun x4=>ldB ⟨b2,0,none⟩ w fun b5=>ldS ((⟨b2,0,none⟩:Addr).add 1) w fun s6=>ldI .i64 ((⟨b2,0,none⟩:Addr).add 2) w fun x5=>Calls pr dyadic_Compare_id #[Value.agg #[Value.bool b4,s5.v,Value.int .i64 x4],Value.agg #[Value.bool b5,s6.v,Value.int .i64 x5]] w fun e1 w16=>∃x6:Int,∃x7:Int,e1= .returned (Value.tuple #[Value.int .i64 x6,Value.int .i64 x7])∧(br (c x6) (ldB ⟨b7,0,none⟩ w16 fun b6=>ldS ((⟨b7,0,none⟩:Addr).add 1) w16 fun s7=>ldI .i64 ((⟨b7,0,none⟩:Addr).add 2) w16 fun x8=>stC ⟨b2,0,none⟩ (Value.bool b6) w16 fun w17=>stC ((⟨b2,0,none⟩:Addr).add 1) s7.v w17 fun w18=>stC ((⟨b2,0,none⟩:Addr).add 2) (Value.int .i64 x8) w18 fun w19=>F w19) (F w16)):=by
 refine get3 B7 (get3 B2 (Calls.mono (Vw hT h h') ?_))
 rintro en w16 ⟨a16,rfl⟩
 refine ⟨_,_,rfl,zm (fun hc=> ?_) (fun hc=> ?_)⟩
 ·exact get3 (B7.ahead a16) (set3 (B2.ahead a16) fun w19 u19 B19=>hk w19 n s e v ⟨w16,a16,u19⟩ (u19.blk (B7.ahead a16) hne) B19 ((h.ahead a16).upd u19) (.inl ⟨hc,rfl⟩))
 ·exact hk w16 n' s' e' v' ⟨w16,a16,Only.refl _ _,fun _ _ r=>r⟩ (B7.ahead a16) (B2.ahead a16) (h'.ahead a16) (.inr ⟨hc,rfl⟩)
theorem Cb {b:Nat} {V:Nat→Prop} {w w'} (u:Upd b w w') (hb:V b):Bar V w w':=
 ⟨u.only.1,u.only.2.1,u.only.2.2.1,Nat.le_of_eq u.only.2.2.2.1.symm,fun k hk hv=>u.only.2.2.2.2 k (fun q=>hv (q▸hb))⟩
def HJ (w:World) (d:Nat→DY) (v:Nat→Int) (K:Nat) (pos:Int):Int→Addr→Addr→Addr→Slc→Int→Int→World→Prop:=fun p t4 t6 t7 t21 t22 t23 w_=>
 p=pos∧R3 w t21 3 (fun i=>d (i+1))∧t22=3∧∃(b1 b2 b3 k:Nat) (n1:Bool) (s1:Slc) (e1 v1:Int) (n2:Bool) (s2:Slc) (e2 v2:Int),t4=⟨b1,0,none⟩∧t6=⟨b2,0,none⟩∧t7=⟨b3,0,none⟩∧
  w.heap.size≤b1∧b1<b2∧b1<b3∧b2≠b3∧t23=(k:Int)∧k≤3∧Ahead w w_∧Blk w_ b1 (c6 false ⟨none,0,0⟩ 0 false ⟨none,0,0⟩ 0)∧Blk w_ b2 (c3 n1 s1 e1)∧Blk w_ b3 (c3 n2 s2 e2)∧
  Dv w_ n1 s1 e1 K v1∧Dv w_ n2 s2 e2 K v2∧∀i,i≤k→v1≤v i∧v i≤v2
theorem Hr {t:TypeId} {w w9 s} {d:Nat→DY} {v:Nat→Int} {K:Nat} {pos:Int} {b1 bA bB:Nat} (r:R3 w s 4 d) (D:Dv w (d 0).n (d 0).s (d 0).e K (v 0)) (h1:w.heap.size≤b1) (hA:b1<bA) (hB:b1<bB) (hne:bA≠bB) (a:Ahead w w9) (B1:Blk w9 b1 (c6 false ⟨none,0,0⟩ 0 false ⟨none,0,0⟩ 0)) (BA:Blk w9 bA (c3 (d 0).n (d 0).s (d 0).e)) (BB:Blk w9 bB (c3 (d 0).n (d 0).s (d 0).e)) (hT:isS3 pr t=true:=by kernel_rfl):semS pr (Instr.sliceAt t s.v (some (.int .i64 1)) none none) w9 fun s3 w10=>HJ w d v K pos pos ⟨b1,0,none⟩ ⟨bA,0,none⟩ ⟨bB,0,none⟩ s3 (s3.n:Int) 0 w10:=by
 obtain ⟨g,o,hs,hg⟩:=r.get
 have hn:=r.n
 have hc:=r.c
 unfold semS
 rw [Sem.wp_iff_run,ze3 hT w9 hs (by omega) (by omega)]
 refine ⟨_,rfl,rfl,⟨by simp only;omega,by simp only;omega,g,o+3,rfl,fun i hi=> ?_⟩,by simp only;omega,b1,bA,bB,0,_,_,_,v 0,_,_,_,v 0,rfl,rfl,rfl,h1,hA,hB,hne,rfl,by omega,a,B1,BA,BB,D.ahead a,D.ahead a,fun i hi=> ?_⟩
 ·have:=hg (i+1) (by omega)
  rw [show o+3+3*i=o+3*(i+1) by omega]
  exact this
 ·obtain rfl:i=0:=by omega
  exact ⟨Int.le_refl _,Int.le_refl _⟩
theorem zeq {w s} {d:Nat→DY} {v:Nat→Int} {K:Nat} {pos:Int} (hT:Tab w) (r:R3 w s 4 d) (D:∀i,i<4→Dv w (d i).n (d i).s (d i).e K (v i)) (hp: -150≤pos∧pos≤50) (hK:1100≤K) (hK':K+1≤262144):Calls pr span_hull_id #[.int .i64 pos,s.v] w fun en w'=>Ahead w w'∧AS (K+1) (fun l u=>∀i,i<4→l≤v i∧v i≤u) en w':=by
 refine Gu pos s w _ (HJ w d v K pos) (fun _ _ _ _ _ t22 t23 _=>(t22 -t23).toNat) (yv fun b1 w1 hb1 h1 z1 B1=> ?_) ?_
 ·obtain ⟨g,o,hA,hg⟩:=r.get
  have h0:=hg 0 (by omega)
  have hgl:=h0.lt
  have hz:=h1.size
  have hd:Ahead w w1.drew:=h1.trans (Ahead.drew w1)
  have hn:=r.n
  have run:=fun (t:TypeId) (hS:isS3 pr t=true) w'=>Cx (i:=0) hS w' hA (by omega)
  refine ⟨fun _ b=>w1.heap.size≤b,⟨_,fun w'=>run _ (by kernel_rfl) w',⟨by show ¬w1.heap.size≤g;omega,(h0.ahead hd).ld ⟨_,fun w'=>run _ (by kernel_rfl) w',⟨by show ¬w1.heap.size≤g;omega,(h0.ahead hd).ld ?_⟩⟩⟩⟩⟩
  have zd:w1.drew.heap.size=w1.heap.size:=rfl
  constructor
  ·refine yv fun bA w2 hbA h2 z2 BA=>⟨Bar.of_ahead h2,Bar.of_ahead h2,yv fun bB w3 hbB h3 z3 BB=>⟨Bar.of_ahead h3,Bar.of_ahead h3,set3 (BA.ahead h3) fun w6 u6 B6=>⟨Cb u6 (by show w1.heap.size≤bA;omega),set3 (u6.blk BB (by omega)) fun w9 u9 B9=> ?_⟩⟩⟩
   have a3:=(hd.trans h2).trans h3
   have b3:=(((B1.ahead (Ahead.drew w1)).ahead h2).ahead h3)
   exact Hr r (D 0 (by omega)) (by omega) (by omega) (by omega) (by omega) (u9.ahead (u6.ahead a3 (by omega)) (by omega)) (u9.blk (u6.blk b3 (by omega)) (by omega)) (u9.blk B6 (by omega)) B9
  ·refine yv fun bB w2 hbB h2 z2 BB=>⟨Bar.of_ahead h2,Bar.of_ahead h2,yv fun bA w3 hbA h3 z3 BA=>⟨Bar.of_ahead h3,Bar.of_ahead h3,set3 BA fun w6 u6 B6=>⟨Cb u6 (by show w1.heap.size≤bA;omega),set3 (u6.blk (BB.ahead h3) (by omega)) fun w9 u9 B9=> ?_⟩⟩⟩
   have a3:=(hd.trans h2).trans h3
   have b3:=(((B1.ahead (Ahead.drew w1)).ahead h2).ahead h3)
   exact Hr r (D 0 (by omega)) (by omega) (by omega) (by omega) (by omega) (u9.ahead (u6.ahead a3 (by omega)) (by omega)) (u9.blk (u6.blk b3 (by omega)) (by omega)) (u9.blk B6 (by omega)) B9
 ·rintro t0 t4 t6 t7 t21 t22 t23 w_ ⟨rfl,r1,rfl,b1,b2,b3,k,n1,s1,e1,v1,n2,s2,e2,v2,rfl,rfl,rfl,q1,q2,q3,q4,rfl,hk,a,B1,B2,B3,D1,D2,hv⟩
  refine zm (fun hc=> ?_) (fun hc=> ?_)
  ·have hc:k<3:=by have:=of_decide_eq_true hc;omega
   obtain ⟨g,o,hA,hg⟩:=r1.get
   have h0:=hg k hc
   unfold semA
   rw [Sem.wp_iff_run,Cx (by kernel_rfl) w_ hA (by rw [r1.n];exact hc)]
   refine ⟨_,rfl,(h0.ahead a).ld (yv fun b7 w12 hb7 h12 z12 B7=>set3 B7 fun w15 u15 B15=> ?_)⟩
   have L1:=B1.lt
   have L2:=B2.lt
   have L3:=B3.lt
   have a15:Ahead w w15:=u15.ahead (a.trans h12) (by omega)
   have C1:=u15.blk (B1.ahead h12) (by omega)
   have C2:=u15.blk (B2.ahead h12) (by omega)
   have C3:=u15.blk (B3.ahead h12) (by omega)
   have E1:=(D1.ahead h12).upd u15
   have E2:=(D2.ahead h12).upd u15
   have Dk:=(D (k+1) (by omega)).ahead a15
   refine stage (c:=fun x=>decide (x<0)) (hT.ahead a15) B15 C2 (by omega) Dk E1 fun w19 m1 y1 f1 g1 ch1 F7 F2 G1 hv1=> ?_
   have a19:=ch1.ahead a15 (by omega)
   refine stage (c:=fun x=>decide (x>0)) (hT.ahead a19) F7 (ch1.blk C3 (by omega)) (by omega) (ch1.dv Dk) (ch1.dv E2) fun w23 m2 y2 f2 g2 ch2 H7 H3 G2 hv2=> ?_
   have a23:=ch2.ahead a19 (by omega)
   have hw:IntKind.i64.wrap ((k:Int)+1)=((k+1:Nat):Int):=by unfold IntKind.wrap;simp [IntKind.bits,IntKind.signed];omega
   rw [hw]
   refine ⟨⟨rfl,r1,rfl,b1,b2,b3,k+1,_,_,_,g1,_,_,_,g2,rfl,rfl,rfl,q1,q2,q3,q4,rfl,by omega,a23,ch2.blk (ch1.blk C1 (by omega)) (by omega),ch2.blk F2 (by omega),H3,ch2.dv G1,G2,fun i hi=> ?_⟩,by omega⟩
   have lo:g1≤v1∧g1≤v (k+1):=by
    rcases hv1 with ⟨c1,rfl⟩|⟨c1,rfl⟩
    ·have:=pt.1 (of_decide_eq_true c1);omega
    ·have h0:=of_decide_eq_false c1
     have:¬v (k+1)<g1:=fun q=>h0 (pt.2 q)
     omega
   have hi2:v2≤g2∧v (k+1)≤g2:=by
    rcases hv2 with ⟨c1,rfl⟩|⟨c1,rfl⟩
    ·have:=qr.1 (of_decide_eq_true c1);omega
    ·have h0:=of_decide_eq_false c1
     have:¬v (k+1)>g2:=fun q=>h0 (qr.2 q)
     omega
   rcases Nat.lt_or_ge k i with h|h
   ·obtain rfl:i=k+1:=by omega
    exact ⟨lo.2,hi2.2⟩
   ·have:=hv i h;omega
  ·have hc:k=3:=by have:=of_decide_eq_false hc;omega
   subst hc
   refine get3 B2 (get3 B3 (Calls.mono (fx (hT.ahead a) D1 D2 hp hK hK') ?_))
   rintro en w28 ⟨h28,n1',s1',e1',n2',s2',e2',l,u,rfl,dl,du,hlu⟩
   have q5:=a.size
   refine ⟨_,_,_,_,_,_,_,rfl,set6 (B1.ahead h28) fun w34 u34 B34=>get6 B34 ⟨u34.ahead (a.trans h28) (by omega),_,_,_,_,_,_,l,u,rfl,dl.upd u34,du.upd u34,fun i hi=> ?_⟩⟩
   have:=hv i (by omega);omega
end Sm
end
section
open Go Go.RowKit Eng
open _root_.Go.IntKind (wrap)
def Gr (J0:Int→Addr→Slc→Int→Bool→Slc→Int→Bool→Slc→Int→Bool→Slc→Int→Bool→Slc→Int→Bool→Slc→Int→Bool→Slc→Int→Bool→Slc→Int→Bool→Slc→Int→Int→World→Prop) (m0:Int→Addr→Slc→Int→Bool→Slc→Int→Bool→Slc→Int→Bool→Slc→Int→Bool→Slc→Int→Bool→Slc→Int→Bool→Slc→Int→Bool→Slc→Int→Bool→Slc→Int→Int→World→Nat):Nat→Option ((Act→World→Prop)×(Act→World→Nat))
 |0=>some (fun a_ w_=>atSz a_ 73 (atI .i64 a_ 2 fun t2=>atA a_ 6 fun t6=>atS a_ 9 fun t9=>atI .i64 a_ 10 fun t10=>atG a_ 44 24 fun q44_=>atB ⟨q44_, []⟩ 0 fun t44_0=>atS ⟨q44_, []⟩ 1 fun t44_1=>atI .i64 ⟨q44_, []⟩ 2 fun t44_2=>atB ⟨q44_, []⟩ 3 fun t44_3=>atS ⟨q44_, []⟩ 4 fun t44_4=>atI .i64 ⟨q44_, []⟩ 5 fun t44_5=>atB ⟨q44_, []⟩ 6 fun t44_6=>atS ⟨q44_, []⟩ 7 fun t44_7=>atI .i64 ⟨q44_, []⟩ 8 fun t44_8=>atB ⟨q44_, []⟩ 9 fun t44_9=>atS ⟨q44_, []⟩ 10 fun t44_10=>atI .i64 ⟨q44_, []⟩ 11 fun t44_11=>atB ⟨q44_, []⟩ 12 fun t44_12=>atS ⟨q44_, []⟩ 13 fun t44_13=>atI .i64 ⟨q44_, []⟩ 14 fun t44_14=>atB ⟨q44_, []⟩ 15 fun t44_15=>atS ⟨q44_, []⟩ 16 fun t44_16=>atI .i64 ⟨q44_, []⟩ 17 fun t44_17=>atB ⟨q44_, []⟩ 18 fun t44_18=>atS ⟨q44_, []⟩ 19 fun t44_19=>atI .i64 ⟨q44_, []⟩ 20 fun t44_20=>atB ⟨q44_, []⟩ 21 fun t44_21=>atS ⟨q44_, []⟩ 22 fun t44_22=>atI .i64 ⟨q44_, []⟩ 23 fun t44_23=>atI .i64 a_ 45 fun t45=>J0 t2 t6 t9 t10 t44_0 t44_1 t44_2 t44_3 t44_4 t44_5 t44_6 t44_7 t44_8 t44_9 t44_10 t44_11 t44_12 t44_13 t44_14 t44_15 t44_16 t44_17 t44_18 t44_19 t44_20 t44_21 t44_22 t44_23 t45 w_),fun a_ w_=>mI a_ 2 fun t2=>mA a_ 6 fun t6=>mS a_ 9 fun t9=>mI a_ 10 fun t10=>mG a_ 44 fun q44_=>mB ⟨q44_, []⟩ 0 fun t44_0=>mS ⟨q44_, []⟩ 1 fun t44_1=>mI ⟨q44_, []⟩ 2 fun t44_2=>mB ⟨q44_, []⟩ 3 fun t44_3=>mS ⟨q44_, []⟩ 4 fun t44_4=>mI ⟨q44_, []⟩ 5 fun t44_5=>mB ⟨q44_, []⟩ 6 fun t44_6=>mS ⟨q44_, []⟩ 7 fun t44_7=>mI ⟨q44_, []⟩ 8 fun t44_8=>mB ⟨q44_, []⟩ 9 fun t44_9=>mS ⟨q44_, []⟩ 10 fun t44_10=>mI ⟨q44_, []⟩ 11 fun t44_11=>mB ⟨q44_, []⟩ 12 fun t44_12=>mS ⟨q44_, []⟩ 13 fun t44_13=>mI ⟨q44_, []⟩ 14 fun t44_14=>mB ⟨q44_, []⟩ 15 fun t44_15=>mS ⟨q44_, []⟩ 16 fun t44_16=>mI ⟨q44_, []⟩ 17 fun t44_17=>mB ⟨q44_, []⟩ 18 fun t44_18=>mS ⟨q44_, []⟩ 19 fun t44_19=>mI ⟨q44_, []⟩ 20 fun t44_20=>mB ⟨q44_, []⟩ 21 fun t44_21=>mS ⟨q44_, []⟩ 22 fun t44_22=>mI ⟨q44_, []⟩ 23 fun t44_23=>mI a_ 45 fun t45=>m0 t2 t6 t9 t10 t44_0 t44_1 t44_2 t44_3 t44_4 t44_5 t44_6 t44_7 t44_8 t44_9 t44_10 t44_11 t44_12 t44_13 t44_14 t44_15 t44_16 t44_17 t44_18 t44_19 t44_20 t44_21 t44_22 t44_23 t45 w_)
 |_=>none
theorem Dh (aB:Bool) (aC:Slc) (aD:Int) (aE:Bool) (aF:Slc) (aG:Int) (aH:Bool) (aI:Slc) (aJ:Int) (aK:Bool) (aL:Slc) (aM:Int) (a2:Int) (w:World) (R:Ending→World→Prop) (J0:Int→Addr→Slc→Int→Bool→Slc→Int→Bool→Slc→Int→Bool→Slc→Int→Bool→Slc→Int→Bool→Slc→Int→Bool→Slc→Int→Bool→Slc→Int→Bool→Slc→Int→Int→World→Prop) (m0:Int→Addr→Slc→Int→Bool→Slc→Int→Bool→Slc→Int→Bool→Slc→Int→Bool→Slc→Int→Bool→Slc→Int→Bool→Slc→Int→Bool→Slc→Int→Bool→Slc→Int→Int→World→Nat) (h:newC w (zS aB aC aD aE aF aG) 50 fun ad1 w1=>newC w1 (zS aH aI aJ aK aL aM) 50 fun ad2 w2=>newC w2 (zS false nSl 0 false nSl 0) 50 fun ad3 w3=>ld6 ad1 w3 fun b1 s1 x1 b2 s2 x2=>ld6 ad2 w3 fun b3 s3 x3 b4 s4 x4=>newC w3 #[.bool b1,s1.v,vi x1,.bool b2,s2.v,vi x2,.bool b3,s3.v,vi x3,.bool b4,s4.v,vi x4] 50 fun ad4 w4=>kI 60 #[vi a2,(⟨some ad4,2,2⟩:Slc).v] w4 fun w5 x5=>(br (x5 !=0) (xS ad3 false nSl 0 false nSl 0 w5 fun w11=>ld6 ad3 w11 fun b5 s5 x6 b6 s6 x7=>R (.returned (.tuple #[uS b5 s5 x6 b6 s6 x7,vi x5])) w11) (ld3 ad1 w5 fun b7 s7 x8=>ld3 ad2 w5 fun b8 s8 x9=>ld3 ad1 w5 fun b9 s9 x10=>ld3 (ad2.add 3) w5 fun b10 s10 x11=>ld3 (ad1.add 3) w5 fun b11 s11 x12=>ld3 ad2 w5 fun b12 s12 x13=>ld3 (ad1.add 3) w5 fun b13 s13 x14=>ld3 (ad2.add 3) w5 fun b14 s14 x15=>J0 a2 ad3 nSl 0 b7 s7 x8 b8 s8 x9 b9 s9 x10 b10 s10 x11 b11 s11 x12 b12 s12 x13 b13 s13 x14 b14 s14 x15 0 w5))) (h0:∀t2 t6 t9 t10 ap aq ar au av aw ax ay az aA ab ac ad ae af ag ah ai aj ak al am an ao t45 w_,J0 t2 t6 t9 t10 ap aq ar au av aw ax ay az aA ab ac ad ae af ag ah ai aj ak al am an ao t45 w_→br (decide (t45<4)) (Sem.wp pr (Instr.index 93 (.agg #[.bool ap,aq.v,vi ar,.bool au,av.v,vi aw,.bool ax,ay.v,vi az,.bool aA,ab.v,vi ac,.bool ad,ae.v,vi af,.bool ag,ah.v,vi ai,.bool aj,ak.v,vi al,.bool am,an.v,vi ao]) (vi t45)) (fun v1 w12=>∃b15:Bool,∃s15:Slc,∃x16:Int,∃b16:Bool,∃s16:Slc,∃x17:Int,v1= (uS b15 s15 x16 b16 s16 x17)∧(newC w12 (zS false nSl 0 false nSl 0) 92 fun ad5 w13=>xS ad5 b15 s15 x16 b16 s16 x17 w13 fun w19=>semA pr (Instr.indexAt 92 (.pointer (some ad5)) (vi 0)) w19 fun ad6 w20=>ld3 ad6 w20 fun b17 s17 x18=>semA pr (Instr.indexAt 92 (.pointer (some ad5)) (vi 1)) w20 fun ad7 w21=>ld3 ad7 w21 fun b18 s18 x19=>kU 63 #[uD b17 s17 x18,uD b18 s18 x19] w21 fun w22 b19 s19 x20 x21=>(newC w22 (zD false nSl 0) 27 fun ad8 w23=>xD ad8 b19 s19 x20 w23 fun w26=>kI 64 #[vi t10,vi x21] w26 fun w27 x22=>(ld3 ad8 w27 fun b20 s20 x23=>newC w27 (zD b20 s20 x23) 27 fun ad9 w28=>semS pr (Builtin.append_ #[91,91] 91 #[t9.v,(⟨some ad9,1,1⟩:Slc).v]) w28 fun s21 w29=>J0 t2 t6 s21 x22 ap aq ar au av aw ax ay az aA ab ac ad ae af ag ah ai aj ak al am an ao (wrap .i64 (t45+1)) w29∧m0 t2 t6 s21 x22 ap aq ar au av aw ax ay az aA ab ac ad ae af ag ah ai aj ak al am an ao (wrap .i64 (t45+1)) w29<m0 t2 t6 t9 t10 ap aq ar au av aw ax ay az aA ab ac ad ae af ag ah ai aj ak al am an ao t45 w_)))) (fun _ _=>False) w_) (br (t10 !=0) (xS t6 false nSl 0 false nSl 0 w_ fun w35=>ld6 t6 w35 fun b21 s22 x24 b22 s23 x25=>R (.returned (.tuple #[uS b21 s22 x24 b22 s23 x25,vi t10])) w35) (kV 65 #[vi t2,t9.v] w_ fun w36 b23 s24 x26 b24 s25 x27 x28=>(xS t6 b23 s24 x26 b24 s25 x27 w36 fun w42=>ld6 t6 w42 fun b25 s26 x29 b26 s27 x30=>R (.returned (.tuple #[uS b25 s26 x29 b26 s27 x30,vi x28])) w42)))):Calls pr 25 #[uS aB aC aD aE aF aG,uS aH aI aJ aK aL aM,vi a2] w R:=by
 refine zk (Gr J0 m0) (by kernel_rfl) Tryz.func25 rfl ?_ ?_
 ·refine kcast h ?_;kernel_rfl
 ·exact (za rfl (ze (za rfl (za rfl (ze (za rfl (ze (zh (za rfl (ze (zg (zi (za rfl (ze (za rfl (ze (za rfl (za rfl (ze (yg _ rfl (fun a_ w_ aa=>(by
  obtain ⟨aQ,aR,aa⟩:=ya aa
  obtain ⟨t2,aS,aa⟩:=zq aa
  obtain ⟨t6,aT,aa⟩:=yf aa
  obtain ⟨t9,aU,aa⟩:=zr aa
  obtain ⟨t10,aN,aa⟩:=zq aa
  obtain ⟨q44_,aO,n44_,aa⟩:=zeg aa
  obtain ⟨ap,h44_0_,aa⟩:=th aa
  obtain ⟨aq,h44_1_,aa⟩:=zr aa
  obtain ⟨ar,h44_2_,aa⟩:=zq aa
  obtain ⟨au,h44_3_,aa⟩:=th aa
  obtain ⟨av,h44_4_,aa⟩:=zr aa
  obtain ⟨aw,h44_5_,aa⟩:=zq aa
  obtain ⟨ax,h44_6_,aa⟩:=th aa
  obtain ⟨ay,h44_7_,aa⟩:=zr aa
  obtain ⟨az,h44_8_,aa⟩:=zq aa
  obtain ⟨aA,h44_9_,aa⟩:=th aa
  obtain ⟨ab,h44_10_,aa⟩:=zr aa
  obtain ⟨ac,h44_11_,aa⟩:=zq aa
  obtain ⟨ad,h44_12_,aa⟩:=th aa
  obtain ⟨ae,h44_13_,aa⟩:=zr aa
  obtain ⟨af,h44_14_,aa⟩:=zq aa
  obtain ⟨ag,h44_15_,aa⟩:=th aa
  obtain ⟨ah,h44_16_,aa⟩:=zr aa
  obtain ⟨ai,h44_17_,aa⟩:=zq aa
  obtain ⟨aj,h44_18_,aa⟩:=th aa
  obtain ⟨ak,h44_19_,aa⟩:=zr aa
  obtain ⟨al,h44_20_,aa⟩:=zq aa
  obtain ⟨am,h44_21_,aa⟩:=th aa
  obtain ⟨an,h44_22_,aa⟩:=zr aa
  obtain ⟨ao,h44_23_,aa⟩:=zq aa
  have e44_:=zfc (l:= [Value.bool ap,aq.v,vi ar,Value.bool au,av.v,vi aw,Value.bool ax,ay.v,vi az,Value.bool aA,ab.v,vi ac,Value.bool ad,ae.v,vi af,Value.bool ag,ah.v,vi ai,Value.bool aj,ak.v,vi al,Value.bool am,an.v,vi ao]) n44_ ⟨h44_0_,h44_1_,h44_2_,h44_3_,h44_4_,h44_5_,h44_6_,h44_7_,h44_8_,h44_9_,h44_10_,h44_11_,h44_12_,h44_13_,h44_14_,h44_15_,h44_16_,h44_17_,h44_18_,h44_19_,h44_20_,h44_21_,h44_22_,h44_23_,trivial⟩
  have hM_:=aa
  subst e44_
  have aa:=hM_
  obtain ⟨t45,aP,aa⟩:=zq aa
  obtain ⟨g0,rfl⟩:∃g,a_=Fr 73 [(2,vi t2),(6,vp t6),(9,t9.v),(10,vi t10),(44,Value.agg #[Value.bool ap,aq.v,vi ar,Value.bool au,av.v,vi aw,Value.bool ax,ay.v,vi az,Value.bool aA,ab.v,vi ac,Value.bool ad,ae.v,vi af,Value.bool ag,ah.v,vi ai,Value.bool aj,ak.v,vi al,Value.bool am,an.v,vi ao]),(45,vi t45)] g:=⟨_,yp aQ aR _ (zf aS (zf aT (zf aU (zf aN (zf aO (zf aP yc))))))⟩
  clear aQ aR aS aT aU aN aO aP
  have aV:=aa
  refine ⟨(fun _=>none),kcast (h0 t2 t6 t9 t10 ap aq ar au av aw ax ay az aA ab ac ad ae af ag ah ai aj ak al am an ao t45 w_ aV) ?_, ?_⟩
  ·kernel_rfl
  ·exact (za rfl (ze (za rfl (zh (zi (ye (za rfl (yh rfl (za rfl (ze (za rfl (ze (za rfl (ze (ze (ze trivial)))))))))))))))))) (za rfl (za rfl (ze (zh (za rfl (ze (zg (zi (za rfl (ze (zg trivial)))))))))))))))))))))))))))))))
end
section
open Go Go.RowKit Eng Sp Dg L2
namespace Sm
open Sb Dy R7
open _root_.Go.Proofs.YtbeiopoejdkheaaGreatDoor.Mul (Only)
def ar2 (P:Program) (t:TypeId):Bool:=match P.underlying t with
 |some (.array n e)=>n==2&&(match P.info? e with
  |some i=>i.size==3
  |none=>false)
 |_=>false
theorem zee {P:Program} {t:TypeId} (h:ar2 P t=true):∃e i,P.underlying t=some (.array 2 e)∧P.info? e=some i∧i.size=3:=by
 unfold ar2 at h
 split at h
 ·rename_i n e hu
  simp only [Bool.and_eq_true] at h
  obtain ⟨h1,h2⟩:=h
  split at h2
  ·rename_i i hi
   have:n=2:=eq_of_beq h1
   subst this
   exact ⟨e,i,hu,hi,eq_of_beq h2⟩
  ·cases h2
 ·cases h
theorem Cw {P:Program} {t:TypeId} (hT:ar2 P t=true) (w:World) (b:Nat) {j:Nat} (hj:j<2):(Instr.indexAt t (.pointer (some ⟨b,0,none⟩)) (.int .i64 (j:Int))).run P w= .ok (.pointer (some ⟨b,3*j,none⟩)) w:=by
 obtain ⟨e,i,hu,hi,hs⟩:=zee hT
 have e1:(⟨b,0,none⟩:Addr).add (j*3)=⟨b,3*j,none⟩:=by rw [zz,Nat.mul_comm]
 simp only [Instr.indexAt,asIntOf,underlying,program,Sem.run_bind,Sem.run,Result.andThen,hu,Sem.run_pure,Instr.sureAddr]
 simp [hj,show (0:Int)≤(j:Int) by omega,show (j:Int)<2 by omega,sizeOf,typeInfo,program,Sem.run,hi,hs,e1]
theorem zf0 {t:TypeId} {w:World} {b:Nat} {K:Addr→World→Prop} (hk:K ⟨b,0,none⟩ w) (hT:ar2 pr t=true:=by kernel_rfl):semA pr (Instr.indexAt t (.pointer (some ⟨b,0,none⟩)) (.int .i64 0)) w K:=by
 unfold semA
 have e:(Instr.indexAt t (.pointer (some ⟨b,0,none⟩)) (.int .i64 0)).run pr w= .ok (.pointer (some ⟨b,0,none⟩)) w:=Cw hT w b (j:=0) (by omega)
 rw [Sem.wp_iff_run,e]
 exact ⟨_,rfl,hk⟩
theorem zf1 {t:TypeId} {w:World} {b:Nat} {K:Addr→World→Prop} (hk:K ⟨b,3,none⟩ w) (hT:ar2 pr t=true:=by kernel_rfl):semA pr (Instr.indexAt t (.pointer (some ⟨b,0,none⟩)) (.int .i64 1)) w K:=by
 unfold semA
 have e:(Instr.indexAt t (.pointer (some ⟨b,0,none⟩)) (.int .i64 1)).run pr w= .ok (.pointer (some ⟨b,3,none⟩)) w:=Cw hT w b (j:=1) (by omega)
 rw [Sem.wp_iff_run,e]
 exact ⟨_,rfl,hk⟩
theorem zde {t:TypeId} {w:World} {cs out:Array Value} {j:Nat} {K:Value→World→Prop} (hj:j<4) (he:cs.extract (j*6) (j*6+6)=out) (hk:K (.agg out) w) (hT:arF pr t=true:=by kernel_rfl):Sem.wp pr (Instr.index t (.agg cs) (.int .i64 (j:Int))) K (fun _ _=>False) w:=by
 rw [Sem.wp_iff_run,zdq hT w cs out hj he]
 exact hk
theorem get6a {w} {b:Nat} {x y:Bool} {s t:Slc} {e f:Int} {K:Bool→Slc→Int→Prop} (h:Blk w b (c6 x s e y t f)) (hk:K x s e):ldB ⟨b,0,none⟩ w fun x'=>ldS ((⟨b,0,none⟩:Addr).add 1) w fun s'=>ldI .i64 ((⟨b,0,none⟩:Addr).add 2) w fun e'=>K x' s' e':=
 uu 0 h rfl (vj 1 h rfl (xz 2 h rfl hk))
theorem get6b {w} {b:Nat} {x y:Bool} {s t:Slc} {e f:Int} {K:Bool→Slc→Int→Prop} (h:Blk w b (c6 x s e y t f)) (hk:K y t f):ldB ((⟨b,0,none⟩:Addr).add 3) w fun x'=>ldS (((⟨b,0,none⟩:Addr).add 3).add 1) w fun s'=>ldI .i64 (((⟨b,0,none⟩:Addr).add 3).add 2) w fun e'=>K x' s' e':=
 uu 3 h rfl (vj (x:=t) 4 h rfl (xz (x:=f) 5 h rfl hk (qq rfl)) (qq rfl))
theorem get6c {w} {b:Nat} {x y:Bool} {s t:Slc} {e f:Int} {K:Bool→Slc→Int→Prop} (h:Blk w b (c6 x s e y t f)) (hk:K y t f):ldB ⟨b,3,none⟩ w fun x'=>ldS ((⟨b,3,none⟩:Addr).add 1) w fun s'=>ldI .i64 ((⟨b,3,none⟩:Addr).add 2) w fun e'=>K x' s' e':=
 uu 3 h rfl (vj (x:=t) 4 h rfl (xz (x:=f) 5 h rfl hk tj) tj)
theorem Dv.grw {row:Option Nat} {w w' n s} {e:Int} {K:Nat} {v:Int} (h:Dv w n s e K v) (u:Grw row w w'):Dv w' n s e K v:=by
 obtain ⟨⟨l,r,h2⟩,hb,hk⟩:=h;exact ⟨⟨l,u.rd _ _ r,h2⟩,hb,hk⟩
def crn (lo hi lo' hi':Int):Nat→Int
 |0=>lo*lo'
 |1=>lo*hi'
 |2=>hi*lo'
 |_=>hi*hi'
def z3:DY:=⟨false,⟨none,0,0⟩,0⟩
abbrev c24 (n1:Bool) (s1:Slc) (e1:Int) (n2:Bool) (s2:Slc) (e2:Int) (n3:Bool) (s3:Slc) (e3:Int) (n4:Bool) (s4:Slc) (e4:Int):Array Value:=
 #[.bool n1,s1.v, .int .i64 e1, .bool n3,s3.v, .int .i64 e3, .bool n1,s1.v, .int .i64 e1, .bool n4,s4.v, .int .i64 e4, .bool n2,s2.v, .int .i64 e2, .bool n3,s3.v, .int .i64 e3, .bool n2,s2.v, .int .i64 e2, .bool n4,s4.v, .int .i64 e4]
theorem pick24 {w n1 s1} {e1:Int} {n2 s2} {e2:Int} {n3:Bool} {s3:Slc} {e3:Int} {n4:Bool} {s4:Slc} {e4:Int} {K:Nat} {lo hi lo' hi':Int} (h:Sv w n1 s1 e1 n2 s2 e2 K lo hi) (h':Sv w n3 s3 e3 n4 s4 e4 K lo' hi') (q1: -500≤e1) (q2: -500≤e2) (q3: -500≤e3) (q4: -500≤e4) {k:Nat} (hk:k<4):∃nA sA eA nB sB eB x y,(c24 n1 s1 e1 n2 s2 e2 n3 s3 e3 n4 s4 e4).extract (k*6) (k*6+6)=c6 nA sA eA nB sB eB∧Dv w nA sA eA K x∧Dv w nB sB eB K y∧-500≤eA∧-500≤eB∧x*y=crn lo hi lo' hi' k:=by
 match k,hk with
 |0,_=>exact ⟨n1,s1,e1,n3,s3,e3,lo,lo',rfl,h.a,h'.a,q1,q3,rfl⟩
 |1,_=>exact ⟨n1,s1,e1,n4,s4,e4,lo,hi',rfl,h.a,h'.b,q1,q4,rfl⟩
 |2,_=>exact ⟨n2,s2,e2,n3,s3,e3,hi,lo',rfl,h.b,h'.a,q2,q3,rfl⟩
 |3,_=>exact ⟨n2,s2,e2,n4,s4,e4,hi,hi',rfl,h.b,h'.b,q2,q4,rfl⟩
def Mrow (w:World) (base:Nat) (K:Nat) (c:Nat→Int) (s:Slc) (k:Nat):Prop:=∃ds:List DY,ds.length=k∧DRow 27 base w s ds∧∀i,i<k→∃u,Dv w (ds.getD i z3).n (ds.getD i z3).s (ds.getD i z3).e (2*K) u∧u*(S1000:Int)=c i
theorem zdh {w} {b base K:Nat} {c:Nat→Int} {s} {k:Nat} {n:Bool} {sd:Slc} {e u:Int} {t ty:TypeId} {F:Slc→World→Prop} (h:Mrow w base K c s k) (hk:k<4) (B:Blk w b (c3 n sd e)) (D:Dv w n sd e (2*K) u) (hu:u*(S1000:Int)=c k) (hb:base≤w.heap.size) (hF:∀s' w',Mrow w' base K c s' (k+1)→Grw s.v.ownBlock w w'→F s' w') (hT:sl3 pr t 27=true:=by kernel_rfl):semS pr (Builtin.append_ #[t,t] ty #[s.v,(⟨some ⟨b,0,none⟩,1,1⟩:Slc).v]) w F:=by
 obtain ⟨ds,rfl,r,hd⟩:=h
 refine app3 (d:=⟨n,sd,e⟩) r B hb (by omega) (fun s' w' r' g=>hF s' w' ⟨ds++ [⟨n,sd,e⟩],by simp,r',fun i hi=> ?_⟩ g) hT
 rcases Nat.lt_or_ge i ds.length with h|h
 ·have eg:(ds++ [(⟨n,sd,e⟩:DY)]).getD i z3=ds.getD i z3:=by rw [List.getD_eq_getElem?_getD,List.getD_eq_getElem?_getD,List.getElem?_append_left h]
  rw [eg]
  obtain ⟨u',d',e'⟩:=hd i h
  exact ⟨u',d'.grw g,e'⟩
 ·obtain rfl:i=ds.length:=by omega
  rw [show (ds++ [(⟨n,sd,e⟩:DY)]).getD ds.length z3=⟨n,sd,e⟩ by simp]
  exact ⟨u,D.grw g,hu⟩
def MJ (w:World) (K:Nat) (c:Nat→Int) (pos:Int) (cs:Array Value) (p:Int) (t6:Addr) (t9:Slc) (t10:Int) (arr:Array Value) (t45:Int) (w_:World):Prop:=
 p=pos∧t10=0∧arr=cs∧∃(b3 base k:Nat),t6=⟨b3,0,none⟩∧t45=(k:Int)∧k≤4∧w.heap.size≤b3∧b3<base∧base≤w_.heap.size∧Ahead w w_∧Blk w_ b3 (c6 false ⟨none,0,0⟩ 0 false ⟨none,0,0⟩ 0)∧Mrow w_ base K c t9 k
theorem canL {a b:Int} (h:a≤b):a*(S1000:Int)≤b*(S1000:Int):=Int.mul_le_mul_of_nonneg_right h (Int.natCast_nonneg _)
theorem zea {w n1 s1} {e1:Int} {n2 s2} {e2:Int} {n3:Bool} {s3:Slc} {e3:Int} {n4:Bool} {s4:Slc} {e4:Int} {K:Nat} {lo hi lo' hi' pos:Int} (hT:Tab w) (h:Sv w n1 s1 e1 n2 s2 e2 K lo hi) (h':Sv w n3 s3 e3 n4 s4 e4 K lo' hi') (q1: -500≤e1) (q2: -500≤e2) (q3: -500≤e3) (q4: -500≤e4) (hp: -150≤pos∧pos≤50) (hK:1100≤K) (hK':2*K+1≤262144):Calls pr span_Mul_id #[.agg (c6 n1 s1 e1 n2 s2 e2), .agg (c6 n3 s3 e3 n4 s4 e4), .int .i64 pos] w fun en w'=>Ahead w w'∧AS (2*K+1) (MlP lo hi lo' hi') en w':=by
 refine Dh n1 s1 e1 n2 s2 e2 n3 s3 e3 n4 s4 e4 pos w _
  (fun p t6 t9 t10 a0 a1 a2 a3 a4 a5 a6 a7 a8 a9 aa ab ac ad ae af ag ah ai aj ak al am an t45 w_=>MJ w K (crn lo hi lo' hi') pos (c24 n1 s1 e1 n2 s2 e2 n3 s3 e3 n4 s4 e4) p t6 t9 t10
   #[.bool a0,a1.v, .int .i64 a2, .bool a3,a4.v, .int .i64 a5, .bool a6,a7.v, .int .i64 a8, .bool a9,aa.v, .int .i64 ab, .bool ac,ad.v, .int .i64 ae, .bool af,ag.v, .int .i64 ah, .bool ai,aj.v, .int .i64 ak, .bool al,am.v, .int .i64 an] t45 w_)
  (fun _ _ _ _ _ _ _ _ _ _ _ _ _ _ _ _ _ _ _ _ _ _ _ _ _ _ _ _ t45 _=>(4 -t45).toNat) (yv fun b1 w1 hb1 h1 z1 B1=>yv fun b2 w2 hb2 h2 z2 B2=>yv fun b3 w3 hb3 h3 z3' B3=> ?_) ?_
 ·have A1:Blk w3 b1 (c6 n1 s1 e1 n2 s2 e2):=(B1.ahead h2).ahead h3
  have A2:Blk w3 b2 (c6 n3 s3 e3 n4 s4 e4):=B2.ahead h3
  refine get6 A1 (get6 A2 (yv fun b4 w4 hb4 h4 z4 B4=> ?_))
  have a4:=((h1.trans h2).trans h3).trans h4
  refine Calls.mono (mm (hT.ahead a4) B4 (by omega) (fd (h.ahead a4) (h'.ahead a4)) hp) ?_
  rintro en w5 ⟨h5,rfl⟩
  have C1:=(A1.ahead h4).ahead h5
  have C2:=(A2.ahead h4).ahead h5
  have g1:=h1.size
  have g2:=h5.size
  refine ⟨_,rfl,zt rfl ?_⟩
  refine get6a C1 (get6a C2 (get6a C1 (get6b C2 (get6b C1 (get6a C2 (get6b C1 (get6b C2 ?_)))))))
  exact ⟨rfl,rfl,rfl,b3,w5.heap.size,0,rfl,rfl,by omega,by omega,by omega,Nat.le_refl _,a4.trans h5,(B3.ahead h4).ahead h5, [],rfl,DRow.nil,fun i hi=>by omega⟩
 ·rintro p t6 t9 t10 a0 a1 a2 a3 a4 a5 a6 a7 a8 a9 aa ab ac ad ae af ag ah ai aj ak al am an t45 w_ ⟨rfl,rfl,harr,b3,base,k,rfl,rfl,hk,y1,y2,y3,a,B3,M⟩
  rw [harr]
  refine zm (fun hc=> ?_) (fun hc=> ?_)
  ·have hc:k<4:=by have:=of_decide_eq_true hc;omega
   obtain ⟨nA,sA,eA,nB,sB,eB,x,y,hex,DA,DB,qA,qB,hxy⟩:=pick24 h h' q1 q2 q3 q4 hc
   refine zde hc hex ⟨nA,sA,eA,nB,sB,eB,rfl,yv fun b5 w13 hb5 h13 z13 B5=>set6 B5 fun w19 u19 B19=>zf0 (get6a B19 (zf1 (get6c B19 ?_)))⟩
   have L3:=B3.lt
   have a19:=u19.ahead (a.trans h13) (by have:=a.size;omega)
   refine Calls.mono (zd3 (hT.ahead a19) (DA.ahead a19) (DB.ahead a19) qA qB (by omega)) ?_
   rintro en w22 ⟨h22,nm,sm,em,um,rfl,dm,pm⟩
   refine ⟨_,_,_,_,rfl,yv fun b8 w23 hb8 h23 z23 B8=>set3 B8 fun w26 u26 B26=>Calls.mono Wr.kc ?_⟩
   rintro en w27 ⟨rfl,rfl⟩
   refine ⟨_,rfl,get3 B26 (yv fun b9 w28 hb9 h28 z28 B9=> ?_)⟩
   have s1':=h13.size
   have s2':=u19.size
   have s3':=h22.size
   have s4':=h23.size
   have s5':=u26.size
   have s6':=h28.size
   have dm28:=((dm.ahead h23).upd u26).ahead h28
   have C3:=(u26.blk (((u19.blk (B3.ahead h13) (by omega)).ahead h22).ahead h23) (by omega)).ahead h28
   have aw:Ahead w_ w28:=(u26.ahead (((u19.ahead h13 (by omega)).trans h22).trans h23) (by omega)).trans h28
   have M28:Mrow w28 base K (crn lo hi lo' hi') t9 k:=by
    obtain ⟨ds,g1,g2,g3⟩:=M
    exact ⟨ds,g1,g2.ahead aw,fun i hi=>by obtain ⟨u,du,eu⟩:=g3 i hi;exact ⟨u,du.ahead aw,eu⟩⟩
   have a28:Ahead w w28:=a.trans aw
   have hrow:∀g,t9.v.ownBlock=some g→base≤g:=fun g hg=>by
    obtain ⟨ds,g1,g2,g3⟩:=M
    exact (g2.lt hg).1
   refine zdh M28 hc B9 dm28 (by rw [pm,hxy]) (by have:=aw.size;omega) fun s21 w29 M29 G=> ?_
   have hw:IntKind.i64.wrap ((k:Int)+1)=((k+1:Nat):Int):=by unfold IntKind.wrap;simp [IntKind.bits,IntKind.signed];omega
   rw [hw]
   have sa:=a.size
   refine ⟨⟨rfl,rfl,rfl,b3,base,k+1,rfl,rfl,by omega,y1,y2,by have:=aw.size;have:=G.sz;omega,G.ah w a28 (fun g hg=>by have:=hrow g hg;omega),G.bl _ _ C3 (fun q=>by have:=hrow b3 q.symm;omega),M29⟩,by omega⟩
  ·have hc:k=4:=by have:=of_decide_eq_false hc;omega
   subst hc
   refine zt rfl ?_
   obtain ⟨ds,hl,r,hd⟩:=M
   have r3:=r.r3 z3 (fun q=>by rw [q] at hl;simp at hl)
   rw [hl] at r3
   obtain ⟨u,hu⟩:=Classical.skolem.1 (fun i=>show ∃u,i<4→(Dv w_ (ds.getD i z3).n (ds.getD i z3).s (ds.getD i z3).e (2*K) u∧u*(S1000:Int)=crn lo hi lo' hi' i) by
    by_cases hi:i<4
    ·obtain ⟨u,hu⟩:=hd i hi;exact ⟨u,fun _=>hu⟩
    ·exact ⟨0,fun q=>absurd q hi⟩)
   refine Calls.mono (zeq (hT.ahead a) r3 (fun i hi=>(hu i hi).1) hp (by omega) (by omega)) ?_
   rintro en w36 ⟨h36,m1,t1,f1,m2,t2,f2,l,v,rfl,dl,du,hlu⟩
   have sa:=a.size
   refine ⟨_,_,_,_,_,_,_,rfl,set6 (B3.ahead h36) fun w42 u42 B42=>get6 B42 ⟨u42.ahead (a.trans h36) (by omega),_,_,_,_,_,_,l,v,rfl,dl.upd u42,du.upd u42, ?_⟩⟩
   have k0:=hlu 0 (by omega)
   have k1:=hlu 1 (by omega)
   have k2:=hlu 2 (by omega)
   have k3:=hlu 3 (by omega)
   have p0:=(hu 0 (by omega)).2
   have p1:=(hu 1 (by omega)).2
   have p2:=(hu 2 (by omega)).2
   have p3:=(hu 3 (by omega)).2
   refine ⟨⟨?_, ?_, ?_, ?_⟩, ?_, ?_, ?_, ?_⟩
   ·rw [←show u 0*(S1000:Int)=lo*lo' from p0];exact canL k0.1
   ·rw [←show u 1*(S1000:Int)=lo*hi' from p1];exact canL k1.1
   ·rw [←show u 2*(S1000:Int)=hi*lo' from p2];exact canL k2.1
   ·rw [←show u 3*(S1000:Int)=hi*hi' from p3];exact canL k3.1
   ·rw [←show u 0*(S1000:Int)=lo*lo' from p0];exact canL k0.2
   ·rw [←show u 1*(S1000:Int)=lo*hi' from p1];exact canL k1.2
   ·rw [←show u 2*(S1000:Int)=hi*lo' from p2];exact canL k2.2
   ·rw [←show u 3*(S1000:Int)=hi*hi' from p3];exact canL k3.2
end Sm
end
section
open Go Go.RowKit Eng Sp Dg L2
namespace Sm
open _root_.Go.Proofs.YtbeiopoejdkheaaGreatDoor.Nat (Yes)
open _root_.Go.Proofs.YtbeiopoejdkheaaGreatDoor.Ref (RN RN.ahead RN.ext)
open _root_.Go.Proofs.YtbeiopoejdkheaaGreatDoor.Wr (js U5 Lims Cv j4 ended)
open _root_.Go.Proofs.YtbeiopoejdkheaaGreatDoor.Mm (nilS slcs)
open Sb Dy R7
structure Mv (w w':World):Prop where
  rd:∀s l,Rd .u64 w s l→Rd .u64 w' s l
  rn:∀s m,RN w s m→RN w' s m
theorem Mv.of_ahead {w w'} (a:Ahead w w'):Mv w w':=⟨fun _ _ r=>r.ahead a,fun _ _ r=>r.ahead a⟩
theorem Mv.of_ext {w w'} (x:Ext w w'):Mv w w':=⟨fun _ _ r=>r.ext x,fun _ _ r=>r.ext x⟩
theorem Mv.trans {a b c} (h:Mv a b) (k:Mv b c):Mv a c:=⟨fun s l r=>k.rd s l (h.rd s l r),fun s m r=>k.rn s m (h.rn s m r)⟩
theorem Mv.step {a b c} (h:Ahead a b) (k:Ext b c):Mv a c:=(Mv.of_ahead h).trans (Mv.of_ext k)
theorem Dv.mv {w w' n s} {e:Int} {K:Nat} {v:Int} (h:Dv w n s e K v) (m:Mv w w'):Dv w' n s e K v:=by
 obtain ⟨⟨l,r,h2⟩,hb,hk⟩:=h;exact ⟨⟨l,m.rd _ _ r,h2⟩,hb,hk⟩
theorem Sv.mv {w w' n1 s1} {e1:Int} {n2 s2} {e2:Int} {K:Nat} {lo hi:Int} (h:Sv w n1 s1 e1 n2 s2 e2 K lo hi) (m:Mv w w'):Sv w' n1 s1 e1 n2 s2 e2 K lo hi:=⟨h.a.mv m,h.b.mv m,h.le⟩
theorem RVmv {w w' b s t} {p:Int} {q k:Nat} (h:RV w b s t p q k) (m:Mv w w'):RV w' b s t p q k:=by
 obtain ⟨hq,n,d,h1,h2,h3⟩:=h;exact ⟨hq,n,d,m.rn _ _ h1,m.rn _ _ h2,h3⟩
theorem kn {w n1 s1} {e1:Int} {n2:Bool} {s2:Slc} {e2:Int} {K:Nat} {lo hi p:Int} {q k:Nat} {b s t} (h:Dv w n1 s1 e1 K lo) (h':Dv w n2 s2 e2 K hi) (hx:RV w b s t p q k) (hi:In lo hi p q) (hk:2097152+k≤67108864):Calls pr surdtop_has_id #[.agg (c6 n1 s1 e1 n2 s2 e2), .int .i64 0, .agg #[.bool b,s.v,t.v]] w fun en w'=>Ahead w w'∧en= .returned (.bool true):=zff h h' hx hk hi.1 hi.2
structure NB (t1:Int) (n1:Bool) (s1:Slc) (e1:Int) (n2:Bool) (s2:Slc) (e2:Int) (n3:Bool) (s3:Slc) (e3:Int) (n4:Bool) (s4:Slc) (e4:Int) (b:Bool) (s t:Slc) (b':Bool) (s' t':Slc) (lo hi lo' hi' p:Int) (q:Nat) (p':Int) (q':Nat) (w:World):Prop where
  pos: -150≤t1∧t1≤50
  A:Sv w n1 s1 e1 n2 s2 e2 6000 lo hi
  B:Sv w n3 s3 e3 n4 s4 e4 6000 lo' hi'
  x1: -500≤e1
  x2: -500≤e2
  x3: -500≤e3
  x4: -500≤e4
  X:RV w b s t p q 8388608
  Y:RV w b' s' t' p' q' 8388608
  ix:In lo hi p q
  iy:In lo' hi' p' q'
theorem NB.mv {t1:Int} {n1 s1} {e1:Int} {n2 s2} {e2:Int} {n3 s3} {e3:Int} {n4 s4} {e4:Int} {b s t b' s' t'} {lo hi lo' hi' p:Int} {q:Nat} {p':Int} {q':Nat} {w w'} (h:NB t1 n1 s1 e1 n2 s2 e2 n3 s3 e3 n4 s4 e4 b s t b' s' t' lo hi lo' hi' p q p' q' w) (m:Mv w w'):NB t1 n1 s1 e1 n2 s2 e2 n3 s3 e3 n4 s4 e4 b s t b' s' t' lo hi lo' hi' p q p' q' w':=
 ⟨h.pos,h.A.mv m,h.B.mv m,h.x1,h.x2,h.x3,h.x4,RVmv h.X m,RVmv h.Y m,h.ix,h.iy⟩
abbrev SpQ (w:World) (n1:Bool) (s1:Slc) (e1:Int) (n2:Bool) (s2:Slc) (e2:Int):Prop:=∃lo hi,Sv w n1 s1 e1 n2 s2 e2 6000 lo hi∧(-99≤e1∧e1≤99)∧(-99≤e2∧e2≤99)
def L5 (t1:Int) (n1:Bool) (s1:Slc) (e1:Int) (n2:Bool) (s2:Slc) (e2:Int) (n3:Bool) (s3:Slc) (e3:Int) (n4:Bool) (s4:Slc) (e4:Int) (w:World):Prop:=(-150≤t1∧t1≤50)∧SpQ w n1 s1 e1 n2 s2 e2∧SpQ w n3 s3 e3 n4 s4 e4
def L6 (t1:Int) (n1:Bool) (s1:Slc) (e1:Int) (n2:Bool) (s2:Slc) (e2:Int) (n3:Bool) (s3:Slc) (e3:Int) (n4:Bool) (s4:Slc) (e4:Int) (b:Bool) (s t:Slc) (b':Bool) (s' t':Slc) (w:World):Prop:=∃lo hi lo' hi' p q p' q',NB t1 n1 s1 e1 n2 s2 e2 n3 s3 e3 n4 s4 e4 b s t b' s' t' lo hi lo' hi' p q p' q' w
def L13 (t1:Int) (n1:Bool) (s1:Slc) (e1:Int) (n2:Bool) (s2:Slc) (e2:Int) (n3:Bool) (s3:Slc) (e3:Int) (n4:Bool) (s4:Slc) (e4:Int) (b:Bool) (s t:Slc) (b':Bool) (s' t':Slc) (c:Bool) (u v:Slc) (c':Bool) (u' v':Slc) (w:World):Prop:=
 L6 t1 n1 s1 e1 n2 s2 e2 n3 s3 e3 n4 s4 e4 b s t b' s' t' w∧(b=c∧s=u∧t=v)∧(b'=c'∧s'=u'∧t'=v')
def L15 (t1:Int) (n1:Bool) (s1:Slc) (e1:Int) (n2:Bool) (s2:Slc) (e2:Int) (n3:Bool) (s3:Slc) (e3:Int) (n4:Bool) (s4:Slc) (e4:Int) (b:Bool) (s t:Slc) (b':Bool) (s' t':Slc) (c:Bool) (u v:Slc) (c':Bool) (u' v':Slc) (w:World):Prop:=
 ∃lo hi lo' hi' p q p' q',NB t1 n1 s1 e1 n2 s2 e2 n3 s3 e3 n4 s4 e4 b s t b' s' t' lo hi lo' hi' p q p' q' w∧∃pl ql pg qg,RV w c u v pl ql 8388608∧RV w c' u' v' pg qg 8388608∧In (min lo lo') (min hi hi') pl ql∧In (max lo lo') (max hi hi') pg qg
theorem Vy {w} (hT:Tab w) {n1:Bool} {s1:Slc} {e1:Int} {l1:List Nat} {n2:Bool} {s2:Slc} {e2:Int} {l2:List Nat} {n3:Bool} {s3:Slc} {e3:Int} {l3:List Nat} {n4:Bool} {s4:Slc} {e4:Int} {l4:List Nat} {i0 k0 p0:Int} (r1:Rd .u64 w s1 (nn l1)) (o1:ok B64 l1) (y1:l1.length*8≤140737488351232) (r2:Rd .u64 w s2 (nn l2)) (o2:ok B64 l2) (y2:l2.length*8≤140737488351232) (r3:Rd .u64 w s3 (nn l3)) (o3:ok B64 l3) (y3:l3.length*8≤140737488351232) (r4:Rd .u64 w s4 (nn l4)) (o4:ok B64 l4) (y4:l4.length*8≤140737488351232):Calls pr surdtop_WholeSpans_id #[.agg #[.bool n1,s1.v, .int .i64 e1, .bool n2,s2.v, .int .i64 e2, .bool n3,s3.v, .int .i64 e3, .bool n4,s4.v, .int .i64 e4, .int .i64 i0, .int .i64 k0], .int .i64 p0] w (Yes w):=by
 refine Calls.mono (gz n1 s1 e1 n2 s2 e2 n3 s3 e3 n4 s4 e4 i0 k0 p0 w (fun e w'=>e= .returned (.bool true)) (fun t1 _ _ _ _ _ _ _ _ _ _ _ _ _ _=>L5 t1) L6 L13 L15 ?_ ?_ ?_ ?_ ?_) fun e w' h=>⟨h.2,h.1⟩
 ·intro w1 x1 a1
  have hal:=Ahead.alloc w1 (.cells (slcs [s1,s2,s3,s4]).toArray tU64s (0,0))
  have hlit:=Cv w1 tU64s [s1,s2,s3,s4]
  show Calls pr surdtop_small_id _ _ _
  have lims:Lims (w1.alloc (.cells (slcs [s1,s2,s3,s4]).toArray tU64s (0,0))) [s1,s2,s3,s4] [l1,l2,l3,l4]:=⟨rfl,fun i hi=>by
   rcases i with _|_|_|_|i
   ·exact ⟨(r1.ahead a1).ahead hal,y1,o1⟩
   ·exact ⟨(r2.ahead a1).ahead hal,y2,o2⟩
   ·exact ⟨(r3.ahead a1).ahead hal,y3,o3⟩
   ·exact ⟨(r4.ahead a1).ahead hal,y4,o4⟩
   ·have:i+1+1+1+1<4:=hi
    omega⟩
  refine Calls.mono (U5 (most:=4096) hlit lims (by omega) (by simp)) ?_
  rintro e w3 ⟨h3,b,rfl,hb⟩
  have a3:=(a1.trans hal).trans h3
  refine ⟨_,rfl,h3,zm (fun hn=> ?_) (fun hy=> ?_)⟩
  ·exact ended (w:=w) j4 (hT.ahead a3)
  ·have hb':b=true:=by cases b;cases hy;rfl
   have g1:bl (val B64 l1)≤4096:=hb hb' 0 (by simp)
   have g2:bl (val B64 l2)≤4096:=hb hb' 1 (by simp)
   have g3:bl (val B64 l3)≤4096:=hb hb' 2 (by simp)
   have g4:bl (val B64 l4)≤4096:=hb hb' 3 (by simp)
   intro w5 x5 a5
   refine Calls.mono (Ut (hT.ahead a5) (fun e he=>Dv.row (r1.ahead a5) y1 o1 g1 he) (fun e he=>Dv.row (r2.ahead a5) y2 o2 g2 he)) ?_
   rintro e w6 ⟨h6,m1,t1,f1,m2,t2,f2,lo,hi,rfl,sA,q1,q2⟩
   refine ⟨_,_,_,_,_,_,rfl,h6,fun w7 x7 a7=> ?_⟩
   refine Calls.mono (Ut (hT.ahead a7) (fun e he=>Dv.row (r3.ahead a7) y3 o3 g3 he) (fun e he=>Dv.row (r4.ahead a7) y4 o4 g4 he)) ?_
   rintro e w8 ⟨h8,m3,t3,f3,m4,t4,f4,lo',hi',rfl,sB,q3,q4⟩
   refine ⟨_,_,_,_,_,_,rfl,h8,fun w9 x9 a9=> ?_⟩
   refine Calls.mono (js (by omega) (by omega) (by omega)) ?_
   rintro e w10 ⟨rfl,pp,rfl,hp1,hp2⟩
   refine ⟨_,rfl,Ahead.refl _,fun w96 x96 a96=>⟨⟨hp1,hp2⟩,⟨lo,hi, ?_,q1,q2⟩,⟨lo',hi', ?_,q3,q4⟩⟩⟩
   ·exact sA.mv ((Mv.of_ext x7).trans ((Mv.step h8 x9).trans (Mv.of_ext x96)))
   ·exact sB.mv ((Mv.of_ext x9).trans (Mv.of_ext x96))
 ·rintro t1 _ _ _ _ _ _ _ _ _ _ _ _ _ _ _ _ _ _ _ _ _ _ _ _ _ _ w_ a0 ⟨hp,⟨lo,hi,sA,q1,q2⟩,⟨lo',hi',sB,q3,q4⟩⟩ w11 x11 a11
  refine Calls.mono (Q8 (sA.ext x11)) ?_
  rintro en w12 ⟨k12,b,s,t,p,q,rfl,rx,ix⟩
  refine ⟨_,_,_,rfl,k12,fun w13 x13 a13=> ?_⟩
  have m13:=Mv.step k12 x13
  refine Calls.mono (Q8 ((sB.ext x11).mv m13)) ?_
  rintro en w14 ⟨k14,b',s',t',p',q',rfl,ry,iy⟩
  refine ⟨_,_,_,rfl,k14,fun w56 x56 a56=>⟨lo,hi,lo',hi',p,q,p',q',hp, ?_, ?_,by omega,by omega,by omega,by omega,RVmv rx ((Mv.of_ext x13).trans (Mv.step k14 x56)),ry.ext x56,ix,iy⟩⟩
  ·exact (sA.ext x11).mv (m13.trans (Mv.step k14 x56))
  ·exact (sB.ext x11).mv (m13.trans (Mv.step k14 x56))
 ·rintro t1 _ _ _ _ _ _ _ _ _ _ _ _ _ _ _ _ _ _ w_ a0 ⟨lo,hi,lo',hi',p,q,p',q',N⟩
  refine Calls.mono (zd7 (hT.ahead a0) N.A N.B N.pos (by omega) (by omega)) ?_
  rintro en w15 ⟨k15,_,_,_,_,_,_,la,ua,rfl,da,da',ia⟩
  refine ⟨_,_,_,_,_,_,_,rfl,k15,fun w16 x16 a16=> ?_⟩
  have N16:=N.mv (Mv.step k15 x16)
  refine Calls.mono (zec (hT.ahead a16) N16.A N16.B N.pos (by omega) (by omega)) ?_
  rintro en w17 ⟨k17,_,_,_,_,_,_,lb,ub,rfl,db,db',ib⟩
  refine ⟨_,_,_,_,_,_,_,rfl,k17,fun w18 x18 a18=> ?_⟩
  have m18:=Mv.step k17 x18
  have N18:=N16.mv m18
  refine Calls.mono (zea (hT.ahead a18) N18.A N18.B N.x1 N.x2 N.x3 N.x4 N.pos (by omega) (by omega)) ?_
  rintro en w19 ⟨k19,_,_,_,_,_,_,lc,uc,rfl,dc,dc',ic⟩
  refine ⟨_,_,_,_,_,_,_,rfl,k19,fun w20 x20 a20=> ?_⟩
  have m20:=Mv.step k19 x20
  have N20:=N18.mv m20
  refine Calls.mono (zad (hT.ahead a20) N20.A N.x1 N.x2 N.pos (by omega) (by omega)) ?_
  rintro en w21 ⟨k21,_,_,_,_,_,_,ld,ud,rfl,dd,dd',id_⟩
  refine ⟨_,_,_,_,_,_,_,rfl,k21,fun w22 x22 a22=> ?_⟩
  have m22:=Mv.step k21 x22
  have N22:=N20.mv m22
  have ma:=(Mv.of_ext x16).trans (m18.trans (m20.trans m22))
  have mb:=(Mv.of_ext x18).trans (m20.trans m22)
  have mc:=(Mv.of_ext x20).trans m22
  refine Calls.mono (Th N22.X N22.Y (by omega)) ?_
  rintro en w23 ⟨k23,_,_,_,rfl,ra⟩
  have A23:=Mv.of_ahead k23
  refine ⟨_,_,_,rfl,k23,Calls.mono (kn ((da.mv ma).mv A23) ((da'.mv ma).mv A23) ra (zb2 N.ix N.iy ia.1 ia.2) (by omega)) ?_⟩
  rintro en w24 ⟨k24,rfl⟩
  have A24:=A23.trans (Mv.of_ahead k24)
  have N24:=N22.mv A24
  refine ⟨_,rfl,k24,zt rfl (Calls.mono (Ca N24.X N24.Y (by omega)) ?_)⟩
  rintro en w25 ⟨k25,_,_,_,rfl,rb⟩
  have A25:=A24.trans (Mv.of_ahead k25)
  refine ⟨_,_,_,rfl,k25,Calls.mono (kn ((db.mv mb).mv A25) ((db'.mv mb).mv A25) rb (zfj N.ix N.iy ib.1 ib.2) (by omega)) ?_⟩
  rintro en w26 ⟨k26,rfl⟩
  have A26:=A25.trans (Mv.of_ahead k26)
  have N26:=N22.mv A26
  refine ⟨_,rfl,k26,zt rfl (Calls.mono (Tj N26.X N26.Y (by omega)) ?_)⟩
  rintro en w27 ⟨k27,_,_,_,rfl,rc⟩
  have A27:=A26.trans (Mv.of_ahead k27)
  refine ⟨_,_,_,rfl,k27,Calls.mono (kn ((dc.mv mc).mv A27) ((dc'.mv mc).mv A27) rc (zfg N.ix N.iy ic) (by omega)) ?_⟩
  rintro en w28 ⟨k28,rfl⟩
  have A28:=A27.trans (Mv.of_ahead k28)
  have N28:=N22.mv A28
  refine ⟨_,rfl,k28,zt rfl (Calls.mono (Tj N28.X N28.X (by omega)) ?_)⟩
  rintro en w29 ⟨k29,_,_,_,rfl,rd⟩
  have A29:=A28.trans (Mv.of_ahead k29)
  refine ⟨_,_,_,rfl,k29,Calls.mono (kn ((dd.ext x22).mv A29) ((dd'.ext x22).mv A29) rd (zf3 N.ix id_) (by omega)) ?_⟩
  rintro en w30 ⟨k30,rfl⟩
  have A30:=A29.trans (Mv.of_ahead k30)
  exact ⟨_,rfl,k30,zt rfl fun w54 x54 a54=>⟨⟨lo,hi,lo',hi',p,q,p',q',N22.mv (A30.trans (Mv.of_ext x54))⟩,⟨rfl,rfl,rfl⟩,⟨rfl,rfl,rfl⟩⟩⟩
 ·rintro t1 _ _ _ _ _ _ _ _ _ _ _ _ _ _ _ _ _ _ _ _ _ _ _ _ w_ a0 ⟨⟨lo,hi,lo',hi',p,q,p',q',N⟩,⟨rfl,rfl,rfl⟩,⟨rfl,rfl,rfl⟩⟩
  refine Calls.mono (Ti N.X N.Y (by omega)) ?_
  rintro en w31 ⟨k31,rfl⟩
  have hq:=N.X.1
  have hq':=N.Y.1
  refine ⟨_,rfl,k31,zm (fun hg=>fun w53 x53 a53=> ?_) (fun hg=> ?_)⟩
  ·have hgt:=qr.1 (of_decide_eq_true hg)
   have N53:=N.mv (Mv.step k31 x53)
   refine ⟨lo,hi,lo',hi',p,q,p',q',N53,p',q',p,q,N53.Y,N53.X, ?_, ?_⟩
   ·have:=zb1 N.iy N.ix hq (by omega)
    rwa [Int.min_comm lo' lo,Int.min_comm hi' hi] at this
   ·exact zb0 N.ix N.iy hq' (by omega)
  ·have hng:¬p'*(q:Int)<p*(q':Int):=fun z=>of_decide_eq_false hg (qr.2 z)
   have N31:=N.mv (Mv.of_ahead k31)
   refine ⟨lo,hi,lo',hi',p,q,p',q',N31,p,q,p',q',N31.X,N31.Y, ?_, ?_⟩
   ·exact zb1 N.ix N.iy hq' (by omega)
   ·have:=zb0 N.iy N.ix hq (by omega)
    rwa [Int.max_comm lo' lo,Int.max_comm hi' hi] at this
 ·rintro t1 _ _ _ _ _ _ _ _ _ _ _ _ _ _ _ _ _ _ _ _ _ _ _ _ w_ a0 ⟨lo,hi,lo',hi',p,q,p',q',N,pl,ql,pg,qg,rl,rg,il,ig⟩
  have hq:=N.X.1
  have hq':=N.Y.1
  refine Calls.mono (zd9 (hT.ahead a0) N.A N.B) ?_
  rintro en w32 ⟨k32,_,_,_,_,_,_,la,ua,rfl,da,da',ia,ia'⟩
  subst ia ia'
  refine ⟨_,_,_,_,_,_,_,rfl,k32,fun w33 x33 a33=> ?_⟩
  have m33:=Mv.step k32 x33
  have N33:=N.mv m33
  refine Calls.mono (zd8 (hT.ahead a33) N33.A N33.B) ?_
  rintro en w34 ⟨k34,_,_,_,_,_,_,lb,ub,rfl,db,db',ib,ib'⟩
  subst ib ib'
  refine ⟨_,_,_,_,_,_,_,rfl,k34,fun w35 x35 a35=> ?_⟩
  have m35:=Mv.step k34 x35
  have N35:=N33.mv m35
  refine Calls.mono (zd6 (hT.ahead a35) N35.A) ?_
  rintro en w36 ⟨k36,_,_,_,_,_,_,lc,uc,rfl,dc,dc',ic⟩
  refine ⟨_,_,_,_,_,_,_,rfl,k36,fun w37 x37 a37=> ?_⟩
  have m37:=Mv.step k36 x37
  have N37:=N35.mv m37
  have m07:=m33.trans (m35.trans m37)
  have ma:=(Mv.of_ext x33).trans (m35.trans m37)
  have mb:=(Mv.of_ext x35).trans m37
  refine Calls.mono (kn (da.mv ma) (da'.mv ma) (RVmv rl m07) il (by omega)) ?_
  rintro en w38 ⟨k38,rfl⟩
  have A38:=Mv.of_ahead k38
  refine ⟨_,rfl,k38,zt rfl (Calls.mono (kn ((db.mv mb).mv A38) ((db'.mv mb).mv A38) (RVmv rg (m07.trans A38)) ig (by omega)) ?_)⟩
  rintro en w39 ⟨k39,rfl⟩
  have A39:=A38.trans (Mv.of_ahead k39)
  refine ⟨_,rfl,k39,zt rfl (Calls.mono (zd2 (RVmv N37.X A39)) ?_)⟩
  rintro en w40 ⟨k40,_,_,_,rfl,rc⟩
  have A40:=A39.trans (Mv.of_ahead k40)
  refine ⟨_,_,_,rfl,k40,Calls.mono (kn ((dc.ext x37).mv A40) ((dc'.ext x37).mv A40) rc (zbz N.ix ic) (by omega)) ?_⟩
  rintro en w41 ⟨k41,rfl⟩
  have A41:=A40.trans (Mv.of_ahead k41)
  have N41:=N37.mv A41
  have a41:=(((a37.trans k38).trans k39).trans k40).trans k41
  refine ⟨_,rfl,k41,zt rfl (Calls.mono (zeb (hT.ahead a41) N41.A N41.B N.pos (by omega)) ?_)⟩
  rintro en w42 ⟨k42,⟨z1,z2,hz⟩|⟨hs,_,_,_,_,_,_,ld,ud,rfl,dd,dd',hQ⟩⟩
  ·unfold noQ at hz
   subst hz
   refine ⟨_,_,_,_,_,_,_,rfl,k42,yz rfl fun w43 x43 a43=> ?_⟩
   have N43:=N41.mv (Mv.step k42 x43)
   refine Calls.mono (qs N43.B.a) ?_
   rintro en w44 ⟨k44,_,_,_,rfl,r44⟩
   refine ⟨_,_,_,rfl,k44,Calls.mono (Hb r44) ?_⟩
   rintro en w45 ⟨k45,rfl⟩
   have N45:=N43.mv ((Mv.of_ahead k44).trans (Mv.of_ahead k45))
   refine ⟨_,rfl,k45,yz (decide_eq_true (by unfold sgZ;split<;>(try split)<;>omega)) (Calls.mono (qs N45.B.b) ?_)⟩
   rintro en w46 ⟨k46,_,_,_,rfl,r46⟩
   refine ⟨_,_,_,rfl,k46,Calls.mono (Hb r46) ?_⟩
   rintro en w47 ⟨k47,rfl⟩
   refine ⟨_,rfl,k47,yz (decide_eq_true (by unfold sgZ;split<;>(try split)<;>omega)) ?_⟩
   exact ended (w:=w) j4 (hT.ahead ((((a43.trans k44).trans k45).trans k46).trans k47))
  ·refine ⟨_,_,_,_,_,_,_,rfl,k42,zt rfl fun w49 x49 a49=> ?_⟩
   have N49:=N41.mv (Mv.step k42 x49)
   obtain ⟨hp',iq⟩:=zfi N.ix N.iy hq hq' N.B.le hs hQ
   refine Calls.mono (D4 N49.X N49.Y hp' (by omega)) ?_
   rintro en w50 ⟨k50,_,_,_,rfl,rq⟩
   refine ⟨_,_,_,rfl,k50,Calls.mono (kn ((dd.ext x49).ahead k50) ((dd'.ext x49).ahead k50) rq iq (by omega)) ?_⟩
   rintro en w51 ⟨k51,rfl⟩
   refine ⟨_,rfl,k51,yz rfl ?_⟩
   exact ended (w:=w) j4 (hT.ahead ((a49.trans k50).trans k51))
abbrev DyR (W:World) (b:Bool) (s:Slc) (x:Int) (l:List Nat):Prop:=Rd .u64 W s (nn l)∧ok B64 l∧l.length*8≤140737488351232∧-9223372036854775808≤x∧x≤9223372036854775807
theorem WholeSpans_ok {w} (hT:Tab w) {n1:Bool} {s1:Slc} {e1:Int} {l1:List Nat} (d1:DyR w n1 s1 e1 l1) {n2:Bool} {s2:Slc} {e2:Int} {l2:List Nat} (d2:DyR w n2 s2 e2 l2) {n3:Bool} {s3:Slc} {e3:Int} {l3:List Nat} (d3:DyR w n3 s3 e3 l3) {n4:Bool} {s4:Slc} {e4:Int} {l4:List Nat} (d4:DyR w n4 s4 e4 l4) {i0 k0:Int} (hi0: -9223372036854775808≤i0∧i0≤9223372036854775807) (hk0: -9223372036854775808≤k0∧k0≤9223372036854775807) {x1:Int} (hx1: -9223372036854775808≤x1∧x1≤9223372036854775807):Calls pr surdtop_WholeSpans_id #[.agg #[.bool n1,s1.v, .int .i64 e1, .bool n2,s2.v, .int .i64 e2, .bool n3,s3.v, .int .i64 e3, .bool n4,s4.v, .int .i64 e4, .int .i64 i0, .int .i64 k0], .int .i64 x1] w (Yes w):=
 Vy hT d1.1 d1.2.1 d1.2.2.1 d2.1 d2.2.1 d2.2.2.1 d3.1 d3.2.1 d3.2.2.1 d4.1 d4.2.1 d4.2.2.1
end Sm
end
end Go.Proofs.YtbeiopoejdkheaaGreatDoor
