/- What the law leans on, part 5. No condition. -/
import Derived.Test.YtbeiopoejdkheaaGreatDoorZWholeSpans4
set_option linter.unusedVariables false
set_option linter.unusedSimpArgs false
set_option maxRecDepth 100000
set_option maxHeartbeats 4000000
namespace Go.Proofs.YtbeiopoejdkheaaGreatDoor
section
open Go Go.RowKit Eng L2
open _root_.Go.IntKind (wrap)
theorem Qr (aa:Bool) (ab:Slc) (ac:Int) (w:World) (R:Ending→World→Prop) (h:xw w w fun w1=>(R (.returned (uD (!aa) ab ac)) w1)):Calls pr 62 #[uD aa ab ac] w (fun e_ w_=>Ahead w w_∧R e_ w_):=by
 refine Qs aa ab ac w _ ?_
 ·have A:Ahead w w:=Ahead.refl w
  have X:Ext w w:=Ext.refl w
  refine zn fun bk1 u1 hb a _ B1=> ?_;have g1:=zj A.size hb;obtain ⟨A,X⟩:=axa2 a A X;refine zn fun bk2 u2 hb a _ B2=> ?_;have g2:=zj A.size hb;have l1_2:=lt1 hb B1;replace B1:=B1.ahead a;obtain ⟨A,X⟩:=axa2 a A X;refine yt 0 B1 rfl ?_;refine uh 0 B1 rfl rfl rfl fun u3 k_u3 B1_=> ?_;replace B1:Blt u3 bk1 27 #[Value.bool (!aa),ab.v,vi ac]:=B1_;clear B1_;replace B2:=up1 k_u3 B2;obtain ⟨A,X⟩:=axu2 k_u3 g1 A X;refine l3_t B1 ?_;refine s3_t B2 fun u4 k B2=> ?_;replace B1:=up1 k B1;obtain ⟨A,X⟩:=axu2 k g2 A X;refine l3_t B2 ?_;replace h:=h _ X A;exact ⟨A,h⟩
theorem Gx (ac:Bool) (aa:Slc) (ab:Int) (w:World) (R:Ending→World→Prop) (h:xw w w fun w1=>(R (.returned (uD (false) aa ab)) w1)):Calls pr 107 #[uD ac aa ab] w (fun e_ w_=>Ahead w w_∧R e_ w_):=by
 refine Gy ac aa ab w _ ?_
 ·have A:Ahead w w:=Ahead.refl w
  have X:Ext w w:=Ext.refl w
  refine zn fun bk1 u1 hb a _ B1=> ?_;have g1:=zj A.size hb;obtain ⟨A,X⟩:=axa2 a A X;refine zn fun bk2 u2 hb a _ B2=> ?_;have g2:=zj A.size hb;have l1_2:=lt1 hb B1;replace B1:=B1.ahead a;obtain ⟨A,X⟩:=axa2 a A X;refine uh 0 B1 rfl rfl rfl fun u3 k_u3 B1_=> ?_;replace B1:Blt u3 bk1 27 #[Value.bool false,aa.v,vi ab]:=B1_;clear B1_;replace B2:=up1 k_u3 B2;obtain ⟨A,X⟩:=axu2 k_u3 g1 A X;refine l3_t B1 ?_;refine s3_t B2 fun u4 k B2=> ?_;replace B1:=up1 k B1;obtain ⟨A,X⟩:=axu2 k g2 A X;refine l3_t B2 ?_;replace h:=h _ X A;exact ⟨A,h⟩
theorem Qp (aa:Bool) (ab:Slc) (ac:Int) (ad:Bool) (ae:Slc) (af:Int) (w:World) (R:Ending→World→Prop) (h:xw w w fun w1=>(kI 37 #[uD aa ab ac] w1 fun w2 x1=>Ahead w1 w2∧(br (decide (x1≤0)) (kI 37 #[uD ad ae af] w2 fun w3 x2=>Ahead w2 w3∧(R (.returned (.bool (decide (x2≥0)))) w3)) (R (.returned (.bool false)) w2)))):Calls pr 108 #[uS aa ab ac ad ae af] w (fun e_ w_=>Ahead w w_∧R e_ w_):=by
 refine Qq aa ab ac ad ae af w _ ?_
 ·have A:Ahead w w:=Ahead.refl w
  have X:Ext w w:=Ext.refl w
  refine zn fun bk1 u1 hb a _ B1=> ?_;have g1:=zj A.size hb;obtain ⟨A,X⟩:=axa2 a A X;refine v9 B1 ?_;replace h:=h _ X A;refine Calls.mono h ?_;clear h;rintro e1 w2 ⟨x1,he_,a,h⟩;refine ⟨x1,he_, ?_⟩;clear he_;replace B1:=B1.ahead a;obtain ⟨A,X⟩:=axr2 a A;refine zv h (fun h_=> ?_) (fun h_=> ?_)
  ·replace h:=h_;clear h_;refine ut B1 ?_;refine Calls.mono h ?_;clear h;rintro e2 w3 ⟨x2,he_,a,h⟩;refine ⟨x2,he_, ?_⟩;clear he_;replace B1:=B1.ahead a;obtain ⟨A,X⟩:=axr2 a A;exact ⟨A,h⟩
  ·replace h:=h_;clear h_;exact ⟨A,h⟩
theorem Di (aa:Bool) (ab:Slc) (ac:Int) (ad:Bool) (ae:Slc) (af:Int) (a1:Int) (a2:Int) (w:World) (R:Ending→World→Prop) (h:xw w w fun w1=>(kI 72 #[uS aa ab ac ad ae af] w1 fun w2 x1=>Ahead w1 w2∧(br (x1 !=0) (xw w w2 fun w3=>(R (.returned (.tuple #[uS (false) nSl (0:Int) (false) nSl (0:Int),vi x1])) w3)) (br (decide (a1<0)) (xw w w2 fun w4=>(R (.returned (.tuple #[uS (false) nSl (0:Int) (false) nSl (0:Int),vi 1])) w4)) (br (decide (a1>1000)) (xw w w2 fun w5=>(R (.returned (.tuple #[uS (false) nSl (0:Int) (false) nSl (0:Int),vi 1])) w5)) (br (decide (a2<(-1099511627776))) (xw w w2 fun w6=>(R (.returned (.tuple #[uS (false) nSl (0:Int) (false) nSl (0:Int),vi 1])) w6)) (br (decide (a2>1099511627776)) (xw w w2 fun w7=>(R (.returned (.tuple #[uS (false) nSl (0:Int) (false) nSl (0:Int),vi 1])) w7)) (br ((Int.tmod a1 2)==0) (Calls pr 73 #[uS aa ab ac ad ae af] w2 fun e2 w8=>∃b1:Bool,∃s1:Slc,∃x2:Int,∃b2:Bool,∃s2:Slc,∃x3:Int,e2= .returned (uS b1 s1 x2 b2 s2 x3)∧Ahead w2 w8∧(xw w w8 fun w9=>(kU 105 #[uD b1 s1 x2,vi a1] w9 fun w10 b3 s3 x4 x5=>Ahead w9 w10∧(xw w w10 fun w11=>(kU 105 #[uD b2 s2 x3,vi a1] w11 fun w12 b4 s4 x6 x7=>Ahead w11 w12∧(xw w w12 fun w13=>(kI 64 #[vi x5,vi x7] w13 fun w14 x8=>Ahead w13 w14∧(br (x8 !=0) (xw w w14 fun w15=>(R (.returned (.tuple #[uS (false) nSl (0:Int) (false) nSl (0:Int),vi x8])) w15)) (kV 102 #[uD b3 s3 x4,uD b4 s4 x6,vi a2] w14 fun w16 b5 s5 x9 b6 s6 x10 x11=>Ahead w14 w16∧(xw w w16 fun w17=>(R (.returned (.tuple #[uS b5 s5 x9 b6 s6 x10,vi x11])) w17))))))))))) (kU 105 #[uD aa ab ac,vi a1] w2 fun w18 b7 s7 x12 x13=>Ahead w2 w18∧(xw w w18 fun w19=>(kU 105 #[uD ad ae af,vi a1] w19 fun w20 b8 s8 x14 x15=>Ahead w19 w20∧(xw w w20 fun w21=>(kI 64 #[vi x13,vi x15] w21 fun w22 x16=>Ahead w21 w22∧(br (x16 !=0) (xw w w22 fun w23=>(R (.returned (.tuple #[uS (false) nSl (0:Int) (false) nSl (0:Int),vi x16])) w23)) (kV 102 #[uD b7 s7 x12,uD b8 s8 x14,vi a2] w22 fun w24 b9 s9 x17 b10 s10 x18 x19=>Ahead w22 w24∧(xw w w24 fun w25=>(R (.returned (.tuple #[uS b9 s9 x17 b10 s10 x18,vi x19])) w25))))))))))))))))):Calls pr 66 #[uS aa ab ac ad ae af,vi a1,vi a2] w (fun e_ w_=>Ahead w w_∧R e_ w_):=by
  refine Dj aa ab ac ad ae af a1 a2 w _ ?_
  · have A:Ahead w w:=Ahead.refl w
    have X:Ext w w:=Ext.refl w
    refine zn fun bk1 u1 hb a _ B1=> ?_;have g1:=zj A.size hb;obtain ⟨A,X⟩:=axa2 a A X;refine zn fun bk2 u2 hb a _ B2=> ?_;have g2:=zj A.size hb;have l1_2:=lt1 hb B1;replace B1:=B1.ahead a;obtain ⟨A,X⟩:=axa2 a A X;refine l6_t B1 ?_;replace h:=h _ X A;refine Calls.mono h ?_;clear h;rintro e1 w2 ⟨x1,he_,a,h⟩;refine ⟨x1,he_, ?_⟩;clear he_;obtain ⟨B1,B2⟩:=ah2 a B1 B2;obtain ⟨A,X⟩:=axr2 a A;refine zv h (fun h_=> ?_) (fun h_=> ?_)
    ·replace h:=h_;clear h_;refine s6_t B2 fun u3 k B2=> ?_;replace B1:=up1 k B1;obtain ⟨A,X⟩:=axu2 k g2 A X;refine l6_t B2 ?_;replace h:=h _ X A;exact ⟨A,h⟩
    ·replace h:=h_;clear h_;refine zv h (fun h_=> ?_) (fun h_=> ?_)
     ·replace h:=h_;clear h_;refine s6_t B2 fun u4 k B2=> ?_;replace B1:=up1 k B1;obtain ⟨A,X⟩:=axu2 k g2 A X;refine l6_t B2 ?_;replace h:=h _ X A;exact ⟨A,h⟩
     ·replace h:=h_;clear h_;refine zv h (fun h_=> ?_) (fun h_=> ?_)
      ·replace h:=h_;clear h_;refine s6_t B2 fun u5 k B2=> ?_;replace B1:=up1 k B1;obtain ⟨A,X⟩:=axu2 k g2 A X;refine l6_t B2 ?_;replace h:=h _ X A;exact ⟨A,h⟩
      ·replace h:=h_;clear h_;refine zv h (fun h_=> ?_) (fun h_=> ?_)
       ·replace h:=h_;clear h_;refine s6_t B2 fun u6 k B2=> ?_;replace B1:=up1 k B1;obtain ⟨A,X⟩:=axu2 k g2 A X;refine l6_t B2 ?_;replace h:=h _ X A;exact ⟨A,h⟩
       ·replace h:=h_;clear h_;refine zv h (fun h_=> ?_) (fun h_=> ?_)
        ·replace h:=h_;clear h_;refine s6_t B2 fun u7 k B2=> ?_;replace B1:=up1 k B1;obtain ⟨A,X⟩:=axu2 k g2 A X;refine l6_t B2 ?_;replace h:=h _ X A;exact ⟨A,h⟩
        ·replace h:=h_;clear h_;refine zv h (fun h_=> ?_) (fun h_=> ?_)
         ·replace h:=h_;clear h_;refine l6_t B1 ?_;refine Calls.mono h ?_;clear h;rintro e2 w8 ⟨b1,s1,x2,b2,s2,x3,he_,a,h⟩;refine ⟨b1,s1,x2,b2,s2,x3,he_, ?_⟩;clear he_;obtain ⟨B1,B2⟩:=ah2 a B1 B2;obtain ⟨A,X⟩:=axr2 a A;refine s6_t B1 fun u8 k B1=> ?_;replace B2:=up1 k B2;obtain ⟨A,X⟩:=axu2 k g1 A X;refine v9 B1 ?_;replace h:=h _ X A;refine Calls.mono h ?_;clear h;rintro e3 w10 ⟨b3,s3,x4,x5,he_,a,h⟩;refine ⟨b3,s3,x4,x5,he_, ?_⟩;clear he_;obtain ⟨B1,B2⟩:=ah2 a B1 B2;obtain ⟨A,X⟩:=axr2 a A;refine zn fun bk3 u9 hb a _ B3=> ?_;have g3:=zj A.size hb;obtain ⟨_,_⟩:=lt2 hb B1 B2;obtain ⟨B1,B2⟩:=ah2 a B1 B2;obtain ⟨A,X⟩:=axa2 a A X;refine s3_t B3 fun u10 k B3=> ?_;obtain ⟨B1,B2⟩:=up2 k B1 B2;obtain ⟨A,X⟩:=axu2 k g3 A X;refine ut B1 ?_;replace h:=h _ X A;refine Calls.mono h ?_;clear h;rintro e4 w12 ⟨b4,s4,x6,x7,he_,a,h⟩;refine ⟨b4,s4,x6,x7,he_, ?_⟩;clear he_;obtain ⟨B1,B2,B3⟩:=ah3 a B1 B2 B3;obtain ⟨A,X⟩:=axr2 a A;refine zn fun bk4 u11 hb a _ B4=> ?_;have g4:=zj A.size hb;obtain ⟨_,_,_⟩:=lt3 hb B1 B2 B3;obtain ⟨B1,B2,B3⟩:=ah3 a B1 B2 B3;obtain ⟨A,X⟩:=axa2 a A X;refine s3_t B4 fun u12 k B4=> ?_;obtain ⟨B1,B2,B3⟩:=up3 k B1 B2 B3;obtain ⟨A,X⟩:=axu2 k g4 A X;replace h:=h _ X A;refine Calls.mono h ?_;clear h;rintro e5 w14 ⟨x8,he_,a,h⟩;refine ⟨x8,he_, ?_⟩;clear he_;obtain ⟨B1,B2,B3,B4⟩:=ah4 a B1 B2 B3 B4;obtain ⟨A,X⟩:=axr2 a A;refine zv h (fun h_=> ?_) (fun h_=> ?_)
          ·replace h:=h_;clear h_;refine s6_t B2 fun u13 k B2=> ?_;obtain ⟨B1,B3,B4⟩:=up3 k B1 B3 B4;obtain ⟨A,X⟩:=axu2 k g2 A X;refine l6_t B2 ?_;replace h:=h _ X A;exact ⟨A,h⟩
          ·replace h:=h_;clear h_;refine l3_t B3 ?_;refine l3_t B4 ?_;refine Calls.mono h ?_;clear h;rintro e6 w16 ⟨b5,s5,x9,b6,s6,x10,x11,he_,a,h⟩;refine ⟨b5,s5,x9,b6,s6,x10,x11,he_, ?_⟩;clear he_;obtain ⟨B1,B2,B3,B4⟩:=ah4 a B1 B2 B3 B4;obtain ⟨A,X⟩:=axr2 a A;refine s6_t B2 fun u14 k B2=> ?_;obtain ⟨B1,B3,B4⟩:=up3 k B1 B3 B4;obtain ⟨A,X⟩:=axu2 k g2 A X;refine l6_t B2 ?_;replace h:=h _ X A;exact ⟨A,h⟩
         ·replace h:=h_;clear h_;refine v9 B1 ?_;refine Calls.mono h ?_;clear h;rintro e7 w18 ⟨b7,s7,x12,x13,he_,a,h⟩;refine ⟨b7,s7,x12,x13,he_, ?_⟩;clear he_;obtain ⟨B1,B2⟩:=ah2 a B1 B2;obtain ⟨A,X⟩:=axr2 a A;refine zn fun bk5 u15 hb a _ B5=> ?_;have g5:=zj A.size hb;obtain ⟨_,_⟩:=lt2 hb B1 B2;obtain ⟨B1,B2⟩:=ah2 a B1 B2;obtain ⟨A,X⟩:=axa2 a A X;refine s3_t B5 fun u16 k B5=> ?_;obtain ⟨B1,B2⟩:=up2 k B1 B2;obtain ⟨A,X⟩:=axu2 k g5 A X;refine ut B1 ?_;replace h:=h _ X A;refine Calls.mono h ?_;clear h;rintro e8 w20 ⟨b8,s8,x14,x15,he_,a,h⟩;refine ⟨b8,s8,x14,x15,he_, ?_⟩;clear he_;obtain ⟨B1,B2,B5⟩:=ah3 a B1 B2 B5;obtain ⟨A,X⟩:=axr2 a A;refine zn fun bk6 u17 hb a _ B6=> ?_;have g6:=zj A.size hb;obtain ⟨_,_,_⟩:=lt3 hb B1 B2 B5;obtain ⟨B1,B2,B5⟩:=ah3 a B1 B2 B5;obtain ⟨A,X⟩:=axa2 a A X;refine s3_t B6 fun u18 k B6=> ?_;obtain ⟨B1,B2,B5⟩:=up3 k B1 B2 B5;obtain ⟨A,X⟩:=axu2 k g6 A X;replace h:=h _ X A;refine Calls.mono h ?_;clear h;rintro e9 w22 ⟨x16,he_,a,h⟩;refine ⟨x16,he_, ?_⟩;clear he_;obtain ⟨B1,B2,B5,B6⟩:=ah4 a B1 B2 B5 B6;obtain ⟨A,X⟩:=axr2 a A;refine zv h (fun h_=> ?_) (fun h_=> ?_)
          ·replace h:=h_;clear h_;refine s6_t B2 fun u19 k B2=> ?_;obtain ⟨B1,B5,B6⟩:=up3 k B1 B5 B6;obtain ⟨A,X⟩:=axu2 k g2 A X;refine l6_t B2 ?_;replace h:=h _ X A;exact ⟨A,h⟩
          ·replace h:=h_;clear h_;refine l3_t B5 ?_;refine l3_t B6 ?_;refine Calls.mono h ?_;clear h;rintro e10 w24 ⟨b9,s9,x17,b10,s10,x18,x19,he_,a,h⟩;refine ⟨b9,s9,x17,b10,s10,x18,x19,he_, ?_⟩;clear he_;obtain ⟨B1,B2,B5,B6⟩:=ah4 a B1 B2 B5 B6;obtain ⟨A,X⟩:=axr2 a A;refine s6_t B2 fun u20 k B2=> ?_;obtain ⟨B1,B5,B6⟩:=up3 k B1 B5 B6;obtain ⟨A,X⟩:=axu2 k g2 A X;refine l6_t B2 ?_;replace h:=h _ X A;exact ⟨A,h⟩
theorem Qg (aa:Bool) (ab:Slc) (ac:Int) (ad:Bool) (ae:Slc) (af:Int) (ag:Int) (w:World) (R:Ending→World→Prop) (h:xw w w fun w1=>(kV 66 #[uS aa ab ac ad ae af,vi 2,vi ag] w1 fun w2 b1 s1 x1 b2 s2 x2 x3=>Ahead w1 w2∧(xw w w2 fun w3=>(R (.returned (.tuple #[uS b1 s1 x1 b2 s2 x2,vi x3])) w3)))):Calls pr 26 #[uS aa ab ac ad ae af,vi ag] w (fun e_ w_=>Ahead w w_∧R e_ w_):=by
 refine Qh aa ab ac ad ae af ag w _ ?_
 ·have A:Ahead w w:=Ahead.refl w
  have X:Ext w w:=Ext.refl w
  refine zn fun bk1 u1 hb a _ B1=> ?_;have g1:=zj A.size hb;obtain ⟨A,X⟩:=axa2 a A X;refine zn fun bk2 u2 hb a _ B2=> ?_;have g2:=zj A.size hb;have l1_2:=lt1 hb B1;replace B1:=B1.ahead a;obtain ⟨A,X⟩:=axa2 a A X;refine l6_t B1 ?_;replace h:=h _ X A;refine Calls.mono h ?_;clear h;rintro e1 w2 ⟨b1,s1,x1,b2,s2,x2,x3,he_,a,h⟩;refine ⟨b1,s1,x1,b2,s2,x2,x3,he_, ?_⟩;clear he_;obtain ⟨B1,B2⟩:=ah2 a B1 B2;obtain ⟨A,X⟩:=axr2 a A;refine s6_t B2 fun u3 k B2=> ?_;replace B1:=up1 k B1;obtain ⟨A,X⟩:=axu2 k g2 A X;refine l6_t B2 ?_;replace h:=h _ X A;exact ⟨A,h⟩
theorem za2 (aa:Bool) (ab:Slc) (ac:Slc) (ad:Int) (w:World) (R:Ending→World→Prop) (h:xw w w fun w1=>(kU 77 #[uR aa ab ac,vi ad,vi 0] w1 fun w2 b1 s1 x1 x2=>Ahead w1 w2∧(br (x2==70) (xw w w2 fun w3=>(R (.returned (.tuple #[uS (false) nSl (0:Int) (false) nSl (0:Int),vi x2])) w3)) (br (x2==1) (xw w w2 fun w4=>(R (.returned (.tuple #[uS (false) nSl (0:Int) (false) nSl (0:Int),vi x2])) w4)) (xw w w2 fun w5=>(kU 77 #[uR aa ab ac,vi ad,vi 1] w5 fun w6 b2 s2 x3 x4=>Ahead w5 w6∧(xw w w6 fun w7=>(kV 78 #[uD b1 s1 x1,vi x2,uD b2 s2 x3,vi x4] w7 fun w8 b3 s3 x5 b4 s4 x6 x7=>Ahead w7 w8∧(xw w w8 fun w9=>(R (.returned (.tuple #[uS b3 s3 x5 b4 s4 x6,vi x7])) w9)))))))))):Calls pr 35 #[uR aa ab ac,vi ad] w (fun e_ w_=>Ahead w w_∧R e_ w_):=by
  refine za3 aa ab ac ad w _ ?_
  · have A:Ahead w w:=Ahead.refl w
    have X:Ext w w:=Ext.refl w
    refine zn fun bk1 u1 hb a _ B1=> ?_;have g1:=zj A.size hb;obtain ⟨A,X⟩:=axa2 a A X;refine zn fun bk2 u2 hb a _ B2=> ?_;have g2:=zj A.size hb;have l1_2:=lt1 hb B1;replace B1:=B1.ahead a;obtain ⟨A,X⟩:=axa2 a A X;refine yu B1 ?_;replace h:=h _ X A;refine Calls.mono h ?_;clear h;rintro e1 w2 ⟨b1,s1,x1,x2,he_,a,h⟩;refine ⟨b1,s1,x1,x2,he_, ?_⟩;clear he_;obtain ⟨B1,B2⟩:=ah2 a B1 B2;obtain ⟨A,X⟩:=axr2 a A;refine zn fun bk3 u3 hb a _ B3=> ?_;have g3:=zj A.size hb;obtain ⟨_,_⟩:=lt2 hb B1 B2;obtain ⟨B1,B2⟩:=ah2 a B1 B2;obtain ⟨A,X⟩:=axa2 a A X;refine s3_t B3 fun u4 k B3=> ?_;obtain ⟨B1,B2⟩:=up2 k B1 B2;obtain ⟨A,X⟩:=axu2 k g3 A X;refine zv h (fun h_=> ?_) (fun h_=> ?_)
    ·replace h:=h_;clear h_;refine s6_t B2 fun u5 k B2=> ?_;obtain ⟨B1,B3⟩:=up2 k B1 B3;obtain ⟨A,X⟩:=axu2 k g2 A X;refine l6_t B2 ?_;replace h:=h _ X A;exact ⟨A,h⟩
    ·replace h:=h_;clear h_;refine zv h (fun h_=> ?_) (fun h_=> ?_)
     ·replace h:=h_;clear h_;refine s6_t B2 fun u6 k B2=> ?_;obtain ⟨B1,B3⟩:=up2 k B1 B3;obtain ⟨A,X⟩:=axu2 k g2 A X;refine l6_t B2 ?_;replace h:=h _ X A;exact ⟨A,h⟩
     ·replace h:=h_;clear h_;refine yu B1 ?_;replace h:=h _ X A;refine Calls.mono h ?_;clear h;rintro e2 w6 ⟨b2,s2,x3,x4,he_,a,h⟩;refine ⟨b2,s2,x3,x4,he_, ?_⟩;clear he_;obtain ⟨B1,B2,B3⟩:=ah3 a B1 B2 B3;obtain ⟨A,X⟩:=axr2 a A;refine zn fun bk4 u7 hb a _ B4=> ?_;have g4:=zj A.size hb;obtain ⟨_,_,_⟩:=lt3 hb B1 B2 B3;obtain ⟨B1,B2,B3⟩:=ah3 a B1 B2 B3;obtain ⟨A,X⟩:=axa2 a A X;refine s3_t B4 fun u8 k B4=> ?_;obtain ⟨B1,B2,B3⟩:=up3 k B1 B2 B3;obtain ⟨A,X⟩:=axu2 k g4 A X;refine l3_t B3 ?_;refine l3_t B4 ?_;replace h:=h _ X A;refine Calls.mono h ?_;clear h;rintro e3 w8 ⟨b3,s3,x5,b4,s4,x6,x7,he_,a,h⟩;refine ⟨b3,s3,x5,b4,s4,x6,x7,he_, ?_⟩;clear he_;obtain ⟨B1,B2,B3,B4⟩:=ah4 a B1 B2 B3 B4;obtain ⟨A,X⟩:=axr2 a A;refine s6_t B2 fun u9 k B2=> ?_;obtain ⟨B1,B3,B4⟩:=up3 k B1 B3 B4;obtain ⟨A,X⟩:=axu2 k g2 A X;refine l6_t B2 ?_;replace h:=h _ X A;exact ⟨A,h⟩
theorem Gs (aa:Bool) (ab:Slc) (ac:Int) (ag:Int) (ad:Bool) (ae:Slc) (af:Int) (ah:Int) (w:World) (R:Ending→World→Prop) (h:xw w w fun w1=>(kI 64 #[vi ag,vi ah] w1 fun w2 x1=>Ahead w1 w2∧(br (x1 !=0) (xw w w2 fun w3=>(R (.returned (.tuple #[uS (false) nSl (0:Int) (false) nSl (0:Int),vi x1])) w3)) (xw w w2 fun w4=>(R (.returned (.tuple #[uS aa ab ac ad ae af,vi 0])) w4))))):Calls pr 78 #[uD aa ab ac,vi ag,uD ad ae af,vi ah] w (fun e_ w_=>Ahead w w_∧R e_ w_):=by
 refine Gt aa ab ac ag ad ae af ah w _ ?_
 ·have A:Ahead w w:=Ahead.refl w
  have X:Ext w w:=Ext.refl w
  refine zn fun bk1 u1 hb a _ B1=> ?_;have g1:=zj A.size hb;obtain ⟨A,X⟩:=axa2 a A X;refine zn fun bk2 u2 hb a _ B2=> ?_;have g2:=zj A.size hb;have l1_2:=lt1 hb B1;replace B1:=B1.ahead a;obtain ⟨A,X⟩:=axa2 a A X;refine zn fun bk3 u3 hb a _ B3=> ?_;have g3:=zj A.size hb;obtain ⟨_,_⟩:=lt2 hb B1 B2;obtain ⟨B1,B2⟩:=ah2 a B1 B2;obtain ⟨A,X⟩:=axa2 a A X;replace h:=h _ X A;refine Calls.mono h ?_;clear h;rintro e1 w2 ⟨x1,he_,a,h⟩;refine ⟨x1,he_, ?_⟩;clear he_;obtain ⟨B1,B2,B3⟩:=ah3 a B1 B2 B3;obtain ⟨A,X⟩:=axr2 a A;refine zv h (fun h_=> ?_) (fun h_=> ?_)
  ·replace h:=h_;clear h_;refine s6_t B3 fun u4 k B3=> ?_;obtain ⟨B1,B2⟩:=up2 k B1 B2;obtain ⟨A,X⟩:=axu2 k g3 A X;refine l6_t B3 ?_;replace h:=h _ X A;exact ⟨A,h⟩
  ·replace h:=h_;clear h_;refine l3_t B1 ?_;refine l3_t B2 ?_;refine s6_t B3 fun u5 k B3=> ?_;obtain ⟨B1,B2⟩:=up2 k B1 B2;obtain ⟨A,X⟩:=axu2 k g3 A X;refine l6_t B3 ?_;replace h:=h _ X A;exact ⟨A,h⟩
theorem Gd (aa:Int) (w:World) (R:Ending→World→Prop) (h:xw w w fun w1=>(Calls pr 83 #[vi aa] w1 fun e1 w2=>∃b1:Bool,∃s1:Slc,e1= .returned (uP b1 s1)∧Ahead w1 w2∧(kS 84 #[.int .u64 1] w2 fun w3 s2=>Ahead w2 w3∧(xw w w3 fun w4=>(R (.returned (uR b1 s1 s2)) w4))))):Calls pr 38 #[vi aa] w (fun e_ w_=>Ahead w w_∧R e_ w_):=by
 refine Ge aa w _ ?_
 ·have A:Ahead w w:=Ahead.refl w
  have X:Ext w w:=Ext.refl w
  refine zn fun bk1 u1 hb a _ B1=> ?_;have g1:=zj A.size hb;obtain ⟨A,X⟩:=axa2 a A X;replace h:=h _ X A;refine Calls.mono h ?_;clear h;rintro e1 w2 ⟨b1,s1,he_,a,h⟩;refine ⟨b1,s1,he_, ?_⟩;clear he_;replace B1:=B1.ahead a;obtain ⟨A,X⟩:=axr2 a A;refine Calls.mono h ?_;clear h;rintro e2 w3 ⟨s2,he_,a,h⟩;refine ⟨s2,he_, ?_⟩;clear he_;replace B1:=B1.ahead a;obtain ⟨A,X⟩:=axr2 a A;refine s3_t B1 fun u2 k B1=> ?_;obtain ⟨A,X⟩:=axu2 k g1 A X;refine yu B1 ?_;replace h:=h _ X A;exact ⟨A,h⟩
theorem Dx (aa:Int) (w:World) (R:Ending→World→Prop) (h:br (decide (aa<0)) (xw w w fun w1=>(kS 84 #[.int .u64 (wrap .u64 (0 -(wrap .u64 aa)))] w1 fun w2 s1=>Ahead w1 w2∧(xw w w2 fun w3=>(R (.returned (uP (true) s1)) w3)))) (xw w w fun w4=>(kS 84 #[.int .u64 (wrap .u64 aa)] w4 fun w5 s2=>Ahead w4 w5∧(xw w w5 fun w6=>(R (.returned (uP (false) s2)) w6))))):Calls pr 83 #[vi aa] w (fun e_ w_=>Ahead w w_∧R e_ w_):=by
 refine Dz aa w _ ?_
 ·have A:Ahead w w:=Ahead.refl w
  have X:Ext w w:=Ext.refl w
  refine zn fun bk1 u1 hb a _ B1=> ?_;have g1:=zj A.size hb;obtain ⟨A,X⟩:=axa2 a A X;refine zv h (fun h_=> ?_) (fun h_=> ?_)
  ·replace h:=h_;clear h_;replace h:=h _ X A;refine Calls.mono h ?_;clear h;rintro e1 w2 ⟨s1,he_,a,h⟩;refine ⟨s1,he_, ?_⟩;clear he_;replace B1:=B1.ahead a;obtain ⟨A,X⟩:=axr2 a A;refine s2_t B1 fun u2 k B1=> ?_;obtain ⟨A,X⟩:=axu2 k g1 A X;refine l2_t B1 ?_;replace h:=h _ X A;exact ⟨A,h⟩
  ·replace h:=h_;clear h_;replace h:=h _ X A;refine Calls.mono h ?_;clear h;rintro e2 w5 ⟨s2,he_,a,h⟩;refine ⟨s2,he_, ?_⟩;clear he_;replace B1:=B1.ahead a;obtain ⟨A,X⟩:=axr2 a A;refine s2_t B1 fun u3 k B1=> ?_;obtain ⟨A,X⟩:=axu2 k g1 A X;refine l2_t B1 ?_;replace h:=h _ X A;exact ⟨A,h⟩
theorem Da (aa:Bool) (ab:Slc) (ac:Int) (ad:Bool) (ae:Slc) (af:Int) (ag:Bool) (ah:Slc) (ai:Int) (aj:Bool) (ak:Slc) (al:Int) (am:Int) (w:World) (R:Ending→World→Prop) (h:xw w w fun w1=>(newC w1 #[.bool aa,ab.v,vi ac,.bool ad,ae.v,vi af,.bool ag,ah.v,vi ai,.bool aj,ak.v,vi al] 50 fun ad1 w2=>kI 60 #[vi am,(⟨some ad1,2,2⟩:Slc).v] w2 fun w3 x1=>Ahead w2 w3∧(br (x1 !=0) (xw w w3 fun w4=>(R (.returned (.tuple #[uS (false) nSl (0:Int) (false) nSl (0:Int),vi x1])) w4)) (kV 61 #[uS aa ab ac ad ae af,uS ag ah ai aj ak al,vi am] w3 fun w5 b1 s1 x2 b2 s2 x3 x4=>Ahead w3 w5∧(xw w w5 fun w6=>(R (.returned (.tuple #[uS b1 s1 x2 b2 s2 x3,vi x4])) w6)))))):Calls pr 23 #[uS aa ab ac ad ae af,uS ag ah ai aj ak al,vi am] w (fun e_ w_=>Ahead w w_∧R e_ w_):=by
 refine Db aa ab ac ad ae af ag ah ai aj ak al am w _ ?_
 ·have A:Ahead w w:=Ahead.refl w
  have X:Ext w w:=Ext.refl w
  refine zn fun bk1 u1 hb a _ B1=> ?_;have g1:=zj A.size hb;obtain ⟨A,X⟩:=axa2 a A X;refine zn fun bk2 u2 hb a _ B2=> ?_;have g2:=zj A.size hb;have l1_2:=lt1 hb B1;replace B1:=B1.ahead a;obtain ⟨A,X⟩:=axa2 a A X;refine zn fun bk3 u3 hb a _ B3=> ?_;have g3:=zj A.size hb;obtain ⟨_,_⟩:=lt2 hb B1 B2;obtain ⟨B1,B2⟩:=ah2 a B1 B2;obtain ⟨A,X⟩:=axa2 a A X;refine l6_t B1 ?_;refine l6_t B2 ?_;replace h:=h _ X A;refine tb h fun ad1 w2 a h_=> ?_;replace h:=h_;clear h_;obtain ⟨B1,B2,B3⟩:=ah3 a B1 B2 B3;obtain ⟨A,X⟩:=axr2 a A;refine Calls.mono h ?_;clear h;rintro e1 w3 ⟨x1,he_,a,h⟩;refine ⟨x1,he_, ?_⟩;clear he_;obtain ⟨B1,B2,B3⟩:=ah3 a B1 B2 B3;obtain ⟨A,X⟩:=axr2 a A;refine zv h (fun h_=> ?_) (fun h_=> ?_)
  ·replace h:=h_;clear h_;refine s6_t B3 fun u4 k B3=> ?_;obtain ⟨B1,B2⟩:=up2 k B1 B2;obtain ⟨A,X⟩:=axu2 k g3 A X;refine l6_t B3 ?_;replace h:=h _ X A;exact ⟨A,h⟩
  ·replace h:=h_;clear h_;refine l6_t B1 ?_;refine l6_t B2 ?_;refine Calls.mono h ?_;clear h;rintro e2 w5 ⟨b1,s1,x2,b2,s2,x3,x4,he_,a,h⟩;refine ⟨b1,s1,x2,b2,s2,x3,x4,he_, ?_⟩;clear he_;obtain ⟨B1,B2,B3⟩:=ah3 a B1 B2 B3;obtain ⟨A,X⟩:=axr2 a A;refine s6_t B3 fun u5 k B3=> ?_;obtain ⟨B1,B2⟩:=up2 k B1 B2;obtain ⟨A,X⟩:=axu2 k g3 A X;refine l6_t B3 ?_;replace h:=h _ X A;exact ⟨A,h⟩
theorem Dp (aa:Bool) (ab:Slc) (ac:Int) (ad:Bool) (ae:Slc) (af:Int) (ag:Bool) (ah:Slc) (ai:Int) (aj:Bool) (ak:Slc) (al:Int) (am:Int) (w:World) (R:Ending→World→Prop) (h:xw w w fun w1=>(newC w1 #[.bool aa,ab.v,vi ac,.bool ad,ae.v,vi af,.bool ag,ah.v,vi ai,.bool aj,ak.v,vi al] 50 fun ad1 w2=>kI 60 #[vi am,(⟨some ad1,2,2⟩:Slc).v] w2 fun w3 x1=>Ahead w2 w3∧(br (x1 !=0) (xw w w3 fun w4=>(R (.returned (.tuple #[uS (false) nSl (0:Int) (false) nSl (0:Int),vi x1])) w4)) (xw w w3 fun w5=>(kD 62 #[uD aj ak al] w5 fun w6 b1 s1 x2=>Ahead w5 w6∧(kD 62 #[uD ag ah ai] w6 fun w7 b2 s2 x3=>Ahead w6 w7∧(xw w w7 fun w8=>(kV 61 #[uS aa ab ac ad ae af,uS b1 s1 x2 b2 s2 x3,vi am] w8 fun w9 b3 s3 x4 b4 s4 x5 x6=>Ahead w8 w9∧(xw w w9 fun w10=>(R (.returned (.tuple #[uS b3 s3 x4 b4 s4 x5,vi x6])) w10)))))))))):Calls pr 24 #[uS aa ab ac ad ae af,uS ag ah ai aj ak al,vi am] w (fun e_ w_=>Ahead w w_∧R e_ w_):=by
 refine Dr aa ab ac ad ae af ag ah ai aj ak al am w _ ?_
 ·have A:Ahead w w:=Ahead.refl w
  have X:Ext w w:=Ext.refl w
  refine zn fun bk1 u1 hb a _ B1=> ?_;have g1:=zj A.size hb;obtain ⟨A,X⟩:=axa2 a A X;refine zn fun bk2 u2 hb a _ B2=> ?_;have g2:=zj A.size hb;have l1_2:=lt1 hb B1;replace B1:=B1.ahead a;obtain ⟨A,X⟩:=axa2 a A X;refine zn fun bk3 u3 hb a _ B3=> ?_;have g3:=zj A.size hb;obtain ⟨_,_⟩:=lt2 hb B1 B2;obtain ⟨B1,B2⟩:=ah2 a B1 B2;obtain ⟨A,X⟩:=axa2 a A X;refine l6_t B1 ?_;refine l6_t B2 ?_;replace h:=h _ X A;refine tb h fun ad1 w2 a h_=> ?_;replace h:=h_;clear h_;obtain ⟨B1,B2,B3⟩:=ah3 a B1 B2 B3;obtain ⟨A,X⟩:=axr2 a A;refine Calls.mono h ?_;clear h;rintro e1 w3 ⟨x1,he_,a,h⟩;refine ⟨x1,he_, ?_⟩;clear he_;obtain ⟨B1,B2,B3⟩:=ah3 a B1 B2 B3;obtain ⟨A,X⟩:=axr2 a A;refine zv h (fun h_=> ?_) (fun h_=> ?_)
  ·replace h:=h_;clear h_;refine s6_t B3 fun u4 k B3=> ?_;obtain ⟨B1,B2⟩:=up2 k B1 B2;obtain ⟨A,X⟩:=axu2 k g3 A X;refine l6_t B3 ?_;replace h:=h _ X A;exact ⟨A,h⟩
  ·replace h:=h_;clear h_;have an:=Sp.Ahead.drew w3;obtain ⟨B1,B2,B3⟩:=ah3 an B1 B2 B3;obtain ⟨A,X⟩:=axa2 an A X;clear an;have z1:=B1.lt;have z2:=B2.lt;have z3:=B3.lt;let V_:Nat→Nat→Prop:=fun (q_ k:Nat)=>(k=bk2∨w3.drew.heap.size≤k)∧((q_=1∨q_=4)→k≠bk2);refine ⟨V_, ?_⟩;have Y_:w3.drew.heap.size≤w3.drew.heap.size:=Nat.le_refl _;refine xp (b:=bk2) (i:=3) (by first|rfl|exact Sp.zz) (fun hv_=>(by replace hv_:_∧_:=hv_;omega)) ?_;refine ut B2 ?_;refine xp (b:=bk2) (i:=0) (by first|rfl|exact Sp.zz) (fun hv_=>(by replace hv_:_∧_:=hv_;omega)) ?_;refine v9 B2 ?_;replace h:=h _ X A;refine Calls.mono h ?_;clear h;rintro e2 w6 ⟨b1,s1,x2,he_,a,h⟩;refine ⟨b1,s1,x2,he_, ?_⟩;clear he_;obtain ⟨B1,B2,B3⟩:=ah3 a B1 B2 B3;obtain ⟨A,X,Y_⟩:=axr3 a A Y_;refine ⟨(Bar.of_ahead a), ?_⟩;refine Calls.mono h ?_;clear h;rintro e3 w7 ⟨b2,s2,x3,he_,a,h⟩;refine ⟨b2,s2,x3,he_, ?_⟩;clear he_;obtain ⟨B1,B2,B3⟩:=ah3 a B1 B2 B3;obtain ⟨A,X,Y_⟩:=axr3 a A Y_;refine Uz B2 fun u5 k B2=> ?_;obtain ⟨B1,B3⟩:=up2 k B1 B3;obtain ⟨A,X,Y_⟩:=axu3 k g2 A X Y_;refine U0 B2 fun u6 k B2=> ?_;obtain ⟨B1,B3⟩:=up2 k B1 B3;obtain ⟨A,X,Y_⟩:=axu3 k g2 A X Y_;refine l6_t B1 ?_;refine l6_t B2 ?_;replace h:=h _ X A;refine Calls.mono h ?_;clear h;rintro e4 w9 ⟨b3,s3,x4,b4,s4,x5,x6,he_,a,h⟩;refine ⟨b3,s3,x4,b4,s4,x5,x6,he_, ?_⟩;clear he_;obtain ⟨B1,B2,B3⟩:=ah3 a B1 B2 B3;obtain ⟨A,X⟩:=axr2 a A;refine s6_t B3 fun u7 k B3=> ?_;obtain ⟨B1,B2⟩:=up2 k B1 B2;obtain ⟨A,X⟩:=axu2 k g3 A X;refine l6_t B3 ?_;replace h:=h _ X A;exact ⟨A,h⟩
theorem Qi (ab:Int) (ac:Slc) (w:World) (R:Ending→World→Prop) (J0:Int→Slc→Int→Int→World→Prop) (m0:Int→Slc→Int→Int→World→Nat) (h:J0 ab ac (ac.n:Int) 0 w) (h0:∀aa t8 t9 t10 w_,Ahead w w_→J0 aa t8 t9 t10 w_→br (decide (t10<t9)) (semA pr (Instr.indexAt 131 t8.v (vi t10)) w_ fun ad1 w1=>w1=w_∧(ld6 ad1 w_ fun b1 s1 x1 b2 s2 x2=>xw w w_ fun w2=>(kI 72 #[uS b1 s1 x1 b2 s2 x2] w2 fun w3 x3=>Ahead w2 w3∧(br (x3 !=0) (R (.returned (vi x3)) w3) (J0 aa t8 t9 (wrap .i64 (t10+1)) w3∧m0 aa t8 t9 (wrap .i64 (t10+1)) w3<m0 aa t8 t9 t10 w_))))) (br (decide (aa<(-1099511627776))) (R (.returned (vi 1)) w_) (br (decide (aa>1099511627776)) (R (.returned (vi 1)) w_) (R (.returned (vi 0)) w_)))):Calls pr 60 #[vi ab,ac.v] w (fun e_ w_=>Ahead w w_∧R e_ w_):=by
  refine Qj ab ac w _ (fun aa t8 t9 t10 w_=>Ahead w w_∧J0 aa t8 t9 t10 w_) (fun aa t8 t9 t10 w_=>m0 aa t8 t9 t10 w_) ?_ ?_
  · have A:Ahead w w:=Ahead.refl w
    have X:Ext w w:=Ext.refl w
    exact ⟨A,h⟩
  · clear h
    rintro aa t8 t9 t10 w_ ⟨A,hJ0⟩
    have h:=h0 aa t8 t9 t10 w_ A hJ0
    have X:Ext w_ w_:=Ext.refl _
    refine zv h (fun h_=> ?_) (fun h_=> ?_)
    ·replace h:=h_;clear h_;refine Gn h ?_;clear h;rintro ad1 _ ⟨rfl,h⟩;obtain ⟨b1,hc_,h⟩:=h;refine ⟨b1,hc_, ?_⟩;clear hc_;obtain ⟨s1,hc_,h⟩:=h;refine ⟨s1,hc_, ?_⟩;clear hc_;obtain ⟨x1,hc_,h⟩:=h;refine ⟨x1,hc_, ?_⟩;clear hc_;obtain ⟨b2,hc_,h⟩:=h;refine ⟨b2,hc_, ?_⟩;clear hc_;obtain ⟨s2,hc_,h⟩:=h;refine ⟨s2,hc_, ?_⟩;clear hc_;obtain ⟨x2,hc_,h⟩:=h;refine ⟨x2,hc_, ?_⟩;clear hc_;refine zn fun bk1 u1 hb a _ B1=> ?_;have g1:=zj A.size hb;obtain ⟨A,X⟩:=axa2 a A X;refine s6_t B1 fun u2 k B1=> ?_;obtain ⟨A,X⟩:=axu2 k g1 A X;refine l6_t B1 ?_;replace h:=h _ X A;refine Calls.mono h ?_;clear h;rintro e1 w3 ⟨x3,he_,a,h⟩;refine ⟨x3,he_, ?_⟩;clear he_;replace B1:=B1.ahead a;obtain ⟨A,X⟩:=axr2 a A;refine zv h (fun h_=> ?_) (fun h_=> ?_)
     ·replace h:=h_;clear h_;exact ⟨A,h⟩
     ·replace h:=h_;clear h_;exact ⟨⟨A,h.1⟩,h.2⟩
    ·replace h:=h_;clear h_;refine zv h (fun h_=> ?_) (fun h_=> ?_)
     ·replace h:=h_;clear h_;exact ⟨A,h⟩
     ·replace h:=h_;clear h_;refine zv h (fun h_=> ?_) (fun h_=> ?_)
      ·replace h:=h_;clear h_;exact ⟨A,h⟩
      ·replace h:=h_;clear h_;exact ⟨A,h⟩
theorem Mr (aa:Bool) (ab:Slc) (ac:Int) (ad:Bool) (ae:Slc) (af:Int) (w:World) (R:Ending→World→Prop) (h:xw w w fun w1=>(kT 59 #[uD aa ab ac,uD ad ae af] w1 fun w2 x1 x2=>Ahead w1 w2∧(br (x2==0) (br (decide (x1>0)) (R (.returned (vi 100)) w2) (R (.returned (vi x2)) w2)) (R (.returned (vi x2)) w2)))):Calls pr 72 #[uS aa ab ac ad ae af] w (fun e_ w_=>Ahead w w_∧R e_ w_):=by
  refine Ms aa ab ac ad ae af w _ ?_
  · have A:Ahead w w:=Ahead.refl w
    have X:Ext w w:=Ext.refl w
    refine zn fun bk1 u1 hb a _ B1=> ?_;have g1:=zj A.size hb;obtain ⟨A,X⟩:=axa2 a A X;refine v9 B1 ?_;refine ut B1 ?_;replace h:=h _ X A;refine Calls.mono h ?_;clear h;rintro e1 w2 ⟨x1,x2,he_,a,h⟩;refine ⟨x1,x2,he_, ?_⟩;clear he_;replace B1:=B1.ahead a;obtain ⟨A,X⟩:=axr2 a A;refine zv h (fun h_=> ?_) (fun h_=> ?_)
    ·replace h:=h_;clear h_;refine zv h (fun h_=> ?_) (fun h_=> ?_)
     ·replace h:=h_;clear h_;exact ⟨A,h⟩
     ·replace h:=h_;clear h_;exact ⟨A,h⟩
    ·replace h:=h_;clear h_;exact ⟨A,h⟩
theorem U8 (ab:Bool) (ac:Slc) (ad:Int) (ae:Bool) (af:Slc) (ag:Int) (aa:Int) (w:World) (R:Ending→World→Prop) (h:xw w w fun w1=>(kU 132 #[uD ab ac ad,vi aa,vi 0] w1 fun w2 b1 s1 x1 x2=>Ahead w1 w2∧(xw w w2 fun w3=>(kU 132 #[uD ae af ag,vi aa,vi 1] w3 fun w4 b2 s2 x3 x4=>Ahead w3 w4∧(xw w w4 fun w5=>(kV 78 #[uD b1 s1 x1,vi x2,uD b2 s2 x3,vi x4] w5 fun w6 b3 s3 x5 b4 s4 x6 x7=>Ahead w5 w6∧(xw w w6 fun w7=>(R (.returned (.tuple #[uS b3 s3 x5 b4 s4 x6,vi x7])) w7)))))))):Calls pr 102 #[uD ab ac ad,uD ae af ag,vi aa] w (fun e_ w_=>Ahead w w_∧R e_ w_):=by
 refine U9 ab ac ad ae af ag aa w _ ?_
 ·have A:Ahead w w:=Ahead.refl w
  have X:Ext w w:=Ext.refl w
  refine zn fun bk1 u1 hb a _ B1=> ?_;have g1:=zj A.size hb;obtain ⟨A,X⟩:=axa2 a A X;refine zn fun bk2 u2 hb a _ B2=> ?_;have g2:=zj A.size hb;have l1_2:=lt1 hb B1;replace B1:=B1.ahead a;obtain ⟨A,X⟩:=axa2 a A X;refine zn fun bk3 u3 hb a _ B3=> ?_;have g3:=zj A.size hb;obtain ⟨_,_⟩:=lt2 hb B1 B2;obtain ⟨B1,B2⟩:=ah2 a B1 B2;obtain ⟨A,X⟩:=axa2 a A X;refine l3_t B1 ?_;replace h:=h _ X A;refine Calls.mono h ?_;clear h;rintro e1 w2 ⟨b1,s1,x1,x2,he_,a,h⟩;refine ⟨b1,s1,x1,x2,he_, ?_⟩;clear he_;obtain ⟨B1,B2,B3⟩:=ah3 a B1 B2 B3;obtain ⟨A,X⟩:=axr2 a A;refine zn fun bk4 u4 hb a _ B4=> ?_;have g4:=zj A.size hb;obtain ⟨_,_,_⟩:=lt3 hb B1 B2 B3;obtain ⟨B1,B2,B3⟩:=ah3 a B1 B2 B3;obtain ⟨A,X⟩:=axa2 a A X;refine s3_t B4 fun u5 k B4=> ?_;obtain ⟨B1,B2,B3⟩:=up3 k B1 B2 B3;obtain ⟨A,X⟩:=axu2 k g4 A X;refine l3_t B2 ?_;replace h:=h _ X A;refine Calls.mono h ?_;clear h;rintro e2 w4 ⟨b2,s2,x3,x4,he_,a,h⟩;refine ⟨b2,s2,x3,x4,he_, ?_⟩;clear he_;obtain ⟨B1,B2,B3,B4⟩:=ah4 a B1 B2 B3 B4;obtain ⟨A,X⟩:=axr2 a A;refine zn fun bk5 u6 hb a _ B5=> ?_;have g5:=zj A.size hb;obtain ⟨_,_,_,_⟩:=lt4 hb B1 B2 B3 B4;obtain ⟨B1,B2,B3,B4⟩:=ah4 a B1 B2 B3 B4;obtain ⟨A,X⟩:=axa2 a A X;refine s3_t B5 fun u7 k B5=> ?_;obtain ⟨B1,B2,B3,B4⟩:=up4 k B1 B2 B3 B4;obtain ⟨A,X⟩:=axu2 k g5 A X;refine l3_t B4 ?_;refine l3_t B5 ?_;replace h:=h _ X A;refine Calls.mono h ?_;clear h;rintro e3 w6 ⟨b3,s3,x5,b4,s4,x6,x7,he_,a,h⟩;refine ⟨b3,s3,x5,b4,s4,x6,x7,he_, ?_⟩;clear he_;obtain ⟨B1,B2,B3,B4,B5⟩:=ah5 a B1 B2 B3 B4 B5;obtain ⟨A,X⟩:=axr2 a A;refine s6_t B3 fun u8 k B3=> ?_;obtain ⟨B1,B2,B4,B5⟩:=up4 k B1 B2 B4 B5;obtain ⟨A,X⟩:=axu2 k g3 A X;refine l6_t B3 ?_;replace h:=h _ X A;exact ⟨A,h⟩
theorem Qm (aa:Bool) (ab:Slc) (ac:Int) (ad:Bool) (ae:Slc) (af:Int) (w:World) (R:Ending→World→Prop) (h:xw w w fun w1=>(kU 109 #[uD aa ab ac] w1 fun w2 b1 s1 x1 x2=>Ahead w1 w2∧(xw w w2 fun w3=>(kU 109 #[uD ad ae af] w3 fun w4 b2 s2 x3 x4=>Ahead w3 w4∧(xw w w4 fun w5=>(kV 78 #[uD b1 s1 x1,vi x2,uD b2 s2 x3,vi x4] w5 fun w6 b3 s3 x5 b4 s4 x6 x7=>Ahead w5 w6∧(xw w w6 fun w7=>(R (.returned (.tuple #[uS b3 s3 x5 b4 s4 x6,vi x7])) w7)))))))):Calls pr 74 #[uD aa ab ac,uD ad ae af] w (fun e_ w_=>Ahead w w_∧R e_ w_):=by
 refine Qn aa ab ac ad ae af w _ ?_
 ·have A:Ahead w w:=Ahead.refl w
  have X:Ext w w:=Ext.refl w
  refine zn fun bk1 u1 hb a _ B1=> ?_;have g1:=zj A.size hb;obtain ⟨A,X⟩:=axa2 a A X;refine zn fun bk2 u2 hb a _ B2=> ?_;have g2:=zj A.size hb;have l1_2:=lt1 hb B1;replace B1:=B1.ahead a;obtain ⟨A,X⟩:=axa2 a A X;refine zn fun bk3 u3 hb a _ B3=> ?_;have g3:=zj A.size hb;obtain ⟨_,_⟩:=lt2 hb B1 B2;obtain ⟨B1,B2⟩:=ah2 a B1 B2;obtain ⟨A,X⟩:=axa2 a A X;refine l3_t B1 ?_;replace h:=h _ X A;refine Calls.mono h ?_;clear h;rintro e1 w2 ⟨b1,s1,x1,x2,he_,a,h⟩;refine ⟨b1,s1,x1,x2,he_, ?_⟩;clear he_;obtain ⟨B1,B2,B3⟩:=ah3 a B1 B2 B3;obtain ⟨A,X⟩:=axr2 a A;refine zn fun bk4 u4 hb a _ B4=> ?_;have g4:=zj A.size hb;obtain ⟨_,_,_⟩:=lt3 hb B1 B2 B3;obtain ⟨B1,B2,B3⟩:=ah3 a B1 B2 B3;obtain ⟨A,X⟩:=axa2 a A X;refine s3_t B4 fun u5 k B4=> ?_;obtain ⟨B1,B2,B3⟩:=up3 k B1 B2 B3;obtain ⟨A,X⟩:=axu2 k g4 A X;refine l3_t B2 ?_;replace h:=h _ X A;refine Calls.mono h ?_;clear h;rintro e2 w4 ⟨b2,s2,x3,x4,he_,a,h⟩;refine ⟨b2,s2,x3,x4,he_, ?_⟩;clear he_;obtain ⟨B1,B2,B3,B4⟩:=ah4 a B1 B2 B3 B4;obtain ⟨A,X⟩:=axr2 a A;refine zn fun bk5 u6 hb a _ B5=> ?_;have g5:=zj A.size hb;obtain ⟨_,_,_,_⟩:=lt4 hb B1 B2 B3 B4;obtain ⟨B1,B2,B3,B4⟩:=ah4 a B1 B2 B3 B4;obtain ⟨A,X⟩:=axa2 a A X;refine s3_t B5 fun u7 k B5=> ?_;obtain ⟨B1,B2,B3,B4⟩:=up4 k B1 B2 B3 B4;obtain ⟨A,X⟩:=axu2 k g5 A X;refine l3_t B4 ?_;refine l3_t B5 ?_;replace h:=h _ X A;refine Calls.mono h ?_;clear h;rintro e3 w6 ⟨b3,s3,x5,b4,s4,x6,x7,he_,a,h⟩;refine ⟨b3,s3,x5,b4,s4,x6,x7,he_, ?_⟩;clear he_;obtain ⟨B1,B2,B3,B4,B5⟩:=ah5 a B1 B2 B3 B4 B5;obtain ⟨A,X⟩:=axr2 a A;refine s6_t B3 fun u8 k B3=> ?_;obtain ⟨B1,B2,B4,B5⟩:=up4 k B1 B2 B4 B5;obtain ⟨A,X⟩:=axu2 k g3 A X;refine l6_t B3 ?_;replace h:=h _ X A;exact ⟨A,h⟩
theorem De (aa:Bool) (ab:Slc) (ac:Int) (ad:Bool) (ae:Slc) (af:Int) (ag:Bool) (ah:Slc) (ai:Int) (aj:Bool) (ak:Slc) (al:Int) (w:World) (R:Ending→World→Prop) (h:xw w w fun w1=>(kV 69 #[uS aa ab ac ad ae af,uS ag ah ai aj ak al,.func (Fn.func 70) #[] #[],.func (Fn.func 70) #[] #[]] w1 fun w2 b1 s1 x1 b2 s2 x2 x3=>Ahead w1 w2∧(xw w w2 fun w3=>(R (.returned (.tuple #[uS b1 s1 x1 b2 s2 x2,vi x3])) w3)))):Calls pr 29 #[uS aa ab ac ad ae af,uS ag ah ai aj ak al] w (fun e_ w_=>Ahead w w_∧R e_ w_):=by
 refine Df aa ab ac ad ae af ag ah ai aj ak al w _ ?_
 ·have A:Ahead w w:=Ahead.refl w
  have X:Ext w w:=Ext.refl w
  refine zn fun bk1 u1 hb a _ B1=> ?_;have g1:=zj A.size hb;obtain ⟨A,X⟩:=axa2 a A X;refine zn fun bk2 u2 hb a _ B2=> ?_;have g2:=zj A.size hb;have l1_2:=lt1 hb B1;replace B1:=B1.ahead a;obtain ⟨A,X⟩:=axa2 a A X;refine zn fun bk3 u3 hb a _ B3=> ?_;have g3:=zj A.size hb;obtain ⟨_,_⟩:=lt2 hb B1 B2;obtain ⟨B1,B2⟩:=ah2 a B1 B2;obtain ⟨A,X⟩:=axa2 a A X;refine l6_t B1 ?_;refine l6_t B2 ?_;replace h:=h _ X A;refine Calls.mono h ?_;clear h;rintro e1 w2 ⟨b1,s1,x1,b2,s2,x2,x3,he_,a,h⟩;refine ⟨b1,s1,x1,b2,s2,x2,x3,he_, ?_⟩;clear he_;obtain ⟨B1,B2,B3⟩:=ah3 a B1 B2 B3;obtain ⟨A,X⟩:=axr2 a A;refine s6_t B3 fun u4 k B3=> ?_;obtain ⟨B1,B2⟩:=up2 k B1 B2;obtain ⟨A,X⟩:=axu2 k g3 A X;refine l6_t B3 ?_;replace h:=h _ X A;exact ⟨A,h⟩
theorem Dc (aa:Bool) (ab:Slc) (ac:Int) (ad:Bool) (ae:Slc) (af:Int) (ag:Bool) (ah:Slc) (ai:Int) (aj:Bool) (ak:Slc) (al:Int) (w:World) (R:Ending→World→Prop) (h:xw w w fun w1=>(kV 69 #[uS aa ab ac ad ae af,uS ag ah ai aj ak al,.func (Fn.func 71) #[] #[],.func (Fn.func 71) #[] #[]] w1 fun w2 b1 s1 x1 b2 s2 x2 x3=>Ahead w1 w2∧(xw w w2 fun w3=>(R (.returned (.tuple #[uS b1 s1 x1 b2 s2 x2,vi x3])) w3)))):Calls pr 30 #[uS aa ab ac ad ae af,uS ag ah ai aj ak al] w (fun e_ w_=>Ahead w w_∧R e_ w_):=by
 refine Dd aa ab ac ad ae af ag ah ai aj ak al w _ ?_
 ·have A:Ahead w w:=Ahead.refl w
  have X:Ext w w:=Ext.refl w
  refine zn fun bk1 u1 hb a _ B1=> ?_;have g1:=zj A.size hb;obtain ⟨A,X⟩:=axa2 a A X;refine zn fun bk2 u2 hb a _ B2=> ?_;have g2:=zj A.size hb;have l1_2:=lt1 hb B1;replace B1:=B1.ahead a;obtain ⟨A,X⟩:=axa2 a A X;refine zn fun bk3 u3 hb a _ B3=> ?_;have g3:=zj A.size hb;obtain ⟨_,_⟩:=lt2 hb B1 B2;obtain ⟨B1,B2⟩:=ah2 a B1 B2;obtain ⟨A,X⟩:=axa2 a A X;refine l6_t B1 ?_;refine l6_t B2 ?_;replace h:=h _ X A;refine Calls.mono h ?_;clear h;rintro e1 w2 ⟨b1,s1,x1,b2,s2,x2,x3,he_,a,h⟩;refine ⟨b1,s1,x1,b2,s2,x2,x3,he_, ?_⟩;clear he_;obtain ⟨B1,B2,B3⟩:=ah3 a B1 B2 B3;obtain ⟨A,X⟩:=axr2 a A;refine s6_t B3 fun u4 k B3=> ?_;obtain ⟨B1,B2⟩:=up2 k B1 B2;obtain ⟨A,X⟩:=axu2 k g3 A X;refine l6_t B3 ?_;replace h:=h _ X A;exact ⟨A,h⟩
theorem F8 (aa:Bool) (ab:Slc) (ac:Int) (ad:Bool) (ae:Slc) (af:Int) (w:World) (R:Ending→World→Prop) (h:xw w w fun w1=>(kI 72 #[uS aa ab ac ad ae af] w1 fun w2 x1=>Ahead w1 w2∧(br (x1 !=0) (xw w w2 fun w3=>(R (.returned (.tuple #[uS (false) nSl (0:Int) (false) nSl (0:Int),vi x1])) w3)) (Calls pr 73 #[uS aa ab ac ad ae af] w2 fun e2 w4=>∃b1:Bool,∃s1:Slc,∃x2:Int,∃b2:Bool,∃s2:Slc,∃x3:Int,e2= .returned (uS b1 s1 x2 b2 s2 x3)∧Ahead w2 w4∧(xw w w4 fun w5=>(kV 74 #[uD b1 s1 x2,uD b2 s2 x3] w5 fun w6 b3 s3 x4 b4 s4 x5 x6=>Ahead w5 w6∧(xw w w6 fun w7=>(R (.returned (.tuple #[uS b3 s3 x4 b4 s4 x5,vi x6])) w7)))))))):Calls pr 31 #[uS aa ab ac ad ae af] w (fun e_ w_=>Ahead w w_∧R e_ w_):=by
 refine F9 aa ab ac ad ae af w _ ?_
 ·have A:Ahead w w:=Ahead.refl w
  have X:Ext w w:=Ext.refl w
  refine zn fun bk1 u1 hb a _ B1=> ?_;have g1:=zj A.size hb;obtain ⟨A,X⟩:=axa2 a A X;refine zn fun bk2 u2 hb a _ B2=> ?_;have g2:=zj A.size hb;have l1_2:=lt1 hb B1;replace B1:=B1.ahead a;obtain ⟨A,X⟩:=axa2 a A X;refine l6_t B1 ?_;replace h:=h _ X A;refine Calls.mono h ?_;clear h;rintro e1 w2 ⟨x1,he_,a,h⟩;refine ⟨x1,he_, ?_⟩;clear he_;obtain ⟨B1,B2⟩:=ah2 a B1 B2;obtain ⟨A,X⟩:=axr2 a A;refine zv h (fun h_=> ?_) (fun h_=> ?_)
  ·replace h:=h_;clear h_;refine s6_t B2 fun u3 k B2=> ?_;replace B1:=up1 k B1;obtain ⟨A,X⟩:=axu2 k g2 A X;refine l6_t B2 ?_;replace h:=h _ X A;exact ⟨A,h⟩
  ·replace h:=h_;clear h_;refine l6_t B1 ?_;refine Calls.mono h ?_;clear h;rintro e2 w4 ⟨b1,s1,x2,b2,s2,x3,he_,a,h⟩;refine ⟨b1,s1,x2,b2,s2,x3,he_, ?_⟩;clear he_;obtain ⟨B1,B2⟩:=ah2 a B1 B2;obtain ⟨A,X⟩:=axr2 a A;refine zn fun bk3 u4 hb a _ B3=> ?_;have g3:=zj A.size hb;obtain ⟨_,_⟩:=lt2 hb B1 B2;obtain ⟨B1,B2⟩:=ah2 a B1 B2;obtain ⟨A,X⟩:=axa2 a A X;refine s6_t B3 fun u5 k B3=> ?_;obtain ⟨B1,B2⟩:=up2 k B1 B2;obtain ⟨A,X⟩:=axu2 k g3 A X;refine v9 B3 ?_;refine ut B3 ?_;replace h:=h _ X A;refine Calls.mono h ?_;clear h;rintro e3 w6 ⟨b3,s3,x4,b4,s4,x5,x6,he_,a,h⟩;refine ⟨b3,s3,x4,b4,s4,x5,x6,he_, ?_⟩;clear he_;obtain ⟨B1,B2,B3⟩:=ah3 a B1 B2 B3;obtain ⟨A,X⟩:=axr2 a A;refine s6_t B2 fun u6 k B2=> ?_;obtain ⟨B1,B3⟩:=up2 k B1 B3;obtain ⟨A,X⟩:=axu2 k g2 A X;refine l6_t B2 ?_;replace h:=h _ X A;exact ⟨A,h⟩
theorem Mu (aa:Bool) (ab:Slc) (ac:Int) (ad:Bool) (ae:Slc) (af:Int) (w:World) (R:Ending→World→Prop) (K3:Bool→Slc→Int→Bool→Slc→Int→Bool→Slc→Int→Bool→Slc→Int→Bool→Slc→Int→Bool→Slc→Int→World→Prop) (h:xw w w fun w1=>(kD 107 #[uD aa ab ac] w1 fun w2 b1 s1 x1=>Ahead w1 w2∧(xw w w2 fun w3=>(kD 107 #[uD ad ae af] w3 fun w4 b2 s2 x2=>Ahead w3 w4∧(xw w w4 fun w13=>(K3 aa ab ac ad ae af false nSl 0 false nSl 0 b1 s1 x1 b2 s2 x2 w13)))))) (aF:∀am an ao ap aq ar au av aw ax ay az ag ah ai aj ak al w_,Ahead w w_→K3 am an ao ap aq ar au av aw ax ay az ag ah ai aj ak al w_→kT 59 #[uD ag ah ai,uD aj ak al] w_ fun w5 x3 x4=>Ahead w_ w5∧(br (decide (x3>0)) (xw w w5 fun w6=>(kB 108 #[uS am an ao ap aq ar] w6 fun w7 b3=>Ahead w6 w7∧(br b3 (xw w w7 fun w8=>(R (.returned (uS (false) nSl (0:Int) ag ah ai)) w8)) (xw w w7 fun w9=>(R (.returned (uS aj ak al ag ah ai)) w9))))) (kB 108 #[uS am an ao ap aq ar] w5 fun w10 b4=>Ahead w5 w10∧(br b4 (xw w w10 fun w11=>(R (.returned (uS (false) nSl (0:Int) aj ak al)) w11)) (xw w w10 fun w12=>(R (.returned (uS ag ah ai aj ak al)) w12)))))):Calls pr 73 #[uS aa ab ac ad ae af] w (fun e_ w_=>Ahead w w_∧R e_ w_):=by
  refine Mw aa ab ac ad ae af w _ (fun aI t2 aG aH w_=>∃aA:Nat,∃aB:Nat,∃aC:Nat,∃aD:Nat,∃am:Bool,∃an:Slc,∃ao:Int,∃ap:Bool,∃aq:Slc,∃ar:Int,∃au:Bool,∃av:Slc,∃aw:Int,∃ax:Bool,∃ay:Slc,∃az:Int,∃ag:Bool,∃ah:Slc,∃ai:Int,∃aj:Bool,∃ak:Slc,∃al:Int,aI=⟨aA,0,none⟩∧Blt w_ aA 50 #[Value.bool am,an.v,vi ao,Value.bool ap,aq.v,vi ar]∧w.heap.size≤aA∧t2=⟨aB,0,none⟩∧Blt w_ aB 50 #[Value.bool au,av.v,vi aw,Value.bool ax,ay.v,vi az]∧w.heap.size≤aB∧aG=⟨aC,0,none⟩∧Blt w_ aC 27 #[Value.bool ag,ah.v,vi ai]∧w.heap.size≤aC∧aH=⟨aD,0,none⟩∧Blt w_ aD 27 #[Value.bool aj,ak.v,vi al]∧w.heap.size≤aD∧aA≠aB∧aA≠aC∧aA≠aD∧aB≠aC∧aB≠aD∧aC≠aD∧Ahead w w_∧K3 am an ao ap aq ar au av aw ax ay az ag ah ai aj ak al w_) ?_ ?_
  · have A:Ahead w w:=Ahead.refl w
    have X:Ext w w:=Ext.refl w
    refine zn fun bk1 u1 hb a _ B1=> ?_;have g1:=zj A.size hb;obtain ⟨A,X⟩:=axa2 a A X;refine zn fun bk2 u2 hb a _ B2=> ?_;have g2:=zj A.size hb;have l1_2:=lt1 hb B1;replace B1:=B1.ahead a;obtain ⟨A,X⟩:=axa2 a A X;have aJ:=Sp.Ahead.drew u2;obtain ⟨B1,B2⟩:=ah2 aJ B1 B2;obtain ⟨A,X⟩:=axa2 aJ A X;clear aJ;have z1:=B1.lt;have z2:=B2.lt;let V_:Nat→Nat→Prop:=fun (q_ k:Nat)=>(k<0∨u2.drew.heap.size≤k)∧0≤k;refine ⟨V_, ?_⟩;have Y_:u2.drew.heap.size≤u2.drew.heap.size:=Nat.le_refl _;refine xp (b:=bk1) (i:=0) (by first|rfl|exact Sp.zz) (fun hv_=>(by replace hv_:_∧_:=hv_;omega)) ?_;refine v9 B1 ?_;refine xp (b:=bk1) (i:=3) (by first|rfl|exact Sp.zz) (fun hv_=>(by replace hv_:_∧_:=hv_;omega)) ?_;refine ut B1 ?_;refine ⟨?_, ?_⟩
    ·replace h:=h _ X A;refine Calls.mono h ?_;clear h;rintro e1 w2 ⟨b1,s1,x1,he_,a,h⟩;refine ⟨b1,s1,x1,he_, ?_⟩;clear he_;obtain ⟨B1,B2⟩:=ah2 a B1 B2;obtain ⟨A,X,Y_⟩:=axr3 a A Y_;refine ⟨(Bar.of_ahead a), ?_⟩;refine ⟨?_, ?_⟩
     ·replace h:=h _ X A;refine Calls.mono h ?_;clear h;rintro e2 w4 ⟨b2,s2,x2,he_,a,h⟩;refine ⟨b2,s2,x2,he_, ?_⟩;clear he_;obtain ⟨B1,B2⟩:=ah2 a B1 B2;obtain ⟨A,X,Y_⟩:=axr3 a A Y_;refine ⟨?_, ?_⟩
      ·refine zn fun bk3 u3 hb a _ B3=> ?_;have g3:=zj A.size hb;obtain ⟨_,_⟩:=lt2 hb B1 B2;have y3:=zj Y_ hb;obtain ⟨B1,B2⟩:=ah2 a B1 B2;obtain ⟨A,X,Y_⟩:=axa3 a A X Y_;refine bb2 a ?_;refine zn fun bk4 u4 hb a _ B4=> ?_;have g4:=zj A.size hb;obtain ⟨_,_,_⟩:=lt3 hb B1 B2 B3;have y4:=zj Y_ hb;obtain ⟨B1,B2,B3⟩:=ah3 a B1 B2 B3;obtain ⟨A,X,Y_⟩:=axa3 a A X Y_;refine bb2 a ?_;refine s3_t B3 fun u5 k B3=> ?_;obtain ⟨B1,B2,B4⟩:=up3 k B1 B2 B4;obtain ⟨A,X,Y_⟩:=axu3 k g3 A X Y_;refine s3_t B4 fun u6 k B4=> ?_;obtain ⟨B1,B2,B3⟩:=up3 k B1 B2 B3;obtain ⟨A,X,Y_⟩:=axu3 k g4 A X Y_;replace h:=h _ X A;refine ⟨bk1,bk2,bk3,bk4,aa,ab,ac,ad,ae,af,false,(⟨none,0,0⟩:Slc),0,false,(⟨none,0,0⟩:Slc),0,b1,s1,x1,b2,s2,x2,rfl,B1,g1,rfl,B2,g2,rfl,B3,g3,rfl,B4,g4, ?_⟩;iterate 6 refine nd ?_
       exact ⟨A,h⟩
      ·refine zn fun bk5 u15 hb a _ B5=> ?_;have g5:=zj A.size hb;obtain ⟨_,_⟩:=lt2 hb B1 B2;have y5:=zj Y_ hb;obtain ⟨B1,B2⟩:=ah2 a B1 B2;obtain ⟨A,X,Y_⟩:=axa3 a A X Y_;refine bb2 a ?_;refine zn fun bk6 u16 hb a _ B6=> ?_;have g6:=zj A.size hb;obtain ⟨_,_,_⟩:=lt3 hb B1 B2 B5;have y6:=zj Y_ hb;obtain ⟨B1,B2,B5⟩:=ah3 a B1 B2 B5;obtain ⟨A,X,Y_⟩:=axa3 a A X Y_;refine bb2 a ?_;refine s3_t B6 fun u17 k B6=> ?_;obtain ⟨B1,B2,B5⟩:=up3 k B1 B2 B5;obtain ⟨A,X,Y_⟩:=axu3 k g6 A X Y_;refine s3_t B5 fun u18 k B5=> ?_;obtain ⟨B1,B2,B6⟩:=up3 k B1 B2 B6;obtain ⟨A,X,Y_⟩:=axu3 k g5 A X Y_;replace h:=h _ X A;refine ⟨bk1,bk2,bk6,bk5,aa,ab,ac,ad,ae,af,false,(⟨none,0,0⟩:Slc),0,false,(⟨none,0,0⟩:Slc),0,b1,s1,x1,b2,s2,x2,rfl,B1,g1,rfl,B2,g2,rfl,B6,g6,rfl,B5,g5, ?_⟩;iterate 6 refine nd ?_
       exact ⟨A,h⟩
     ·refine ⟨?_, ?_⟩
      ·refine zn fun bk7 u19 hb a _ B7=> ?_;have g7:=zj A.size hb;obtain ⟨_,_⟩:=lt2 hb B1 B2;have y7:=zj Y_ hb;obtain ⟨B1,B2⟩:=ah2 a B1 B2;obtain ⟨A,X,Y_⟩:=axa3 a A X Y_;refine bb2 a ?_;refine ⟨?_, ?_⟩
       ·replace h:=h _ X A;refine Calls.mono h ?_;clear h;rintro e6 w16 ⟨b5,s3,x5,he_,a,h⟩;refine ⟨b5,s3,x5,he_, ?_⟩;clear he_;obtain ⟨B1,B2,B7⟩:=ah3 a B1 B2 B7;obtain ⟨A,X,Y_⟩:=axr3 a A Y_;refine zn fun bk8 u20 hb a _ B8=> ?_;have g8:=zj A.size hb;obtain ⟨_,_,_⟩:=lt3 hb B1 B2 B7;have y8:=zj Y_ hb;obtain ⟨B1,B2,B7⟩:=ah3 a B1 B2 B7;obtain ⟨A,X,Y_⟩:=axa3 a A X Y_;refine bb2 a ?_;refine s3_t B7 fun u21 k B7=> ?_;obtain ⟨B1,B2,B8⟩:=up3 k B1 B2 B8;obtain ⟨A,X,Y_⟩:=axu3 k g7 A X Y_;refine s3_t B8 fun u22 k B8=> ?_;obtain ⟨B1,B2,B7⟩:=up3 k B1 B2 B7;obtain ⟨A,X,Y_⟩:=axu3 k g8 A X Y_;replace h:=h _ X A;refine ⟨bk1,bk2,bk7,bk8,aa,ab,ac,ad,ae,af,false,(⟨none,0,0⟩:Slc),0,false,(⟨none,0,0⟩:Slc),0,b1,s1,x1,b5,s3,x5,rfl,B1,g1,rfl,B2,g2,rfl,B7,g7,rfl,B8,g8, ?_⟩;iterate 6 refine nd ?_
        exact ⟨A,h⟩
       ·refine zn fun bk9 u23 hb a _ B9=> ?_;have g9:=zj A.size hb;obtain ⟨_,_,_⟩:=lt3 hb B1 B2 B7;have y9:=zj Y_ hb;obtain ⟨B1,B2,B7⟩:=ah3 a B1 B2 B7;obtain ⟨A,X,Y_⟩:=axa3 a A X Y_;refine bb2 a ?_;replace h:=h _ X A;refine Calls.mono h ?_;clear h;rintro e7 w19 ⟨b6,s4,x6,he_,a,h⟩;refine ⟨b6,s4,x6,he_, ?_⟩;clear he_;obtain ⟨B1,B2,B7,B9⟩:=ah4 a B1 B2 B7 B9;obtain ⟨A,X,Y_⟩:=axr3 a A Y_;refine s3_t B7 fun u24 k B7=> ?_;obtain ⟨B1,B2,B9⟩:=up3 k B1 B2 B9;obtain ⟨A,X,Y_⟩:=axu3 k g7 A X Y_;refine s3_t B9 fun u25 k B9=> ?_;obtain ⟨B1,B2,B7⟩:=up3 k B1 B2 B7;obtain ⟨A,X,Y_⟩:=axu3 k g9 A X Y_;replace h:=h _ X A;refine ⟨bk1,bk2,bk7,bk9,aa,ab,ac,ad,ae,af,false,(⟨none,0,0⟩:Slc),0,false,(⟨none,0,0⟩:Slc),0,b1,s1,x1,b6,s4,x6,rfl,B1,g1,rfl,B2,g2,rfl,B7,g7,rfl,B9,g9, ?_⟩;iterate 6 refine nd ?_
        exact ⟨A,h⟩
      ·refine zn fun bk10 u26 hb a _ B10=> ?_;have g10:=zj A.size hb;obtain ⟨_,_⟩:=lt2 hb B1 B2;have y10:=zj Y_ hb;obtain ⟨B1,B2⟩:=ah2 a B1 B2;obtain ⟨A,X,Y_⟩:=axa3 a A X Y_;refine bb2 a ?_;refine ⟨?_, ?_⟩
       ·replace h:=h _ X A;refine Calls.mono h ?_;clear h;rintro e8 w22 ⟨b7,s5,x7,he_,a,h⟩;refine ⟨b7,s5,x7,he_, ?_⟩;clear he_;obtain ⟨B1,B2,B10⟩:=ah3 a B1 B2 B10;obtain ⟨A,X,Y_⟩:=axr3 a A Y_;refine zn fun bk11 u27 hb a _ B11=> ?_;have g11:=zj A.size hb;obtain ⟨_,_,_⟩:=lt3 hb B1 B2 B10;have y11:=zj Y_ hb;obtain ⟨B1,B2,B10⟩:=ah3 a B1 B2 B10;obtain ⟨A,X,Y_⟩:=axa3 a A X Y_;refine bb2 a ?_;refine s3_t B11 fun u28 k B11=> ?_;obtain ⟨B1,B2,B10⟩:=up3 k B1 B2 B10;obtain ⟨A,X,Y_⟩:=axu3 k g11 A X Y_;refine s3_t B10 fun u29 k B10=> ?_;obtain ⟨B1,B2,B11⟩:=up3 k B1 B2 B11;obtain ⟨A,X,Y_⟩:=axu3 k g10 A X Y_;replace h:=h _ X A;refine ⟨bk1,bk2,bk11,bk10,aa,ab,ac,ad,ae,af,false,(⟨none,0,0⟩:Slc),0,false,(⟨none,0,0⟩:Slc),0,b1,s1,x1,b7,s5,x7,rfl,B1,g1,rfl,B2,g2,rfl,B11,g11,rfl,B10,g10, ?_⟩;iterate 6 refine nd ?_
        exact ⟨A,h⟩
       ·refine zn fun bk12 u30 hb a _ B12=> ?_;have g12:=zj A.size hb;obtain ⟨_,_,_⟩:=lt3 hb B1 B2 B10;have y12:=zj Y_ hb;obtain ⟨B1,B2,B10⟩:=ah3 a B1 B2 B10;obtain ⟨A,X,Y_⟩:=axa3 a A X Y_;refine bb2 a ?_;replace h:=h _ X A;refine Calls.mono h ?_;clear h;rintro e9 w25 ⟨b8,s6,x8,he_,a,h⟩;refine ⟨b8,s6,x8,he_, ?_⟩;clear he_;obtain ⟨B1,B2,B10,B12⟩:=ah4 a B1 B2 B10 B12;obtain ⟨A,X,Y_⟩:=axr3 a A Y_;refine s3_t B12 fun u31 k B12=> ?_;obtain ⟨B1,B2,B10⟩:=up3 k B1 B2 B10;obtain ⟨A,X,Y_⟩:=axu3 k g12 A X Y_;refine s3_t B10 fun u32 k B10=> ?_;obtain ⟨B1,B2,B12⟩:=up3 k B1 B2 B12;obtain ⟨A,X,Y_⟩:=axu3 k g10 A X Y_;replace h:=h _ X A;refine ⟨bk1,bk2,bk12,bk10,aa,ab,ac,ad,ae,af,false,(⟨none,0,0⟩:Slc),0,false,(⟨none,0,0⟩:Slc),0,b1,s1,x1,b8,s6,x8,rfl,B1,g1,rfl,B2,g2,rfl,B12,g12,rfl,B10,g10, ?_⟩;iterate 6 refine nd ?_
        exact ⟨A,h⟩
    ·refine ⟨?_, ?_⟩
     ·refine zn fun bk13 u33 hb a _ B13=> ?_;have g13:=zj A.size hb;obtain ⟨_,_⟩:=lt2 hb B1 B2;have y13:=zj Y_ hb;obtain ⟨B1,B2⟩:=ah2 a B1 B2;obtain ⟨A,X,Y_⟩:=axa3 a A X Y_;refine bb2 a ?_;refine ⟨?_, ?_⟩
      ·replace h:=h _ X A;refine Calls.mono h ?_;clear h;rintro e10 w28 ⟨b9,s7,x9,he_,a,h⟩;refine ⟨b9,s7,x9,he_, ?_⟩;clear he_;obtain ⟨B1,B2,B13⟩:=ah3 a B1 B2 B13;obtain ⟨A,X,Y_⟩:=axr3 a A Y_;refine ⟨(Bar.of_ahead a), ?_⟩;refine ⟨?_, ?_⟩
       ·replace h:=h _ X A;refine Calls.mono h ?_;clear h;rintro e11 w30 ⟨b10,s8,x10,he_,a,h⟩;refine ⟨b10,s8,x10,he_, ?_⟩;clear he_;obtain ⟨B1,B2,B13⟩:=ah3 a B1 B2 B13;obtain ⟨A,X,Y_⟩:=axr3 a A Y_;refine zn fun bk14 u34 hb a _ B14=> ?_;have g14:=zj A.size hb;obtain ⟨_,_,_⟩:=lt3 hb B1 B2 B13;have y14:=zj Y_ hb;obtain ⟨B1,B2,B13⟩:=ah3 a B1 B2 B13;obtain ⟨A,X,Y_⟩:=axa3 a A X Y_;refine bb2 a ?_;refine s3_t B13 fun u35 k B13=> ?_;obtain ⟨B1,B2,B14⟩:=up3 k B1 B2 B14;obtain ⟨A,X,Y_⟩:=axu3 k g13 A X Y_;refine s3_t B14 fun u36 k B14=> ?_;obtain ⟨B1,B2,B13⟩:=up3 k B1 B2 B13;obtain ⟨A,X,Y_⟩:=axu3 k g14 A X Y_;replace h:=h _ X A;refine ⟨bk1,bk2,bk13,bk14,aa,ab,ac,ad,ae,af,false,(⟨none,0,0⟩:Slc),0,false,(⟨none,0,0⟩:Slc),0,b9,s7,x9,b10,s8,x10,rfl,B1,g1,rfl,B2,g2,rfl,B13,g13,rfl,B14,g14, ?_⟩;iterate 6 refine nd ?_
        exact ⟨A,h⟩
       ·refine zn fun bk15 u37 hb a _ B15=> ?_;have g15:=zj A.size hb;obtain ⟨_,_,_⟩:=lt3 hb B1 B2 B13;have y15:=zj Y_ hb;obtain ⟨B1,B2,B13⟩:=ah3 a B1 B2 B13;obtain ⟨A,X,Y_⟩:=axa3 a A X Y_;refine bb2 a ?_;replace h:=h _ X A;refine Calls.mono h ?_;clear h;rintro e12 w33 ⟨b11,s9,x11,he_,a,h⟩;refine ⟨b11,s9,x11,he_, ?_⟩;clear he_;obtain ⟨B1,B2,B13,B15⟩:=ah4 a B1 B2 B13 B15;obtain ⟨A,X,Y_⟩:=axr3 a A Y_;refine s3_t B13 fun u38 k B13=> ?_;obtain ⟨B1,B2,B15⟩:=up3 k B1 B2 B15;obtain ⟨A,X,Y_⟩:=axu3 k g13 A X Y_;refine s3_t B15 fun u39 k B15=> ?_;obtain ⟨B1,B2,B13⟩:=up3 k B1 B2 B13;obtain ⟨A,X,Y_⟩:=axu3 k g15 A X Y_;replace h:=h _ X A;refine ⟨bk1,bk2,bk13,bk15,aa,ab,ac,ad,ae,af,false,(⟨none,0,0⟩:Slc),0,false,(⟨none,0,0⟩:Slc),0,b9,s7,x9,b11,s9,x11,rfl,B1,g1,rfl,B2,g2,rfl,B13,g13,rfl,B15,g15, ?_⟩;iterate 6 refine nd ?_
        exact ⟨A,h⟩
      ·refine zn fun bk16 u40 hb a _ B16=> ?_;have g16:=zj A.size hb;obtain ⟨_,_,_⟩:=lt3 hb B1 B2 B13;have y16:=zj Y_ hb;obtain ⟨B1,B2,B13⟩:=ah3 a B1 B2 B13;obtain ⟨A,X,Y_⟩:=axa3 a A X Y_;refine bb2 a ?_;replace h:=h _ X A;refine Calls.mono h ?_;clear h;rintro e13 w36 ⟨b12,s10,x12,he_,a,h⟩;refine ⟨b12,s10,x12,he_, ?_⟩;clear he_;obtain ⟨B1,B2,B13,B16⟩:=ah4 a B1 B2 B13 B16;obtain ⟨A,X,Y_⟩:=axr3 a A Y_;refine ⟨(Bar.of_ahead a), ?_⟩;replace h:=h _ X A;refine Calls.mono h ?_;clear h;rintro e14 w38 ⟨b13,s11,x13,he_,a,h⟩;refine ⟨b13,s11,x13,he_, ?_⟩;clear he_;obtain ⟨B1,B2,B13,B16⟩:=ah4 a B1 B2 B13 B16;obtain ⟨A,X,Y_⟩:=axr3 a A Y_;refine s3_t B13 fun u41 k B13=> ?_;obtain ⟨B1,B2,B16⟩:=up3 k B1 B2 B16;obtain ⟨A,X,Y_⟩:=axu3 k g13 A X Y_;refine s3_t B16 fun u42 k B16=> ?_;obtain ⟨B1,B2,B13⟩:=up3 k B1 B2 B13;obtain ⟨A,X,Y_⟩:=axu3 k g16 A X Y_;replace h:=h _ X A;refine ⟨bk1,bk2,bk13,bk16,aa,ab,ac,ad,ae,af,false,(⟨none,0,0⟩:Slc),0,false,(⟨none,0,0⟩:Slc),0,b12,s10,x12,b13,s11,x13,rfl,B1,g1,rfl,B2,g2,rfl,B13,g13,rfl,B16,g16, ?_⟩;iterate 6 refine nd ?_
       exact ⟨A,h⟩
     ·refine zn fun bk17 u43 hb a _ B17=> ?_;have g17:=zj A.size hb;obtain ⟨_,_⟩:=lt2 hb B1 B2;have y17:=zj Y_ hb;obtain ⟨B1,B2⟩:=ah2 a B1 B2;obtain ⟨A,X,Y_⟩:=axa3 a A X Y_;refine bb2 a ?_;refine ⟨?_, ?_⟩
      ·replace h:=h _ X A;refine Calls.mono h ?_;clear h;rintro e15 w41 ⟨b14,s12,x14,he_,a,h⟩;refine ⟨b14,s12,x14,he_, ?_⟩;clear he_;obtain ⟨B1,B2,B17⟩:=ah3 a B1 B2 B17;obtain ⟨A,X,Y_⟩:=axr3 a A Y_;refine ⟨(Bar.of_ahead a), ?_⟩;refine ⟨?_, ?_⟩
       ·replace h:=h _ X A;refine Calls.mono h ?_;clear h;rintro e16 w43 ⟨b15,s13,x15,he_,a,h⟩;refine ⟨b15,s13,x15,he_, ?_⟩;clear he_;obtain ⟨B1,B2,B17⟩:=ah3 a B1 B2 B17;obtain ⟨A,X,Y_⟩:=axr3 a A Y_;refine zn fun bk18 u44 hb a _ B18=> ?_;have g18:=zj A.size hb;obtain ⟨_,_,_⟩:=lt3 hb B1 B2 B17;have y18:=zj Y_ hb;obtain ⟨B1,B2,B17⟩:=ah3 a B1 B2 B17;obtain ⟨A,X,Y_⟩:=axa3 a A X Y_;refine bb2 a ?_;refine s3_t B18 fun u45 k B18=> ?_;obtain ⟨B1,B2,B17⟩:=up3 k B1 B2 B17;obtain ⟨A,X,Y_⟩:=axu3 k g18 A X Y_;refine s3_t B17 fun u46 k B17=> ?_;obtain ⟨B1,B2,B18⟩:=up3 k B1 B2 B18;obtain ⟨A,X,Y_⟩:=axu3 k g17 A X Y_;replace h:=h _ X A;refine ⟨bk1,bk2,bk18,bk17,aa,ab,ac,ad,ae,af,false,(⟨none,0,0⟩:Slc),0,false,(⟨none,0,0⟩:Slc),0,b14,s12,x14,b15,s13,x15,rfl,B1,g1,rfl,B2,g2,rfl,B18,g18,rfl,B17,g17, ?_⟩;iterate 6 refine nd ?_
        exact ⟨A,h⟩
       ·refine zn fun bk19 u47 hb a _ B19=> ?_;have g19:=zj A.size hb;obtain ⟨_,_,_⟩:=lt3 hb B1 B2 B17;have y19:=zj Y_ hb;obtain ⟨B1,B2,B17⟩:=ah3 a B1 B2 B17;obtain ⟨A,X,Y_⟩:=axa3 a A X Y_;refine bb2 a ?_;replace h:=h _ X A;refine Calls.mono h ?_;clear h;rintro e17 w46 ⟨b16,s14,x16,he_,a,h⟩;refine ⟨b16,s14,x16,he_, ?_⟩;clear he_;obtain ⟨B1,B2,B17,B19⟩:=ah4 a B1 B2 B17 B19;obtain ⟨A,X,Y_⟩:=axr3 a A Y_;refine s3_t B19 fun u48 k B19=> ?_;obtain ⟨B1,B2,B17⟩:=up3 k B1 B2 B17;obtain ⟨A,X,Y_⟩:=axu3 k g19 A X Y_;refine s3_t B17 fun u49 k B17=> ?_;obtain ⟨B1,B2,B19⟩:=up3 k B1 B2 B19;obtain ⟨A,X,Y_⟩:=axu3 k g17 A X Y_;replace h:=h _ X A;refine ⟨bk1,bk2,bk19,bk17,aa,ab,ac,ad,ae,af,false,(⟨none,0,0⟩:Slc),0,false,(⟨none,0,0⟩:Slc),0,b14,s12,x14,b16,s14,x16,rfl,B1,g1,rfl,B2,g2,rfl,B19,g19,rfl,B17,g17, ?_⟩;iterate 6 refine nd ?_
        exact ⟨A,h⟩
      ·refine zn fun bk20 u50 hb a _ B20=> ?_;have g20:=zj A.size hb;obtain ⟨_,_,_⟩:=lt3 hb B1 B2 B17;have y20:=zj Y_ hb;obtain ⟨B1,B2,B17⟩:=ah3 a B1 B2 B17;obtain ⟨A,X,Y_⟩:=axa3 a A X Y_;refine bb2 a ?_;replace h:=h _ X A;refine Calls.mono h ?_;clear h;rintro e18 w49 ⟨b17,s15,x17,he_,a,h⟩;refine ⟨b17,s15,x17,he_, ?_⟩;clear he_;obtain ⟨B1,B2,B17,B20⟩:=ah4 a B1 B2 B17 B20;obtain ⟨A,X,Y_⟩:=axr3 a A Y_;refine ⟨(Bar.of_ahead a), ?_⟩;replace h:=h _ X A;refine Calls.mono h ?_;clear h;rintro e19 w51 ⟨b18,s16,x18,he_,a,h⟩;refine ⟨b18,s16,x18,he_, ?_⟩;clear he_;obtain ⟨B1,B2,B17,B20⟩:=ah4 a B1 B2 B17 B20;obtain ⟨A,X,Y_⟩:=axr3 a A Y_;refine s3_t B20 fun u51 k B20=> ?_;obtain ⟨B1,B2,B17⟩:=up3 k B1 B2 B17;obtain ⟨A,X,Y_⟩:=axu3 k g20 A X Y_;refine s3_t B17 fun u52 k B17=> ?_;obtain ⟨B1,B2,B20⟩:=up3 k B1 B2 B20;obtain ⟨A,X,Y_⟩:=axu3 k g17 A X Y_;replace h:=h _ X A;refine ⟨bk1,bk2,bk20,bk17,aa,ab,ac,ad,ae,af,false,(⟨none,0,0⟩:Slc),0,false,(⟨none,0,0⟩:Slc),0,b17,s15,x17,b18,s16,x18,rfl,B1,g1,rfl,B2,g2,rfl,B20,g20,rfl,B17,g17, ?_⟩;iterate 6 refine nd ?_
       exact ⟨A,h⟩
  · clear h
    intro aI t2 aG aH w_
    refine exE fun bk1=>exE fun bk2=>exE fun bk3=>exE fun bk4=>exE fun am=>exE fun an=>exE fun ao=>exE fun ap=>exE fun aq=>exE fun ar=>exE fun au=>exE fun av=>exE fun aw=>exE fun ax=>exE fun ay=>exE fun az=>exE fun ag=>exE fun ah=>exE fun ai=>exE fun aj=>exE fun ak=>exE fun al=>anE fun e_0=>anE fun B1=>anE fun g1=>anE fun e_1=>anE fun B2=>anE fun g2=>anE fun e_2=>anE fun B3=>anE fun g3=>anE fun e_3=>anE fun B4=>anE fun g4=>anE fun n1_2=>anE fun n1_3=>anE fun n1_4=>anE fun n2_3=>anE fun n2_4=>anE fun n3_4=>anE fun A=>fun aE=> ?_
    subst e_0
    subst e_1
    subst e_2
    subst e_3
    have h:=aF am an ao ap aq ar au av aw ax ay az ag ah ai aj ak al w_ A aE
    have X:Ext w_ w_:=Ext.refl _
    refine l3_t B3 ?_;refine l3_t B4 ?_;refine Calls.mono h ?_;clear h;rintro e3 w5 ⟨x3,x4,he_,a,h⟩;refine ⟨x3,x4,he_, ?_⟩;clear he_;obtain ⟨B1,B2,B3,B4⟩:=ah4 a B1 B2 B3 B4;obtain ⟨A,X⟩:=axr2 a A;refine zv h (fun h_=> ?_) (fun h_=> ?_)
    ·replace h:=h_;clear h_;refine l3_t B4 ?_;refine l3_t B3 ?_;refine s3_t B3 fun u7 k B3=> ?_;obtain ⟨B1,B2,B4⟩:=up3 k B1 B2 B4;obtain ⟨A,X⟩:=axu2 k g3 A X;refine s3_t B4 fun u8 k B4=> ?_;obtain ⟨B1,B2,B3⟩:=up3 k B1 B2 B3;obtain ⟨A,X⟩:=axu2 k g4 A X;refine l6_t B1 ?_;replace h:=h _ X A;refine Calls.mono h ?_;clear h;rintro e4 w7 ⟨b3,he_,a,h⟩;refine ⟨b3,he_, ?_⟩;clear he_;obtain ⟨B1,B2,B3,B4⟩:=ah4 a B1 B2 B3 B4;obtain ⟨A,X⟩:=axr2 a A;refine zv h (fun h_=> ?_) (fun h_=> ?_)
     ·replace h:=h_;clear h_;refine s3_t B3 fun u9 k B3=> ?_;obtain ⟨B1,B2,B4⟩:=up3 k B1 B2 B4;obtain ⟨A,X⟩:=axu2 k g3 A X;refine l3_t B3 ?_;refine l3_t B4 ?_;refine s6_t B2 fun u10 k B2=> ?_;obtain ⟨B1,B3,B4⟩:=up3 k B1 B3 B4;obtain ⟨A,X⟩:=axu2 k g2 A X;refine l6_t B2 ?_;replace h:=h _ X A;exact ⟨A,h⟩
     ·replace h:=h_;clear h_;refine l3_t B3 ?_;refine l3_t B4 ?_;refine s6_t B2 fun u11 k B2=> ?_;obtain ⟨B1,B3,B4⟩:=up3 k B1 B3 B4;obtain ⟨A,X⟩:=axu2 k g2 A X;refine l6_t B2 ?_;replace h:=h _ X A;exact ⟨A,h⟩
    ·replace h:=h_;clear h_;refine l6_t B1 ?_;refine Calls.mono h ?_;clear h;rintro e5 w10 ⟨b4,he_,a,h⟩;refine ⟨b4,he_, ?_⟩;clear he_;obtain ⟨B1,B2,B3,B4⟩:=ah4 a B1 B2 B3 B4;obtain ⟨A,X⟩:=axr2 a A;refine zv h (fun h_=> ?_) (fun h_=> ?_)
     ·replace h:=h_;clear h_;refine s3_t B3 fun u12 k B3=> ?_;obtain ⟨B1,B2,B4⟩:=up3 k B1 B2 B4;obtain ⟨A,X⟩:=axu2 k g3 A X;refine l3_t B3 ?_;refine l3_t B4 ?_;refine s6_t B2 fun u13 k B2=> ?_;obtain ⟨B1,B3,B4⟩:=up3 k B1 B3 B4;obtain ⟨A,X⟩:=axu2 k g2 A X;refine l6_t B2 ?_;replace h:=h _ X A;exact ⟨A,h⟩
     ·replace h:=h_;clear h_;refine l3_t B3 ?_;refine l3_t B4 ?_;refine s6_t B2 fun u14 k B2=> ?_;obtain ⟨B1,B3,B4⟩:=up3 k B1 B3 B4;obtain ⟨A,X⟩:=axu2 k g2 A X;refine l6_t B2 ?_;replace h:=h _ X A;exact ⟨A,h⟩
theorem Gz (aa:Bool) (ab:Slc) (ac:Int) (ad:Bool) (ae:Slc) (af:Int) (ag:Bool) (ah:Slc) (ai:Int) (aj:Bool) (ak:Slc) (al:Int) (am:Int) (w:World) (R:Ending→World→Prop) (h:xw w w fun w1=>(kU 101 #[uD aa ab ac,uD ag ah ai] w1 fun w2 b1 s1 x1 x2=>Ahead w1 w2∧(xw w w2 fun w3=>(kU 101 #[uD ad ae af,uD aj ak al] w3 fun w4 b2 s2 x3 x4=>Ahead w3 w4∧(xw w w4 fun w5=>(kI 64 #[vi x2,vi x4] w5 fun w6 x5=>Ahead w5 w6∧(br (x5 !=0) (xw w w6 fun w7=>(R (.returned (.tuple #[uS (false) nSl (0:Int) (false) nSl (0:Int),vi x5])) w7)) (kV 102 #[uD b1 s1 x1,uD b2 s2 x3,vi am] w6 fun w8 b3 s3 x6 b4 s4 x7 x8=>Ahead w6 w8∧(xw w w8 fun w9=>(R (.returned (.tuple #[uS b3 s3 x6 b4 s4 x7,vi x8])) w9)))))))))):Calls pr 61 #[uS aa ab ac ad ae af,uS ag ah ai aj ak al,vi am] w (fun e_ w_=>Ahead w w_∧R e_ w_):=by
 refine G0 aa ab ac ad ae af ag ah ai aj ak al am w _ ?_
 ·have A:Ahead w w:=Ahead.refl w
  have X:Ext w w:=Ext.refl w
  refine zn fun bk1 u1 hb a _ B1=> ?_;have g1:=zj A.size hb;obtain ⟨A,X⟩:=axa2 a A X;refine zn fun bk2 u2 hb a _ B2=> ?_;have g2:=zj A.size hb;have l1_2:=lt1 hb B1;replace B1:=B1.ahead a;obtain ⟨A,X⟩:=axa2 a A X;refine zn fun bk3 u3 hb a _ B3=> ?_;have g3:=zj A.size hb;obtain ⟨_,_⟩:=lt2 hb B1 B2;obtain ⟨B1,B2⟩:=ah2 a B1 B2;obtain ⟨A,X⟩:=axa2 a A X;refine v9 B1 ?_;refine v9 B2 ?_;replace h:=h _ X A;refine Calls.mono h ?_;clear h;rintro e1 w2 ⟨b1,s1,x1,x2,he_,a,h⟩;refine ⟨b1,s1,x1,x2,he_, ?_⟩;clear he_;obtain ⟨B1,B2,B3⟩:=ah3 a B1 B2 B3;obtain ⟨A,X⟩:=axr2 a A;refine zn fun bk4 u4 hb a _ B4=> ?_;have g4:=zj A.size hb;obtain ⟨_,_,_⟩:=lt3 hb B1 B2 B3;obtain ⟨B1,B2,B3⟩:=ah3 a B1 B2 B3;obtain ⟨A,X⟩:=axa2 a A X;refine s3_t B4 fun u5 k B4=> ?_;obtain ⟨B1,B2,B3⟩:=up3 k B1 B2 B3;obtain ⟨A,X⟩:=axu2 k g4 A X;refine ut B1 ?_;refine ut B2 ?_;replace h:=h _ X A;refine Calls.mono h ?_;clear h;rintro e2 w4 ⟨b2,s2,x3,x4,he_,a,h⟩;refine ⟨b2,s2,x3,x4,he_, ?_⟩;clear he_;obtain ⟨B1,B2,B3,B4⟩:=ah4 a B1 B2 B3 B4;obtain ⟨A,X⟩:=axr2 a A;refine zn fun bk5 u6 hb a _ B5=> ?_;have g5:=zj A.size hb;obtain ⟨_,_,_,_⟩:=lt4 hb B1 B2 B3 B4;obtain ⟨B1,B2,B3,B4⟩:=ah4 a B1 B2 B3 B4;obtain ⟨A,X⟩:=axa2 a A X;refine s3_t B5 fun u7 k B5=> ?_;obtain ⟨B1,B2,B3,B4⟩:=up4 k B1 B2 B3 B4;obtain ⟨A,X⟩:=axu2 k g5 A X;replace h:=h _ X A;refine Calls.mono h ?_;clear h;rintro e3 w6 ⟨x5,he_,a,h⟩;refine ⟨x5,he_, ?_⟩;clear he_;obtain ⟨B1,B2,B3,B4,B5⟩:=ah5 a B1 B2 B3 B4 B5;obtain ⟨A,X⟩:=axr2 a A;refine zv h (fun h_=> ?_) (fun h_=> ?_)
  ·replace h:=h_;clear h_;refine s6_t B3 fun u8 k B3=> ?_;obtain ⟨B1,B2,B4,B5⟩:=up4 k B1 B2 B4 B5;obtain ⟨A,X⟩:=axu2 k g3 A X;refine l6_t B3 ?_;replace h:=h _ X A;exact ⟨A,h⟩
  ·replace h:=h_;clear h_;refine l3_t B4 ?_;refine l3_t B5 ?_;refine Calls.mono h ?_;clear h;rintro e4 w8 ⟨b3,s3,x6,b4,s4,x7,x8,he_,a,h⟩;refine ⟨b3,s3,x6,b4,s4,x7,x8,he_, ?_⟩;clear he_;obtain ⟨B1,B2,B3,B4,B5⟩:=ah5 a B1 B2 B3 B4 B5;obtain ⟨A,X⟩:=axr2 a A;refine s6_t B3 fun u9 k B3=> ?_;obtain ⟨B1,B2,B4,B5⟩:=up4 k B1 B2 B4 B5;obtain ⟨A,X⟩:=axu2 k g3 A X;refine l6_t B3 ?_;replace h:=h _ X A;exact ⟨A,h⟩
theorem Gv (aa:Bool) (ab:Slc) (ac:Int) (w:World) (R:Ending→World→Prop) (h:xw w w fun w1=>(kU 138 #[uD aa ab ac,vi 0] w1 fun w2 b1 s1 x1 x2=>Ahead w1 w2∧(xw w w2 fun w3=>(R (.returned (.tuple #[uD b1 s1 x1,vi x2])) w3)))):Calls pr 109 #[uD aa ab ac] w (fun e_ w_=>Ahead w w_∧R e_ w_):=by
 refine Gw aa ab ac w _ ?_
 ·have A:Ahead w w:=Ahead.refl w
  have X:Ext w w:=Ext.refl w
  refine zn fun bk1 u1 hb a _ B1=> ?_;have g1:=zj A.size hb;obtain ⟨A,X⟩:=axa2 a A X;refine zn fun bk2 u2 hb a _ B2=> ?_;have g2:=zj A.size hb;have l1_2:=lt1 hb B1;replace B1:=B1.ahead a;obtain ⟨A,X⟩:=axa2 a A X;refine l3_t B1 ?_;replace h:=h _ X A;refine Calls.mono h ?_;clear h;rintro e1 w2 ⟨b1,s1,x1,x2,he_,a,h⟩;refine ⟨b1,s1,x1,x2,he_, ?_⟩;clear he_;obtain ⟨B1,B2⟩:=ah2 a B1 B2;obtain ⟨A,X⟩:=axr2 a A;refine s3_t B2 fun u3 k B2=> ?_;replace B1:=up1 k B1;obtain ⟨A,X⟩:=axu2 k g2 A X;refine l3_t B2 ?_;replace h:=h _ X A;exact ⟨A,h⟩
theorem Yb (aM:Bool) (aN:Slc) (aO:Int) (aP:Bool) (aQ:Slc) (aR:Int) (aG:Bool) (aH:Slc) (aI:Int) (aJ:Bool) (aK:Slc) (aL:Int) (a2:Int) (w:World) (R:Ending→World→Prop) (K7:Int→Bool→Slc→Int→Bool→Slc→Int→Bool→Slc→Int→Bool→Slc→Int→Bool→Slc→Int→Bool→Slc→Int→World→Prop) (K8:Int→Bool→Slc→Int→Bool→Slc→Int→Bool→Slc→Int→Bool→Slc→Int→Bool→Slc→Int→Bool→Slc→Int→Bool→Slc→Int→Bool→Slc→Int→World→Prop) (K10:Int→Bool→Slc→Int→Bool→Slc→Int→Bool→Slc→Int→Bool→Slc→Int→Bool→Slc→Int→Bool→Slc→Int→Bool→Slc→Int→Bool→Slc→Int→World→Prop) (K12:Int→Bool→Slc→Int→Bool→Slc→Int→Bool→Slc→Int→Bool→Slc→Int→Bool→Slc→Int→Bool→Slc→Int→World→Prop) (h:xw w w fun w1=>(kB 108 #[uS aG aH aI aJ aK aL] w1 fun w2 b1=>Ahead w1 w2∧(br b1 (xw w w2 fun w3=>(R (.returned (.tuple #[uS (false) nSl (0:Int) (false) nSl (0:Int),vi 101])) w3)) (kI 37 #[uD aG aH aI] w2 fun w4 x1=>Ahead w2 w4∧(br (decide (x1<0)) (xw w w4 fun w5=>(kD 62 #[uD aP aQ aR] w5 fun w6 b2 s1 x2=>Ahead w5 w6∧(kD 62 #[uD aM aN aO] w6 fun w7 b3 s2 x3=>Ahead w6 w7∧(xw w w7 fun w8=>(kD 62 #[uD aJ aK aL] w8 fun w9 b4 s3 x4=>Ahead w8 w9∧(kD 62 #[uD aG aH aI] w9 fun w10 b5 s4 x5=>Ahead w9 w10∧(xw w w10 fun w23=>(K7 a2 b2 s1 x2 b3 s2 x3 b4 s3 x4 b5 s4 x5 false nSl 0 false nSl 0 w23)))))))) (K7 a2 aM aN aO aP aQ aR aG aH aI aJ aK aL false nSl 0 false nSl 0 w4)))))) (aW:∀t2 aa ab ac ad ae af am an ao ap aq ar ag ah ai aj ak al w_,Ahead w w_→K7 t2 aa ab ac ad ae af am an ao ap aq ar ag ah ai aj ak al w_→xw w w_ fun w21=>(K8 t2 aa ab ac ad ae af am an ao ap aq ar ag ah ai aj ak al ap aq ar am an ao w21)) (aX:∀t2 aa ab ac ad ae af am an ao ap aq ar ag ah ai aj ak al au av aw ax ay az w_,Ahead w w_→K8 t2 aa ab ac ad ae af am an ao ap aq ar ag ah ai aj ak al au av aw ax ay az w_→kI 37 #[uD aa ab ac] w_ fun w11 x6=>Ahead w_ w11∧(br (decide (x6<0)) (xw w w11 fun w20=>(K10 t2 aa ab ac ad ae af am an ao ap aq ar ag ah ai aj ak al am an ao ax ay az w20)) (K10 t2 aa ab ac ad ae af am an ao ap aq ar ag ah ai aj ak al au av aw ax ay az w11))) (aY:∀t2 aa ab ac ad ae af am an ao ap aq ar ag ah ai aj ak al au av aw ax ay az w_,Ahead w w_→K10 t2 aa ab ac ad ae af am an ao ap aq ar ag ah ai aj ak al au av aw ax ay az w_→kI 37 #[uD ad ae af] w_ fun w12 x7=>Ahead w_ w12∧(br (decide (x7<0)) (xw w w12 fun w19=>(K12 t2 aa ab ac ad ae af ag ah ai aj ak al au av aw ap aq ar w19)) (K12 t2 aa ab ac ad ae af ag ah ai aj ak al au av aw ax ay az w12))) (aZ:∀t2 aa ab ac ad ae af ag ah ai aj ak al au av aw ax ay az w_,Ahead w w_→K12 t2 aa ab ac ad ae af ag ah ai aj ak al au av aw ax ay az w_→kU 11 #[uD aa ab ac,uD au av aw,vi t2,vi 0] w_ fun w13 b6 s5 x8 x9=>Ahead w_ w13∧(xw w w13 fun w14=>(kU 11 #[uD ad ae af,uD ax ay az,vi t2,vi 1] w14 fun w15 b7 s6 x10 x11=>Ahead w14 w15∧(xw w w15 fun w16=>(kV 78 #[uD b6 s5 x8,vi x9,uD b7 s6 x10,vi x11] w16 fun w17 b8 s7 x12 b9 s8 x13 x14=>Ahead w16 w17∧(xw w w17 fun w18=>(R (.returned (.tuple #[uS b8 s7 x12 b9 s8 x13,vi x14])) w18))))))):Calls pr 75 #[uS aM aN aO aP aQ aR,uS aG aH aI aJ aK aL,vi a2] w (fun e_ w_=>Ahead w w_∧R e_ w_):=by
  refine Yc aM aN aO aP aQ aR aG aH aI aJ aK aL a2 w _ (fun t2 t3 t4 t6 w_=>∃aA:Nat,∃aE:Nat,∃aB:Nat,∃aa:Bool,∃ab:Slc,∃ac:Int,∃ad:Bool,∃ae:Slc,∃af:Int,∃am:Bool,∃an:Slc,∃ao:Int,∃ap:Bool,∃aq:Slc,∃ar:Int,∃ag:Bool,∃ah:Slc,∃ai:Int,∃aj:Bool,∃ak:Slc,∃al:Int,t3=⟨aA,0,none⟩∧Blt w_ aA 50 #[Value.bool aa,ab.v,vi ac,Value.bool ad,ae.v,vi af]∧w.heap.size≤aA∧t4=⟨aE,0,none⟩∧Blt w_ aE 50 #[Value.bool am,an.v,vi ao,Value.bool ap,aq.v,vi ar]∧w.heap.size≤aE∧t6=⟨aB,0,none⟩∧Blt w_ aB 50 #[Value.bool ag,ah.v,vi ai,Value.bool aj,ak.v,vi al]∧w.heap.size≤aB∧aA≠aE∧aA≠aB∧aE≠aB∧Ahead w w_∧K7 t2 aa ab ac ad ae af am an ao ap aq ar ag ah ai aj ak al w_) (fun t2 t3 t4 t6 t8 t9 w_=>∃aA:Nat,∃aE:Nat,∃aB:Nat,∃aC:Nat,∃aD:Nat,∃aa:Bool,∃ab:Slc,∃ac:Int,∃ad:Bool,∃ae:Slc,∃af:Int,∃am:Bool,∃an:Slc,∃ao:Int,∃ap:Bool,∃aq:Slc,∃ar:Int,∃ag:Bool,∃ah:Slc,∃ai:Int,∃aj:Bool,∃ak:Slc,∃al:Int,∃au:Bool,∃av:Slc,∃aw:Int,∃ax:Bool,∃ay:Slc,∃az:Int,t3=⟨aA,0,none⟩∧Blt w_ aA 50 #[Value.bool aa,ab.v,vi ac,Value.bool ad,ae.v,vi af]∧w.heap.size≤aA∧t4=⟨aE,0,none⟩∧Blt w_ aE 50 #[Value.bool am,an.v,vi ao,Value.bool ap,aq.v,vi ar]∧w.heap.size≤aE∧t6=⟨aB,0,none⟩∧Blt w_ aB 50 #[Value.bool ag,ah.v,vi ai,Value.bool aj,ak.v,vi al]∧w.heap.size≤aB∧t8=⟨aC,0,none⟩∧Blt w_ aC 27 #[Value.bool au,av.v,vi aw]∧w.heap.size≤aC∧t9=⟨aD,0,none⟩∧Blt w_ aD 27 #[Value.bool ax,ay.v,vi az]∧w.heap.size≤aD∧aA≠aE∧aA≠aB∧aA≠aC∧aA≠aD∧aE≠aB∧aE≠aC∧aE≠aD∧aB≠aC∧aB≠aD∧aC≠aD∧Ahead w w_∧K8 t2 aa ab ac ad ae af am an ao ap aq ar ag ah ai aj ak al au av aw ax ay az w_) (fun t2 t3 t4 t6 t8 t9 w_=>∃aA:Nat,∃aE:Nat,∃aB:Nat,∃aC:Nat,∃aD:Nat,∃aa:Bool,∃ab:Slc,∃ac:Int,∃ad:Bool,∃ae:Slc,∃af:Int,∃am:Bool,∃an:Slc,∃ao:Int,∃ap:Bool,∃aq:Slc,∃ar:Int,∃ag:Bool,∃ah:Slc,∃ai:Int,∃aj:Bool,∃ak:Slc,∃al:Int,∃au:Bool,∃av:Slc,∃aw:Int,∃ax:Bool,∃ay:Slc,∃az:Int,t3=⟨aA,0,none⟩∧Blt w_ aA 50 #[Value.bool aa,ab.v,vi ac,Value.bool ad,ae.v,vi af]∧w.heap.size≤aA∧t4=⟨aE,0,none⟩∧Blt w_ aE 50 #[Value.bool am,an.v,vi ao,Value.bool ap,aq.v,vi ar]∧w.heap.size≤aE∧t6=⟨aB,0,none⟩∧Blt w_ aB 50 #[Value.bool ag,ah.v,vi ai,Value.bool aj,ak.v,vi al]∧w.heap.size≤aB∧t8=⟨aC,0,none⟩∧Blt w_ aC 27 #[Value.bool au,av.v,vi aw]∧w.heap.size≤aC∧t9=⟨aD,0,none⟩∧Blt w_ aD 27 #[Value.bool ax,ay.v,vi az]∧w.heap.size≤aD∧aA≠aE∧aA≠aB∧aA≠aC∧aA≠aD∧aE≠aB∧aE≠aC∧aE≠aD∧aB≠aC∧aB≠aD∧aC≠aD∧Ahead w w_∧K10 t2 aa ab ac ad ae af am an ao ap aq ar ag ah ai aj ak al au av aw ax ay az w_) (fun t2 t3 t6 t8 t9 w_=>∃aA:Nat,∃aB:Nat,∃aC:Nat,∃aD:Nat,∃aa:Bool,∃ab:Slc,∃ac:Int,∃ad:Bool,∃ae:Slc,∃af:Int,∃ag:Bool,∃ah:Slc,∃ai:Int,∃aj:Bool,∃ak:Slc,∃al:Int,∃au:Bool,∃av:Slc,∃aw:Int,∃ax:Bool,∃ay:Slc,∃az:Int,t3=⟨aA,0,none⟩∧Blt w_ aA 50 #[Value.bool aa,ab.v,vi ac,Value.bool ad,ae.v,vi af]∧w.heap.size≤aA∧t6=⟨aB,0,none⟩∧Blt w_ aB 50 #[Value.bool ag,ah.v,vi ai,Value.bool aj,ak.v,vi al]∧w.heap.size≤aB∧t8=⟨aC,0,none⟩∧Blt w_ aC 27 #[Value.bool au,av.v,vi aw]∧w.heap.size≤aC∧t9=⟨aD,0,none⟩∧Blt w_ aD 27 #[Value.bool ax,ay.v,vi az]∧w.heap.size≤aD∧aA≠aB∧aA≠aC∧aA≠aD∧aB≠aC∧aB≠aD∧aC≠aD∧Ahead w w_∧K12 t2 aa ab ac ad ae af ag ah ai aj ak al au av aw ax ay az w_) ?_ ?_ ?_ ?_ ?_
  · have A:Ahead w w:=Ahead.refl w
    have X:Ext w w:=Ext.refl w
    refine zn fun bk1 u1 hb a _ B1=> ?_;have g1:=zj A.size hb;obtain ⟨A,X⟩:=axa2 a A X;refine zn fun bk2 u2 hb a _ B2=> ?_;have g2:=zj A.size hb;have l1_2:=lt1 hb B1;replace B1:=B1.ahead a;obtain ⟨A,X⟩:=axa2 a A X;refine zn fun bk3 u3 hb a _ B3=> ?_;have g3:=zj A.size hb;obtain ⟨_,_⟩:=lt2 hb B1 B2;obtain ⟨B1,B2⟩:=ah2 a B1 B2;obtain ⟨A,X⟩:=axa2 a A X;refine l6_t B2 ?_;replace h:=h _ X A;refine Calls.mono h ?_;clear h;rintro e1 w2 ⟨b1,he_,a,h⟩;refine ⟨b1,he_, ?_⟩;clear he_;obtain ⟨B1,B2,B3⟩:=ah3 a B1 B2 B3;obtain ⟨A,X⟩:=axr2 a A;refine zv h (fun h_=> ?_) (fun h_=> ?_)
    ·replace h:=h_;clear h_;refine s6_t B3 fun u4 k B3=> ?_;obtain ⟨B1,B2⟩:=up2 k B1 B2;obtain ⟨A,X⟩:=axu2 k g3 A X;refine l6_t B3 ?_;replace h:=h _ X A;exact ⟨A,h⟩
    ·replace h:=h_;clear h_;refine v9 B2 ?_;refine Calls.mono h ?_;clear h;rintro e2 w4 ⟨x1,he_,a,h⟩;refine ⟨x1,he_, ?_⟩;clear he_;obtain ⟨B1,B2,B3⟩:=ah3 a B1 B2 B3;obtain ⟨A,X⟩:=axr2 a A;refine zv h (fun h_=> ?_) (fun h_=> ?_)
     ·replace h:=h_;clear h_;have aF:=Sp.Ahead.drew w4;obtain ⟨B1,B2,B3⟩:=ah3 aF B1 B2 B3;obtain ⟨A,X⟩:=axa2 aF A X;clear aF;have z1:=B1.lt;have z2:=B2.lt;have z3:=B3.lt;let V_:Nat→Nat→Prop:=fun (q_ k:Nat)=>(k=bk1∨w4.drew.heap.size≤k)∧((q_=1∨q_=4)→k≠bk1);refine ⟨V_, ?_⟩;have Y_:w4.drew.heap.size≤w4.drew.heap.size:=Nat.le_refl _;refine xp (b:=bk1) (i:=3) (by first|rfl|exact Sp.zz) (fun hv_=>(by replace hv_:_∧_:=hv_;omega)) ?_;refine ut B1 ?_;refine xp (b:=bk1) (i:=0) (by first|rfl|exact Sp.zz) (fun hv_=>(by replace hv_:_∧_:=hv_;omega)) ?_;refine v9 B1 ?_;replace h:=h _ X A;refine Calls.mono h ?_;clear h;rintro e3 w6 ⟨b2,s1,x2,he_,a,h⟩;refine ⟨b2,s1,x2,he_, ?_⟩;clear he_;obtain ⟨B1,B2,B3⟩:=ah3 a B1 B2 B3;obtain ⟨A,X,Y_⟩:=axr3 a A Y_;refine ⟨(Bar.of_ahead a), ?_⟩;refine Calls.mono h ?_;clear h;rintro e4 w7 ⟨b3,s2,x3,he_,a,h⟩;refine ⟨b3,s2,x3,he_, ?_⟩;clear he_;obtain ⟨B1,B2,B3⟩:=ah3 a B1 B2 B3;obtain ⟨A,X,Y_⟩:=axr3 a A Y_;refine Uz B1 fun u5 k B1=> ?_;obtain ⟨B2,B3⟩:=up2 k B2 B3;obtain ⟨A,X,Y_⟩:=axu3 k g1 A X Y_;refine U0 B1 fun u6 k B1=> ?_;obtain ⟨B2,B3⟩:=up2 k B2 B3;obtain ⟨A,X,Y_⟩:=axu3 k g1 A X Y_;have aF:=Sp.Ahead.drew u6;obtain ⟨B1,B2,B3⟩:=ah3 aF B1 B2 B3;obtain ⟨A,X⟩:=axa2 aF A X;clear aF;have z1:=B1.lt;have z2:=B2.lt;have z3:=B3.lt;let V_:Nat→Nat→Prop:=fun (q_ k:Nat)=>(k=bk2∨u6.drew.heap.size≤k)∧((q_=1∨q_=4)→k≠bk2);refine ⟨V_, ?_⟩;have Y_:u6.drew.heap.size≤u6.drew.heap.size:=Nat.le_refl _;refine xp (b:=bk2) (i:=3) (by first|rfl|exact Sp.zz) (fun hv_=>(by replace hv_:_∧_:=hv_;omega)) ?_;refine ut B2 ?_;refine xp (b:=bk2) (i:=0) (by first|rfl|exact Sp.zz) (fun hv_=>(by replace hv_:_∧_:=hv_;omega)) ?_;refine v9 B2 ?_;replace h:=h _ X A;refine Calls.mono h ?_;clear h;rintro e5 w9 ⟨b4,s3,x4,he_,a,h⟩;refine ⟨b4,s3,x4,he_, ?_⟩;clear he_;obtain ⟨B1,B2,B3⟩:=ah3 a B1 B2 B3;obtain ⟨A,X,Y_⟩:=axr3 a A Y_;refine ⟨(Bar.of_ahead a), ?_⟩;refine Calls.mono h ?_;clear h;rintro e6 w10 ⟨b5,s4,x5,he_,a,h⟩;refine ⟨b5,s4,x5,he_, ?_⟩;clear he_;obtain ⟨B1,B2,B3⟩:=ah3 a B1 B2 B3;obtain ⟨A,X,Y_⟩:=axr3 a A Y_;refine Uz B2 fun u7 k B2=> ?_;obtain ⟨B1,B3⟩:=up2 k B1 B3;obtain ⟨A,X,Y_⟩:=axu3 k g2 A X Y_;refine U0 B2 fun u8 k B2=> ?_;obtain ⟨B1,B3⟩:=up2 k B1 B3;obtain ⟨A,X,Y_⟩:=axu3 k g2 A X Y_;replace h:=h _ X A;exact ⟨bk1,bk2,bk3,b2,s1,x2,b3,s2,x3,b4,s3,x4,b5,s4,x5,false,(⟨none,0,0⟩:Slc),0,false,(⟨none,0,0⟩:Slc),0,rfl,B1,g1,rfl,B2,g2,rfl,B3,g3,(by omega),(by omega),(by omega),A,h⟩
     ·replace h:=h_;clear h_;exact ⟨bk1,bk2,bk3,aM,aN,aO,aP,aQ,aR,aG,aH,aI,aJ,aK,aL,false,(⟨none,0,0⟩:Slc),0,false,(⟨none,0,0⟩:Slc),0,rfl,B1,g1,rfl,B2,g2,rfl,B3,g3,(by omega),(by omega),(by omega),A,h⟩
  · clear h
    rintro t2 t3 t4 t6 w_ ⟨bk1,bk2,bk3,aa,ab,ac,ad,ae,af,am,an,ao,ap,aq,ar,ag,ah,ai,aj,ak,al,rfl,B1,g1,rfl,B2,g2,rfl,B3,g3,n1_2,n1_3,n2_3,A,aS⟩
    have h:=aW t2 aa ab ac ad ae af am an ao ap aq ar ag ah ai aj ak al w_ A aS
    have X:Ext w_ w_:=Ext.refl _
    have aF:=Sp.Ahead.drew w_;obtain ⟨B1,B2,B3⟩:=ah3 aF B1 B2 B3;obtain ⟨A,X⟩:=axa2 aF A X;clear aF;have z1:=B1.lt;have z2:=B2.lt;have z3:=B3.lt;let V_:Nat→Nat→Prop:=fun (q_ k:Nat)=>(k<0∨w_.drew.heap.size≤k)∧0≤k;refine ⟨V_, ?_⟩;have Y_:w_.drew.heap.size≤w_.drew.heap.size:=Nat.le_refl _;refine xp (b:=bk2) (i:=3) (by first|rfl|exact Sp.zz) (fun hv_=>(by replace hv_:_∧_:=hv_;omega)) ?_;refine ut B2 ?_;refine xp (b:=bk2) (i:=0) (by first|rfl|exact Sp.zz) (fun hv_=>(by replace hv_:_∧_:=hv_;omega)) ?_;refine v9 B2 ?_;refine ⟨?_, ?_⟩
    ·refine zn fun bk4 u9 hb a _ B4=> ?_;have g4:=zj A.size hb;obtain ⟨_,_,_⟩:=lt3 hb B1 B2 B3;have y4:=zj Y_ hb;obtain ⟨B1,B2,B3⟩:=ah3 a B1 B2 B3;obtain ⟨A,X,Y_⟩:=axa3 a A X Y_;refine bb2 a ?_;refine zn fun bk5 u10 hb a _ B5=> ?_;have g5:=zj A.size hb;obtain ⟨_,_,_,_⟩:=lt4 hb B1 B2 B3 B4;have y5:=zj Y_ hb;obtain ⟨B1,B2,B3,B4⟩:=ah4 a B1 B2 B3 B4;obtain ⟨A,X,Y_⟩:=axa3 a A X Y_;refine bb2 a ?_;refine s3_t B4 fun u11 k B4=> ?_;obtain ⟨B1,B2,B3,B5⟩:=up4 k B1 B2 B3 B5;obtain ⟨A,X,Y_⟩:=axu3 k g4 A X Y_;refine ⟨(k.bar (V:=V_ 3) (by show _∧_;omega)), ?_⟩;refine s3_t B5 fun u12 k B5=> ?_;obtain ⟨B1,B2,B3,B4⟩:=up4 k B1 B2 B3 B4;obtain ⟨A,X,Y_⟩:=axu3 k g5 A X Y_;replace h:=h _ X A;refine ⟨bk1,bk2,bk3,bk4,bk5,aa,ab,ac,ad,ae,af,am,an,ao,ap,aq,ar,ag,ah,ai,aj,ak,al,ap,aq,ar,am,an,ao,rfl,B1,g1,rfl,B2,g2,rfl,B3,g3,rfl,B4,g4,rfl,B5,g5, ?_⟩;iterate 10 refine nd ?_
     exact ⟨A,h⟩
    ·refine zn fun bk8 u20 hb a _ B8=> ?_;have g8:=zj A.size hb;obtain ⟨_,_,_⟩:=lt3 hb B1 B2 B3;have y8:=zj Y_ hb;obtain ⟨B1,B2,B3⟩:=ah3 a B1 B2 B3;obtain ⟨A,X,Y_⟩:=axa3 a A X Y_;refine bb2 a ?_;refine zn fun bk9 u21 hb a _ B9=> ?_;have g9:=zj A.size hb;obtain ⟨_,_,_,_⟩:=lt4 hb B1 B2 B3 B8;have y9:=zj Y_ hb;obtain ⟨B1,B2,B3,B8⟩:=ah4 a B1 B2 B3 B8;obtain ⟨A,X,Y_⟩:=axa3 a A X Y_;refine bb2 a ?_;refine s3_t B9 fun u22 k B9=> ?_;obtain ⟨B1,B2,B3,B8⟩:=up4 k B1 B2 B3 B8;obtain ⟨A,X,Y_⟩:=axu3 k g9 A X Y_;refine ⟨(k.bar (V:=V_ 3) (by show _∧_;omega)), ?_⟩;refine s3_t B8 fun u23 k B8=> ?_;obtain ⟨B1,B2,B3,B9⟩:=up4 k B1 B2 B3 B9;obtain ⟨A,X,Y_⟩:=axu3 k g8 A X Y_;replace h:=h _ X A;refine ⟨bk1,bk2,bk3,bk9,bk8,aa,ab,ac,ad,ae,af,am,an,ao,ap,aq,ar,ag,ah,ai,aj,ak,al,ap,aq,ar,am,an,ao,rfl,B1,g1,rfl,B2,g2,rfl,B3,g3,rfl,B9,g9,rfl,B8,g8, ?_⟩;iterate 10 refine nd ?_
     exact ⟨A,h⟩
  · clear h
    intro t2 t3 t4 t6 t8 t9 w_
    refine exE fun bk1=>exE fun bk2=>exE fun bk3=>exE fun bk4=>exE fun bk5=>exE fun aa=>exE fun ab=>exE fun ac=>exE fun ad=>exE fun ae=>exE fun af=>exE fun am=>exE fun an=>exE fun ao=>exE fun ap=>exE fun aq=>exE fun ar=>exE fun ag=>exE fun ah=>exE fun ai=>exE fun aj=>exE fun ak=>exE fun al=>exE fun au=>exE fun av=>exE fun aw=>exE fun ax=>exE fun ay=>exE fun az=>anE fun e_0=>anE fun B1=>anE fun g1=>anE fun e_1=>anE fun B2=>anE fun g2=>anE fun e_2=>anE fun B3=>anE fun g3=>anE fun e_3=>anE fun B4=>anE fun g4=>anE fun e_4=>anE fun B5=>anE fun g5=>anE fun n1_2=>anE fun n1_3=>anE fun n1_4=>anE fun n1_5=>anE fun n2_3=>anE fun n2_4=>anE fun n2_5=>anE fun n3_4=>anE fun n3_5=>anE fun n4_5=>anE fun A=>fun aT=> ?_
    subst e_0
    subst e_1
    subst e_2
    subst e_3
    subst e_4
    have h:=aX t2 aa ab ac ad ae af am an ao ap aq ar ag ah ai aj ak al au av aw ax ay az w_ A aT
    have X:Ext w_ w_:=Ext.refl _
    refine v9 B1 ?_;refine Calls.mono h ?_;clear h;rintro e7 w11 ⟨x6,he_,a,h⟩;refine ⟨x6,he_, ?_⟩;clear he_;obtain ⟨B1,B2,B3,B4,B5⟩:=ah5 a B1 B2 B3 B4 B5;obtain ⟨A,X⟩:=axr2 a A;refine zv h (fun h_=> ?_) (fun h_=> ?_)
    ·replace h:=h_;clear h_;refine v9 B2 ?_;refine s3_t B4 fun u13 k B4=> ?_;obtain ⟨B1,B2,B3,B5⟩:=up4 k B1 B2 B3 B5;obtain ⟨A,X⟩:=axu2 k g4 A X;replace h:=h _ X A;refine ⟨bk1,bk2,bk3,bk4,bk5,aa,ab,ac,ad,ae,af,am,an,ao,ap,aq,ar,ag,ah,ai,aj,ak,al,am,an,ao,ax,ay,az,rfl,B1,g1,rfl,B2,g2,rfl,B3,g3,rfl,B4,g4,rfl,B5,g5, ?_⟩;iterate 10 refine nd ?_
     exact ⟨A,h⟩
    ·replace h:=h_;clear h_;refine ⟨bk1,bk2,bk3,bk4,bk5,aa,ab,ac,ad,ae,af,am,an,ao,ap,aq,ar,ag,ah,ai,aj,ak,al,au,av,aw,ax,ay,az,rfl,B1,g1,rfl,B2,g2,rfl,B3,g3,rfl,B4,g4,rfl,B5,g5, ?_⟩;iterate 10 refine nd ?_
     exact ⟨A,h⟩
  · clear h
    intro t2 t3 t4 t6 t8 t9 w_
    refine exE fun bk1=>exE fun bk2=>exE fun bk3=>exE fun bk4=>exE fun bk5=>exE fun aa=>exE fun ab=>exE fun ac=>exE fun ad=>exE fun ae=>exE fun af=>exE fun am=>exE fun an=>exE fun ao=>exE fun ap=>exE fun aq=>exE fun ar=>exE fun ag=>exE fun ah=>exE fun ai=>exE fun aj=>exE fun ak=>exE fun al=>exE fun au=>exE fun av=>exE fun aw=>exE fun ax=>exE fun ay=>exE fun az=>anE fun e_0=>anE fun B1=>anE fun g1=>anE fun e_1=>anE fun B2=>anE fun g2=>anE fun e_2=>anE fun B3=>anE fun g3=>anE fun e_3=>anE fun B4=>anE fun g4=>anE fun e_4=>anE fun B5=>anE fun g5=>anE fun n1_2=>anE fun n1_3=>anE fun n1_4=>anE fun n1_5=>anE fun n2_3=>anE fun n2_4=>anE fun n2_5=>anE fun n3_4=>anE fun n3_5=>anE fun n4_5=>anE fun A=>fun aU=> ?_
    subst e_0
    subst e_1
    subst e_2
    subst e_3
    subst e_4
    have h:=aY t2 aa ab ac ad ae af am an ao ap aq ar ag ah ai aj ak al au av aw ax ay az w_ A aU
    have X:Ext w_ w_:=Ext.refl _
    refine ut B1 ?_;refine Calls.mono h ?_;clear h;rintro e8 w12 ⟨x7,he_,a,h⟩;refine ⟨x7,he_, ?_⟩;clear he_;obtain ⟨B1,B2,B3,B4,B5⟩:=ah5 a B1 B2 B3 B4 B5;obtain ⟨A,X⟩:=axr2 a A;refine zv h (fun h_=> ?_) (fun h_=> ?_)
    ·replace h:=h_;clear h_;refine ut B2 ?_;refine s3_t B5 fun u14 k B5=> ?_;obtain ⟨B1,B2,B3,B4⟩:=up4 k B1 B2 B3 B4;obtain ⟨A,X⟩:=axu2 k g5 A X;replace h:=h _ X A;refine ⟨bk1,bk3,bk4,bk5,aa,ab,ac,ad,ae,af,ag,ah,ai,aj,ak,al,au,av,aw,ap,aq,ar,rfl,B1,g1,rfl,B3,g3,rfl,B4,g4,rfl,B5,g5, ?_⟩;iterate 6 refine nd ?_
     exact ⟨A,h⟩
    ·replace h:=h_;clear h_;refine ⟨bk1,bk3,bk4,bk5,aa,ab,ac,ad,ae,af,ag,ah,ai,aj,ak,al,au,av,aw,ax,ay,az,rfl,B1,g1,rfl,B3,g3,rfl,B4,g4,rfl,B5,g5, ?_⟩;iterate 6 refine nd ?_
     exact ⟨A,h⟩
  · clear h
    intro t2 t3 t6 t8 t9 w_
    refine exE fun bk1=>exE fun bk3=>exE fun bk4=>exE fun bk5=>exE fun aa=>exE fun ab=>exE fun ac=>exE fun ad=>exE fun ae=>exE fun af=>exE fun ag=>exE fun ah=>exE fun ai=>exE fun aj=>exE fun ak=>exE fun al=>exE fun au=>exE fun av=>exE fun aw=>exE fun ax=>exE fun ay=>exE fun az=>anE fun e_0=>anE fun B1=>anE fun g1=>anE fun e_1=>anE fun B3=>anE fun g3=>anE fun e_2=>anE fun B4=>anE fun g4=>anE fun e_3=>anE fun B5=>anE fun g5=>anE fun n1_3=>anE fun n1_4=>anE fun n1_5=>anE fun n3_4=>anE fun n3_5=>anE fun n4_5=>anE fun A=>fun aV=> ?_
    subst e_0
    subst e_1
    subst e_2
    subst e_3
    have h:=aZ t2 aa ab ac ad ae af ag ah ai aj ak al au av aw ax ay az w_ A aV
    have X:Ext w_ w_:=Ext.refl _
    refine v9 B1 ?_;refine l3_t B4 ?_;refine Calls.mono h ?_;clear h;rintro e9 w13 ⟨b6,s5,x8,x9,he_,a,h⟩;refine ⟨b6,s5,x8,x9,he_, ?_⟩;clear he_;obtain ⟨B1,B3,B4,B5⟩:=ah4 a B1 B3 B4 B5;obtain ⟨A,X⟩:=axr2 a A;refine zn fun bk6 u15 hb a _ B6=> ?_;have g6:=zj A.size hb;obtain ⟨_,_,_,_⟩:=lt4 hb B1 B3 B4 B5;obtain ⟨B1,B3,B4,B5⟩:=ah4 a B1 B3 B4 B5;obtain ⟨A,X⟩:=axa2 a A X;refine s3_t B6 fun u16 k B6=> ?_;obtain ⟨B1,B3,B4,B5⟩:=up4 k B1 B3 B4 B5;obtain ⟨A,X⟩:=axu2 k g6 A X;refine ut B1 ?_;refine l3_t B5 ?_;replace h:=h _ X A;refine Calls.mono h ?_;clear h;rintro e10 w15 ⟨b7,s6,x10,x11,he_,a,h⟩;refine ⟨b7,s6,x10,x11,he_, ?_⟩;clear he_;obtain ⟨B1,B3,B4,B5,B6⟩:=ah5 a B1 B3 B4 B5 B6;obtain ⟨A,X⟩:=axr2 a A;refine zn fun bk7 u17 hb a _ B7=> ?_;have g7:=zj A.size hb;obtain ⟨_,_,_,_,_⟩:=lt5 hb B1 B3 B4 B5 B6;obtain ⟨B1,B3,B4,B5,B6⟩:=ah5 a B1 B3 B4 B5 B6;obtain ⟨A,X⟩:=axa2 a A X;refine s3_t B7 fun u18 k B7=> ?_;obtain ⟨B1,B3,B4,B5,B6⟩:=up5 k B1 B3 B4 B5 B6;obtain ⟨A,X⟩:=axu2 k g7 A X;refine l3_t B6 ?_;refine l3_t B7 ?_;replace h:=h _ X A;refine Calls.mono h ?_;clear h;rintro e11 w17 ⟨b8,s7,x12,b9,s8,x13,x14,he_,a,h⟩;refine ⟨b8,s7,x12,b9,s8,x13,x14,he_, ?_⟩;clear he_;obtain ⟨B1,B3,B4,B5,B6,B7⟩:=ah6 a B1 B3 B4 B5 B6 B7;obtain ⟨A,X⟩:=axr2 a A;refine s6_t B3 fun u19 k B3=> ?_;obtain ⟨B1,B4,B5,B6,B7⟩:=up5 k B1 B4 B5 B6 B7;obtain ⟨A,X⟩:=axu2 k g3 A X;refine l6_t B3 ?_;replace h:=h _ X A;exact ⟨A,h⟩
theorem Dm (aa:Bool) (ab:Slc) (ac:Int) (ad:Bool) (ae:Slc) (af:Int) (ag:Bool) (ah:Slc) (ai:Int) (aj:Bool) (ak:Slc) (al:Int) (am:Int) (w:World) (R:Ending→World→Prop) (h:xw w w fun w1=>(newC w1 #[.bool aa,ab.v,vi ac,.bool ad,ae.v,vi af,.bool ag,ah.v,vi ai,.bool aj,ak.v,vi al] 50 fun ad1 w2=>kI 60 #[vi am,(⟨some ad1,2,2⟩:Slc).v] w2 fun w3 x1=>Ahead w2 w3∧(br (x1 !=0) (xw w w3 fun w4=>(R (.returned (.tuple #[uS (false) nSl (0:Int) (false) nSl (0:Int),vi x1])) w4)) (kV 75 #[uS aa ab ac ad ae af,uS ag ah ai aj ak al,vi am] w3 fun w5 b1 s1 x2 b2 s2 x3 x4=>Ahead w3 w5∧(xw w w5 fun w6=>(R (.returned (.tuple #[uS b1 s1 x2 b2 s2 x3,vi x4])) w6)))))):Calls pr 32 #[uS aa ab ac ad ae af,uS ag ah ai aj ak al,vi am] w (fun e_ w_=>Ahead w w_∧R e_ w_):=by
 refine Dn aa ab ac ad ae af ag ah ai aj ak al am w _ ?_
 ·have A:Ahead w w:=Ahead.refl w
  have X:Ext w w:=Ext.refl w
  refine zn fun bk1 u1 hb a _ B1=> ?_;have g1:=zj A.size hb;obtain ⟨A,X⟩:=axa2 a A X;refine zn fun bk2 u2 hb a _ B2=> ?_;have g2:=zj A.size hb;have l1_2:=lt1 hb B1;replace B1:=B1.ahead a;obtain ⟨A,X⟩:=axa2 a A X;refine zn fun bk3 u3 hb a _ B3=> ?_;have g3:=zj A.size hb;obtain ⟨_,_⟩:=lt2 hb B1 B2;obtain ⟨B1,B2⟩:=ah2 a B1 B2;obtain ⟨A,X⟩:=axa2 a A X;refine l6_t B1 ?_;refine l6_t B2 ?_;replace h:=h _ X A;refine tb h fun ad1 w2 a h_=> ?_;replace h:=h_;clear h_;obtain ⟨B1,B2,B3⟩:=ah3 a B1 B2 B3;obtain ⟨A,X⟩:=axr2 a A;refine Calls.mono h ?_;clear h;rintro e1 w3 ⟨x1,he_,a,h⟩;refine ⟨x1,he_, ?_⟩;clear he_;obtain ⟨B1,B2,B3⟩:=ah3 a B1 B2 B3;obtain ⟨A,X⟩:=axr2 a A;refine zv h (fun h_=> ?_) (fun h_=> ?_)
  ·replace h:=h_;clear h_;refine s6_t B3 fun u4 k B3=> ?_;obtain ⟨B1,B2⟩:=up2 k B1 B2;obtain ⟨A,X⟩:=axu2 k g3 A X;refine l6_t B3 ?_;replace h:=h _ X A;exact ⟨A,h⟩
  ·replace h:=h_;clear h_;refine l6_t B1 ?_;refine l6_t B2 ?_;refine Calls.mono h ?_;clear h;rintro e2 w5 ⟨b1,s1,x2,b2,s2,x3,x4,he_,a,h⟩;refine ⟨b1,s1,x2,b2,s2,x3,x4,he_, ?_⟩;clear he_;obtain ⟨B1,B2,B3⟩:=ah3 a B1 B2 B3;obtain ⟨A,X⟩:=axr2 a A;refine s6_t B3 fun u5 k B3=> ?_;obtain ⟨B1,B2⟩:=up2 k B1 B2;obtain ⟨A,X⟩:=axu2 k g3 A X;refine l6_t B3 ?_;replace h:=h _ X A;exact ⟨A,h⟩
end
section
open Go Go.RowKit Eng Sp Dg L2
namespace Wr
open _root_.Go.Proofs.YtbeiopoejdkheaaGreatDoor.Nat (Num Num.ahead Num.ext Num.bl xj OwnNil OwnNil.rd OwnNil.ext OwnNil.ahead zw Yes)
open _root_.Go.Proofs.YtbeiopoejdkheaaGreatDoor.Mm (RdL ixL nilS slcs fz)
open _root_.Go.Proofs.YtbeiopoejdkheaaGreatDoor.Ro (nu de bhv rdQ quQ py)
open R7
open Dy
open Sb
def Works:Prop:=∀w,Tab w→Calls pr surdtop_worksTen_id #[] w fun e w'=>Ahead w w'∧e= .returned (.bool true)
theorem ended {w:World} {w1} (hW:Works) (hT:Tab w1):Calls pr surdtop_worksTen_id #[] w1 fun e w'=>∃b:Bool,e= .returned (.bool b)∧Ahead w1 w'∧Ending.returned (Value.bool b)= .returned (.bool true):=
 Calls.mono (hW w1 hT) fun e w' ⟨h1,h2⟩=>⟨true,h2,h1,rfl⟩
end Wr
end
section
open Go Go.RowKit Eng Sp Dg
namespace Nat
def OwnI (base:Nat) (w:World) (s:Slc) (l:List Int):Prop:=(s=⟨none,0,0⟩∧l= [])∨∃b,base≤b∧s.c≤maxLen∧Owr .i64 tInt w s l b
theorem OwnI.mono {base base':Nat} {w s} {l:List Int} (h:OwnI base w s l) (hb:base'≤base):OwnI base' w s l:=by
 rcases h with h|⟨b,h1,h2,h3⟩
 ·exact .inl h
 ·exact .inr ⟨b,by omega,h2,h3⟩
theorem OwnI.nil {base:Nat} {w:World} :OwnI base w ⟨none,0,0⟩ []:= .inl ⟨rfl,rfl⟩
theorem zfm (k:IntKind) (t:TypeId) (w:World) (l:List Int):Rd k (w.alloc (.cells (ints k l).toArray t (0,0))) ⟨some ⟨w.heap.size,0,none⟩,l.length,l.length⟩ l:=
 Owr.rd (t:=t) (b:=w.heap.size) ⟨rfl, [],by simp,by rw [te];simp⟩
end Nat
end
section
open Go Go.RowKit Eng Sp Dg
namespace Fuel
open _root_.Go.Proofs.YtbeiopoejdkheaaGreatDoor.Nat (Yes Num Num.ahead Num.bl OwnNil OwnNil.rd OwnNil.ahead OwnI OwnI.mono yn n9 bigC xj)
open Sb
theorem cutHiG {k:IntKind} {t e:TypeId} (hT:isSl pr t k=some e) {w:World} {s:Slc} {h:Int} (h0:0≤h) (h1:h≤s.c) {K:Slc→World→Prop} (hk:K ⟨s.A,h.toNat,s.c⟩ w):semS pr (Instr.sliceAt t s.v none (some (.int .i64 h)) none) w fun s' w'=>K s' w':=by
 unfold semS;rw [Sem.wp_iff_run,mw hT w s h0 h1];exact ⟨_,rfl,hk⟩
structure Stp (b:Nat) (w w':World):Prop where
  bar:Bar (fun k=>k=b) w w'
  rd:∀s l,Rd .u64 w s l→Rd .u64 w' s l
theorem Stp.trans {b:Nat} {x y z} (h:Stp b x y) (k:Stp b y z):Stp b x z:=⟨h.bar.trans k.bar,fun s l hr=>k.rd s l (h.rd s l hr)⟩
end Fuel
end
section
open Go Go.RowKit Eng
theorem Up (aa:Int) (w:World) (R:Ending→World→Prop) (h:br (decide (aa≥2)) (R (.returned (.bool (decide (aa≤36)))) w) (R (.returned (.bool false)) w)):Calls pr 113 #[vi aa] w R:=by
 refine zk (fun _=>none) (by kernel_rfl) Tryz.func113 rfl ?_ ?_
 ·refine kcast h ?_;kernel_rfl
 ·exact (za rfl (ze (za rfl (ze (zg trivial)))))
end
section
open Go Go.RowKit Eng Sp Dg
namespace Bd
open _root_.Go.Proofs.YtbeiopoejdkheaaGreatDoor.Nat (Num Num.ahead OwnNil OwnNil.ahead OwnNil.mono OwnNil.nil Ret)
open Sb
def bs (s:ByteArray):List Nat:=s.data.toList.map UInt8.toNat
theorem zbp (s:ByteArray):(bs s).length=s.size:=by simp [bs]
theorem zdp {P:Program} {t:TypeId} (hT:P.underlying t=some .string) (w:World) (s:ByteArray) {i:Nat} (h:i<s.size):(Instr.index t (.string s) (.int .i64 (i:Int))).run P w= .ok (.int .u8 (((bs s).getD i 0:Nat):Int)) w:=by
 have e:s[i]? =some s[i]:=by simp [h]
 have e2:(s[i]).toNat=(bs s).getD i 0:=by
  rw [xx _ _ (by rw [zbp];exact h)]
  simp [bs];rfl
 simp [Instr.index,asIntOf,run_underlying hT,Result.andThen,e,e2]
theorem Ch {P:Program} {t:TypeId} (hT:P.underlying t=some .string) {w:World} {s:ByteArray} {i:Nat} (h:i<s.size) {K:Int→World→Prop} (hk:K (((bs s).getD i 0:Nat):Int) w):semI P .u8 (Instr.index t (.string s) (.int .i64 (i:Int))) w fun x w1=>K x w1:=by
 unfold semI
 rw [Sem.wp_iff_run,zdp hT w s h]
 exact ⟨_,rfl,hk⟩
theorem Q6 {w:World} {B:Nat} (hB:2≤B) (hB2:B≤36):Calls pr numeral_good_id #[.int .i64 (B:Int)] w fun e w'=>w'=w∧e= .returned (.bool true):=
 Up _ w _ (yz (decide_eq_true (by omega)) ⟨rfl,by simp;omega⟩)
end Bd
end
section
open Go Go.RowKit Eng
open _root_.Go.IntKind (wrap)
theorem Y5 (ab:Slc) (aa:Int) (w:World) (R:Ending→World→Prop) (h:kB 113 #[vi aa] w fun w1 b1=>(br (!b1) (R (.returned (.tuple #[.string (⟨#[]⟩:ByteArray),vi 50])) w1) (kS 115 #[ab.v,vi aa] w1 fun w2 s1=>(kS 114 #[s1.v] w2 fun w3 s2=>(semN pr (convert 143 9 s2.v) w3 fun n1 w4=>R (.returned (.tuple #[.string n1,vi 0])) w4))))):Calls pr 80 #[ab.v,vi aa] w R:=by
 refine zk (fun _=>none) (by kernel_rfl) Tryz.func80 rfl ?_ ?_
 ·refine kcast h ?_;kernel_rfl
 ·exact (za rfl (ze (za rfl (za rfl (ze (zh (za rfl (ze (zg (zi (za rfl (ze (zg trivial)))))))))))))
def Y6 (J0:Slc→Slc→Int→Int→World→Prop) (m0:Slc→Slc→Int→Int→World→Nat):Nat→Option ((Act→World→Prop)×(Act→World→Nat))
 |0=>some (fun a_ w_=>atSz a_ 23 (atS a_ 3 fun t3_b=>atS a_ 9 fun t9=>atI .i64 a_ 10 fun t10=>atI .i64 a_ 11 fun t11=>J0 t3_b t9 t10 t11 w_),fun a_ w_=>mS a_ 3 fun t3_b=>mS a_ 9 fun t9=>mI a_ 10 fun t10=>mI a_ 11 fun t11=>m0 t3_b t9 t10 t11 w_)
 |_=>none
theorem Uq (ac:Slc) (w:World) (R:Ending→World→Prop) (J0:Slc→Slc→Int→Int→World→Prop) (m0:Slc→Slc→Int→Int→World→Nat) (h:semS pr (Instr.makeSlice 143 (vi (ac.n:Int)) (vi (ac.n:Int))) w fun s1 w1=>J0 s1 ac (ac.n:Int) 0 w1) (h0:∀aa t9 t10 t11 w_,J0 aa t9 t10 t11 w_→br (decide (t11<t10)) (semA pr (Instr.indexAt 145 t9.v (vi t11)) w_ fun ad1 w2=>ldI .i64 ad1 w2 fun x1=>semI pr .u8 (Instr.index 9 (.string (⟨#[48,49,50,51,52,53,54,55,56,57,97,98,99,100,101,102,103,104,105,106,107,108,109,110,111,112,113,114,115,116,117,118,119,120,121,122]⟩:ByteArray)) (vi x1)) w2 fun x2 w3=>semA pr (Instr.indexAt 143 aa.v (vi t11)) w3 fun ad2 w4=>stC ad2 (.int .u8 x2) w4 fun w5=>J0 aa t9 t10 (wrap .i64 (t11+1)) w5∧m0 aa t9 t10 (wrap .i64 (t11+1)) w5<m0 aa t9 t10 t11 w_) (R (.returned aa.v) w_)):Calls pr 114 #[ac.v] w R:=by
 refine zk (Y6 J0 m0) (by kernel_rfl) Tryz.func114 rfl ?_ ?_
 ·refine kcast h ?_;kernel_rfl
 ·exact (za rfl (ze (za rfl (ze (za rfl (za rfl (ze (yg _ rfl (fun a_ w_ ab=>(by
  obtain ⟨af,ag,ab⟩:=ya ab
  obtain ⟨aa,ah,ab⟩:=zr ab
  obtain ⟨t9,ai,ab⟩:=zr ab
  obtain ⟨t10,ad,ab⟩:=zq ab
  obtain ⟨t11,ae,ab⟩:=zq ab
  obtain ⟨g0,rfl⟩:∃g,a_=Fr 23 [(3,aa.v),(9,t9.v),(10,vi t10),(11,vi t11)] g:=⟨_,yp af ag _ (zf ah (zf ai (zf ad (zf ae yc))))⟩
  clear af ag ah ai ad ae
  have aj:=ab
  refine ⟨(fun _=>none),kcast (h0 aa t9 t10 t11 w_ aj) ?_, ?_⟩
  ·kernel_rfl
  ·exact (za rfl (ze (za rfl (zh (zi (ye (za rfl (yh rfl (za rfl (ze (ze (ze trivial)))))))))))))) (za rfl (ze (zg trivial)))))))))))
def Un (J0:Slc→Addr→Addr→World→Prop) (m0:Slc→Addr→Addr→World→Nat) (J2:Slc→Int→World→Prop) (m2:Slc→Int→World→Nat):Nat→Option ((Act→World→Prop)×(Act→World→Nat))
 |0=>some (fun a_ w_=>atSz a_ 75 (atS a_ 0 fun t0=>atA a_ 3 fun t3=>atA a_ 5 fun t5=>J0 t0 t3 t5 w_),fun a_ w_=>mS a_ 0 fun t0=>mA a_ 3 fun t3=>mA a_ 5 fun t5=>m0 t0 t3 t5 w_)
 |2=>some (fun a_ w_=>atSz a_ 75 (atS a_ 10 fun t10=>atI .i64 a_ 11 fun t11=>J2 t10 t11 w_),fun a_ w_=>mS a_ 10 fun t10=>mI a_ 11 fun t11=>m2 t10 t11 w_)
 |_=>none
theorem T8 (a0:Slc) (a1:Int) (w:World) (R:Ending→World→Prop) (J0:Slc→Addr→Addr→World→Prop) (m0:Slc→Addr→Addr→World→Nat) (J2:Slc→Int→World→Prop) (m2:Slc→Int→World→Nat) (h:newC w #[vi a1] 3 fun ad1 w1=>kI 46 #[a0.v] w1 fun w2 x1=>(br (decide (x1≤768)) (ldI .i64 ad1 w2 fun x2=>kS 146 #[a0.v,vi x2,vi 1] w2 fun w3 s1=>(R (.returned s1.v) w3)) (kI 46 #[a0.v] w2 fun w4 x3=>(br (decide (x3>67108864)) (ldI .i64 ad1 w4 fun x4=>kS 146 #[a0.v,vi x4,vi 1] w4 fun w5 s2=>(R (.returned s2.v) w5)) (ldI .i64 ad1 w4 fun x5=>kS 84 #[.int .u64 (wrap .u64 x5)] w4 fun w6 s3=>(newC w6 #[s3.v] 23 fun ad2 w7=>newC w7 #[nSl.v] 164 fun ad3 w8=>stC ad3 ((⟨some ad2,1,1⟩:Slc).v) w8 fun w9=>J0 a0 ad1 ad3 w9)))))) (h0:∀t0 t3 t5 w_,J0 t0 t3 t5 w_→ldS t5 w_ fun s4=>ldS t5 w_ fun s5=>semA pr (Instr.indexAt 164 s4.v (vi (wrap .i64 ((s5.n:Int) -1)))) w_ fun ad4 w10=>ldS ad4 w10 fun s6=>Calls pr 147 #[s6.v] w10 fun e6 w11=>∃s7:Slc,∃x6:Int,e6= .returned (.tuple #[s7.v,vi x6])∧(br (x6 !=0) (newC w11 #[Value.nilFunc] 146 fun ad5 w12=>stC ad5 (.func (Fn.func 148) #[] #[.pointer (some t3),.pointer (some t5),.pointer (some ad5)]) w12 fun w13=>ldV ad5 w13 fun v1=>ldS t5 w13 fun s8=>callX pr v1 #[t0.v,vi (wrap .i64 ((s8.n:Int) -1))] w13 fun e7 w14=>jS e7 fun s9=>(J2 s9 0 w14)) (kI 81 #[s7.v,t0.v] w11 fun w20 x8=>(br (decide (x8>0)) (newC w20 #[Value.nilFunc] 146 fun ad7 w21=>stC ad7 (.func (Fn.func 148) #[] #[.pointer (some t3),.pointer (some t5),.pointer (some ad7)]) w21 fun w22=>ldV ad7 w22 fun v2=>ldS t5 w22 fun s14=>callX pr v2 #[t0.v,vi (wrap .i64 ((s14.n:Int) -1))] w22 fun e9 w23=>jS e9 fun s15=>(J2 s15 0 w23)) (ldS t5 w20 fun s16=>newC w20 #[s7.v] 23 fun ad8 w24=>semS pr (Builtin.append_ #[164,164] 164 #[s16.v,(⟨some ad8,1,1⟩:Slc).v]) w24 fun s17 w25=>stC t5 s17.v w25 fun w26=>J0 t0 t3 t5 w26∧m0 t0 t3 t5 w26<m0 t0 t3 t5 w_))))) (h2:∀t10 t11 w_,J2 t10 t11 w_→br (decide (t11<(wrap .i64 ((t10.n:Int) -1)))) (semA pr (Instr.indexAt 145 t10.v (vi t11)) w_ fun ad6 w15=>ldI .i64 ad6 w15 fun x7=>br (x7==0) (J2 t10 (wrap .i64 (t11+1)) w15∧m2 t10 (wrap .i64 (t11+1)) w15<m2 t10 t11 w_) (semS pr (Instr.sliceAt 145 t10.v (some (vi t11)) none none) w15 fun s10 w16=>semS pr (Builtin.append_ #[145,145] 145 #[nSl.v,s10.v]) w16 fun s11 w17=>R (.returned s11.v) w17)) (semS pr (Instr.sliceAt 145 t10.v (some (vi t11)) none none) w_ fun s12 w18=>semS pr (Builtin.append_ #[145,145] 145 #[nSl.v,s12.v]) w18 fun s13 w19=>R (.returned s13.v) w19)):Calls pr 115 #[a0.v,vi a1] w R:=by
 refine zk (Un J0 m0 J2 m2) (by kernel_rfl) Tryz.func115 rfl ?_ ?_
 ·refine kcast h ?_;kernel_rfl
 ·exact (za rfl (ze (za rfl (za rfl (ze (zh (za rfl (ze (zg (zi (za rfl (ze (za rfl (yg _ rfl (fun a_ w_ aa=>(by
  obtain ⟨ab,ac,aa⟩:=ya aa
  obtain ⟨t0,af,aa⟩:=zr aa
  obtain ⟨t3,ag,aa⟩:=yf aa
  obtain ⟨t5,ah,aa⟩:=yf aa
  obtain ⟨g0,rfl⟩:∃g,a_=Fr 75 [(0,t0.v),(3,vp t3),(5,vp t5)] g:=⟨_,yp ab ac _ (zf af (zf ag (zf ah yc)))⟩
  clear ab ac af ag ah
  have ai:=aa
  refine ⟨(fun _=>none),kcast (h0 t0 t3 t5 w_ ai) ?_, ?_⟩
  ·kernel_rfl
  ·exact (yh rfl (za rfl (ze (za rfl (ze (za rfl (za rfl (ze (zh (ye (zi (ze trivial)))))))))))))) (za rfl (ze (za rfl (ze (za rfl (ze (za rfl (ze (za rfl (yg _ rfl (fun a_ w_ aa=>(by
  obtain ⟨ab,ac,aa⟩:=ya aa
  obtain ⟨t10,ad,aa⟩:=zr aa
  obtain ⟨t11,ae,aa⟩:=zq aa
  obtain ⟨g2,rfl⟩:∃g,a_=Fr 75 [(10,t10.v),(11,vi t11)] g:=⟨_,yp ab ac _ (zf ad (zf ae yc))⟩
  clear ab ac ad ae
  have aj:=aa
  refine ⟨(fun _=>none),kcast (h2 t10 t11 w_ aj) ?_, ?_⟩
  ·kernel_rfl
  ·exact (za rfl (za rfl (ze (zh (zi (ye (yh rfl (ze trivial)))))))))) (za rfl (ze (zg trivial)))))))))))))))))))))))))))
def bw (J0:Slc→Int→Int→Slc→Int→Int→World→Prop) (m0:Slc→Int→Int→Slc→Int→Int→World→Nat) (J2:Slc→Int→Int→Slc→Int→Int→World→Int→Int→Slc→Int→Int→Slc→Int→Int→Int→World→Prop) (m2:Slc→Int→Int→Slc→Int→Int→World→Int→Int→Slc→Int→Int→Slc→Int→Int→Int→World→Nat) (J4:Int→Slc→World→Prop) (m4:Int→Slc→World→Nat) (J6:Int→Slc→World→Prop) (m6:Int→Slc→World→Nat) (J8:Slc→Slc→Int→Int→World→Prop) (m8:Slc→Slc→Int→Int→World→Nat):Nat→Option ((Act→World→Prop)×(Act→World→Nat))
 |0=>some (fun a_ w_=>atSz a_ 102 (atS a_ 0 fun t0=>atI .i64 a_ 1 fun t1=>atI .i64 a_ 2 fun t2=>atS a_ 7 fun t7=>atI .u64 a_ 8 fun t8=>atI .i64 a_ 9 fun t9=>J0 t0 t1 t2 t7 t8 t9 w_),fun a_ w_=>mS a_ 0 fun t0=>mI a_ 1 fun t1=>mI a_ 2 fun t2=>mS a_ 7 fun t7=>mI a_ 8 fun t8=>mI a_ 9 fun t9=>m0 t0 t1 t2 t7 t8 t9 w_)
 |4=>some (fun a_ w_=>atSz a_ 102 (atI .i64 a_ 2 fun t2=>atS a_ 7 fun t7=>J4 t2 t7 w_),fun a_ w_=>mI a_ 2 fun t2=>mS a_ 7 fun t7=>m4 t2 t7 w_)
 |6=>some (fun a_ w_=>atSz a_ 102 (atI .i64 a_ 2 fun t2=>atS a_ 7 fun t7=>J6 t2 t7 w_),fun a_ w_=>mI a_ 2 fun t2=>mS a_ 7 fun t7=>m6 t2 t7 w_)
 |8=>some (fun a_ w_=>atSz a_ 102 (atS a_ 13 fun t13=>atS a_ 85 fun t85=>atI .i64 a_ 86 fun t86=>atI .i64 a_ 87 fun t87=>J8 t13 t85 t86 t87 w_),fun a_ w_=>mS a_ 13 fun t13=>mS a_ 85 fun t85=>mI a_ 86 fun t86=>mI a_ 87 fun t87=>m8 t13 t85 t86 t87 w_)
 |_=>none
def fw (J0:Slc→Int→Int→Slc→Int→Int→World→Prop) (m0:Slc→Int→Int→Slc→Int→Int→World→Nat) (J2:Slc→Int→Int→Slc→Int→Int→World→Int→Int→Slc→Int→Int→Slc→Int→Int→Int→World→Prop) (m2:Slc→Int→Int→Slc→Int→Int→World→Int→Int→Slc→Int→Int→Slc→Int→Int→Int→World→Nat) (J4:Int→Slc→World→Prop) (m4:Int→Slc→World→Nat) (J6:Int→Slc→World→Prop) (m6:Int→Slc→World→Nat) (J8:Slc→Slc→Int→Int→World→Prop) (m8:Slc→Slc→Int→Int→World→Nat) (o_t0:Slc) (o_t1:Int) (o_t2:Int) (o_t7:Slc) (o_t8:Int) (o_t9:Int) (o_w_:World):Nat→Option ((Act→World→Prop)×(Act→World→Nat))
 |2=>some (fun a_ w_=>atSz a_ 102 (atI .i64 a_ 1 fun t1=>atI .i64 a_ 2 fun t2=>atS a_ 7 fun t7=>atI .u64 a_ 8 fun t8=>atI .i64 a_ 9 fun t9=>atS a_ 10 fun t10=>atI .u64 a_ 11 fun t11=>atI .i64 a_ 41 fun t41=>atI .i64 a_ 42 fun t42=>J2 o_t0 o_t1 o_t2 o_t7 o_t8 o_t9 o_w_ t1 t2 t7 t8 t9 t10 t11 t41 t42 w_),fun a_ w_=>mI a_ 1 fun t1=>mI a_ 2 fun t2=>mS a_ 7 fun t7=>mI a_ 8 fun t8=>mI a_ 9 fun t9=>mS a_ 10 fun t10=>mI a_ 11 fun t11=>mI a_ 41 fun t41=>mI a_ 42 fun t42=>m2 o_t0 o_t1 o_t2 o_t7 o_t8 o_t9 o_w_ t1 t2 t7 t8 t9 t10 t11 t41 t42 w_)
 |_=>none
theorem Z6 (a0:Slc) (a1:Int) (a2:Int) (w:World) (R:Ending→World→Prop) (J0:Slc→Int→Int→Slc→Int→Int→World→Prop) (m0:Slc→Int→Int→Slc→Int→Int→World→Nat) (J2:Slc→Int→Int→Slc→Int→Int→World→Int→Int→Slc→Int→Int→Slc→Int→Int→Int→World→Prop) (m2:Slc→Int→Int→Slc→Int→Int→World→Int→Int→Slc→Int→Int→Slc→Int→Int→Int→World→Nat) (J4:Int→Slc→World→Prop) (m4:Int→Slc→World→Nat) (J6:Int→Slc→World→Prop) (m6:Int→Slc→World→Nat) (J8:Slc→Slc→Int→Int→World→Prop) (m8:Slc→Slc→Int→Int→World→Nat) (h:Calls pr 169 #[vi a1] w fun e1 w1=>∃x1:Int,∃x2:Int,e1= .returned (.tuple #[.int .u64 x1,vi x2])∧(J0 a0 a1 a2 nSl x1 x2 w1)) (h0:∀t0 t1 t2 t7 t8 t9 w_,J0 t0 t1 t2 t7 t8 t9 w_→kI 46 #[t0.v] w_ fun w2 x3=>(br (decide (x3>0)) (Calls pr 157 #[t0.v,.int .u64 t8] w2 fun e3 w3=>∃s1:Slc,∃x4:Int,∃x5:Int,e3= .returned (.tuple #[s1.v,.int .u64 x4,vi x5])∧(br (x5 !=0) (kS 84 #[.int .u64 t8] w3 fun w4 s2=>(Calls pr 149 #[t0.v,s2.v] w4 fun e5 w5=>∃s3:Slc,∃s4:Slc,∃x6:Int,e5= .returned (.tuple #[s3.v,s4.v,vi x6])∧(J2 t0 t1 t2 t7 t8 t9 w_ t1 t2 t7 t8 t9 s3 x4 t9 0 w5))) (J2 t0 t1 t2 t7 t8 t9 w_ t1 t2 t7 t8 t9 s1 x4 t9 0 w3))) (J4 t2 t7 w2))) (h2:∀t0 t1 t2 t7 t8 t9 w_,J0 t0 t1 t2 t7 t8 t9 w_→∀ae ak an al am ad aj af ag w__,J2 t0 t1 t2 t7 t8 t9 w_ ae ak an al am ad aj af ag w__→br (decide (ag<af)) (semI pr .u64 (binOp .rem 65 (.int .u64 aj) (.int .u64 (wrap .u64 ae))) w__ fun x7 w6=>newC w6 #[vi (wrap .i64 x7)] 3 fun ad1 w7=>semS pr (Builtin.append_ #[145,145] 145 #[an.v,(⟨some ad1,1,1⟩:Slc).v]) w7 fun s5 w8=>semI pr .u64 (binOp .quo 65 (.int .u64 aj) (.int .u64 (wrap .u64 ae))) w8 fun x8 w9=>J2 t0 t1 t2 t7 t8 t9 w_ ae ak s5 al am ad x8 af (wrap .i64 (ag+1)) w9∧m2 t0 t1 t2 t7 t8 t9 w_ ae ak s5 al am ad x8 af (wrap .i64 (ag+1)) w9<m2 t0 t1 t2 t7 t8 t9 w_ ae ak an al am ad aj af ag w__) (J0 ad ae ak an al am w__∧m0 ad ae ak an al am w__<m0 t0 t1 t2 t7 t8 t9 w_)) (h4:∀t2 t7 w_,J4 t2 t7 w_→br (decide ((t7.n:Int)>0)) (semA pr (Instr.indexAt 145 t7.v (vi (wrap .i64 ((t7.n:Int) -1)))) w_ fun ad2 w10=>ldI .i64 ad2 w10 fun x9=>br (x9==0) (semS pr (Instr.sliceAt 145 t7.v none (some (vi (wrap .i64 ((t7.n:Int) -1)))) none) w10 fun s6 w11=>J4 t2 s6 w11∧m4 t2 s6 w11<m4 t2 t7 w_) (J6 t2 t7 w10)) (J6 t2 t7 w_)) (h6:∀t2 t7 w_,J6 t2 t7 w_→br (decide ((t7.n:Int)<t2)) (newC w_ #[vi 0] 3 fun ad3 w12=>semS pr (Builtin.append_ #[145,145] 145 #[t7.v,(⟨some ad3,1,1⟩:Slc).v]) w12 fun s7 w13=>J6 t2 s7 w13∧m6 t2 s7 w13<m6 t2 t7 w_) (semS pr (Instr.makeSlice 145 (vi (t7.n:Int)) (vi (t7.n:Int))) w_ fun s8 w14=>J8 s8 t7 (t7.n:Int) 0 w14)) (h8:∀t13 t85 t86 t87 w_,J8 t13 t85 t86 t87 w_→br (decide (t87<t86)) (semA pr (Instr.indexAt 145 t85.v (vi t87)) w_ fun ad4 w15=>ldI .i64 ad4 w15 fun x10=>semA pr (Instr.indexAt 145 t13.v (vi (wrap .i64 ((wrap .i64 ((t13.n:Int) -1)) -t87)))) w15 fun ad5 w16=>stC ad5 (vi x10) w16 fun w17=>J8 t13 t85 t86 (wrap .i64 (t87+1)) w17∧m8 t13 t85 t86 (wrap .i64 (t87+1)) w17<m8 t13 t85 t86 t87 w_) (R (.returned t13.v) w_)):Calls pr 146 #[a0.v,vi a1,vi a2] w R:=by
 refine zk (bw J0 m0 J2 m2 J4 m4 J6 m6 J8 m8) (by kernel_rfl) Tryz.func146 rfl ?_ ?_
 ·refine kcast h ?_;kernel_rfl
 ·exact (za rfl (ze (za rfl (ze (za rfl (ze (za rfl (yg _ rfl (fun a_ w_ aa=>(by
  obtain ⟨ab,ac,aa⟩:=ya aa
  obtain ⟨t0,aC,aa⟩:=zr aa
  obtain ⟨t1,ao,aa⟩:=zq aa
  obtain ⟨t2,ah,aa⟩:=zq aa
  obtain ⟨t7,ai,aa⟩:=zr aa
  obtain ⟨t8,ap,aa⟩:=zq aa
  obtain ⟨t9,aq,aa⟩:=zq aa
  obtain ⟨g0,rfl⟩:∃g,a_=Fr 102 [(0,t0.v),(1,vi t1),(2,vi t2),(7,t7.v),(8,Value.int .u64 t8),(9,vi t9)] g:=⟨_,yp ab ac _ (zf aC (zf ao (zf ah (zf ai (zf ap (zf aq yc))))))⟩
  clear ab ac aC ao ah ai ap aq
  have ar:=aa
  refine ⟨(fw J0 m0 J2 m2 J4 m4 J6 m6 J8 m8 t0 t1 t2 t7 t8 t9 w_),kcast (h0 t0 t1 t2 t7 t8 t9 w_ ar) ?_, ?_⟩
  ·kernel_rfl
  ·exact (za rfl (za rfl (ze (zh (zi (ye (yh rfl (za rfl (ze (za rfl (za rfl (ze (zh (ze (zi (za rfl (za rfl (ze (yg _ rfl (fun a_ w__ aa=>(by
   obtain ⟨ab,ac,aa⟩:=ya aa
   obtain ⟨ae,ao,aa⟩:=zq aa
   obtain ⟨ak,ah,aa⟩:=zq aa
   obtain ⟨an,ai,aa⟩:=zr aa
   obtain ⟨al,ap,aa⟩:=zq aa
   obtain ⟨am,aq,aa⟩:=zq aa
   obtain ⟨ad,au,aa⟩:=zr aa
   obtain ⟨aj,av,aa⟩:=zq aa
   obtain ⟨af,aw,aa⟩:=zq aa
   obtain ⟨ag,ax,aa⟩:=zq aa
   obtain ⟨g2,rfl⟩:∃g,a_=Fr 102 [(1,vi ae),(2,vi ak),(7,an.v),(8,Value.int .u64 al),(9,vi am),(10,ad.v),(11,Value.int .u64 aj),(41,vi af),(42,vi ag)] g:=⟨_,yp ab ac _ (zf ao (zf ah (zf ai (zf ap (zf aq (zf au (zf av (zf aw (zf ax yc)))))))))⟩
   clear ab ac ao ah ai ap aq au av aw ax
   have aD:=aa
   refine ⟨(fun _=>none),kcast (h2 t0 t1 t2 t7 t8 t9 w_ ar ae ak an al am ad aj af ag w__ aD) ?_, ?_⟩
   ·kernel_rfl
   ·exact (za rfl (ze (za rfl (zh (zi (ye (za rfl (yh rfl (za rfl (ze (ze (ze trivial)))))))))))))) (ze trivial)))))))))))))))))))))) (za rfl (yg _ rfl (fun a_ w_ aa=>(by
  obtain ⟨ab,ac,aa⟩:=ya aa
  obtain ⟨t2,ah,aa⟩:=zq aa
  obtain ⟨t7,ai,aa⟩:=zr aa
  obtain ⟨g4,rfl⟩:∃g,a_=Fr 102 [(2,vi t2),(7,t7.v)] g:=⟨_,yp ab ac _ (zf ah (zf ai yc))⟩
  clear ab ac ah ai
  have aE:=aa
  refine ⟨(fun _=>none),kcast (h4 t2 t7 w_ aE) ?_, ?_⟩
  ·kernel_rfl
  ·exact (za rfl (za rfl (ze (zh (zi (ye (yh rfl (ze trivial)))))))))) (za rfl (yg _ rfl (fun a_ w_ aa=>(by
  obtain ⟨ab,ac,aa⟩:=ya aa
  obtain ⟨t2,ah,aa⟩:=zq aa
  obtain ⟨t7,ai,aa⟩:=zr aa
  obtain ⟨g6,rfl⟩:∃g,a_=Fr 102 [(2,vi t2),(7,t7.v)] g:=⟨_,yp ab ac _ (zf ah (zf ai yc))⟩
  clear ab ac ah ai
  have aF:=aa
  refine ⟨(fun _=>none),kcast (h6 t2 t7 w_ aF) ?_, ?_⟩
  ·kernel_rfl
  ·exact (za rfl (za rfl (ze (zh (zi (ye (yh rfl (ze trivial)))))))))) (za rfl (ze (za rfl (za rfl (ze (yg _ rfl (fun a_ w_ aa=>(by
  obtain ⟨ab,ac,aa⟩:=ya aa
  obtain ⟨t13,ay,aa⟩:=zr aa
  obtain ⟨t85,az,aa⟩:=zr aa
  obtain ⟨t86,aA,aa⟩:=zq aa
  obtain ⟨t87,aB,aa⟩:=zq aa
  obtain ⟨g8,rfl⟩:∃g,a_=Fr 102 [(13,t13.v),(85,t85.v),(86,vi t86),(87,vi t87)] g:=⟨_,yp ab ac _ (zf ay (zf az (zf aA (zf aB yc))))⟩
  clear ab ac ay az aA aB
  have aG:=aa
  refine ⟨(fun _=>none),kcast (h8 t13 t85 t86 t87 w_ aG) ?_, ?_⟩
  ·kernel_rfl
  ·exact (za rfl (ze (za rfl (zh (zi (ye (za rfl (yh rfl (za rfl (ze (ze (ze trivial)))))))))))))) (za rfl (ze (zg trivial)))))))))))))))))))))
def Y7 (J0:Int→Int→Int→World→Prop) (m0:Int→Int→Int→World→Nat):Nat→Option ((Act→World→Prop)×(Act→World→Nat))
 |0=>some (fun a_ w_=>atSz a_ 19 (atI .i64 a_ 0 fun t0_base=>atI .u64 a_ 4 fun t4_p=>atI .i64 a_ 5 fun t5_n=>J0 t0_base t4_p t5_n w_),fun a_ w_=>mI a_ 0 fun t0_base=>mI a_ 4 fun t4_p=>mI a_ 5 fun t5_n=>m0 t0_base t4_p t5_n w_)
 |_=>none
theorem Ur (ae:Int) (w:World) (R:Ending→World→Prop) (J0:Int→Int→Int→World→Prop) (m0:Int→Int→Int→World→Nat) (h:J0 ae 1 0 w) (h0:∀aa ab ac w_,J0 aa ab ac w_→semI pr .u64 (binOp .quo 65 (.int .u64 9223372036854775808) (.int .u64 (wrap .u64 aa))) w_ fun x1 w1=>br (decide (ab≤x1)) (J0 aa (wrap .u64 (ab*(wrap .u64 aa))) (wrap .i64 (ac+1)) w1∧m0 aa (wrap .u64 (ab*(wrap .u64 aa))) (wrap .i64 (ac+1)) w1<m0 aa ab ac w_) (R (.returned (.tuple #[.int .u64 ab,vi ac])) w1)):Calls pr 169 #[vi ae] w R:=by
 refine zk (Y7 J0 m0) (by kernel_rfl) Tryz.func169 rfl ?_ ?_
 ·refine kcast h ?_;kernel_rfl
 ·exact (za rfl (ze (za rfl (ze (za rfl (yg _ rfl (fun a_ w_ ad=>(by
  obtain ⟨af,ag,ad⟩:=ya ad
  obtain ⟨aa,ah,ad⟩:=zq ad
  obtain ⟨ab,ai,ad⟩:=zq ad
  obtain ⟨ac,aj,ad⟩:=zq ad
  obtain ⟨g0,rfl⟩:∃g,a_=Fr 19 [(0,vi aa),(4,Value.int .u64 ab),(5,vi ac)] g:=⟨_,yp af ag _ (zf ah (zf ai (zf aj yc)))⟩
  clear af ag ah ai aj
  have ak:=ad
  refine ⟨(fun _=>none),kcast (h0 aa ab ac w_ ak) ?_, ?_⟩
  ·kernel_rfl
  ·exact (za rfl (za rfl (ze (zh (zi (ye (yh rfl (za rfl (ze (ze trivial)))))))))))) (za rfl (ze (zg trivial)))))))))
end
section
open Go Go.RowKit Eng Sp Dg
namespace By
section
variable {P : Program} {t e : TypeId}
def isBy (P:Program) (t:TypeId):Option TypeId:=match P.underlying t with
 |some (.slice e)=>match P.info? e with
  |some i=>match i.size,i.bytes,i.zero,P.underlying e with
   |1,1,some (.int .u8 0),some (.int .u8)=>some e
   |_,_,_,_=>none
  |none=>none
 |_=>none
theorem Y2 (h:isBy P t=some e):P.underlying t=some (.slice e)∧P.underlying e=some (.int .u8)∧∃i,P.info? e=some i∧i.size=1∧i.bytes=1∧i.zero=some (.int .u8 0):=by
 unfold isBy at h
 split at h
 ·rename_i e' hu
  split at h
  ·rename_i i hi
   split at h
   ·rename_i h1 h2 h3 h4
    obtain rfl:=Option.some.inj h
    exact ⟨hu,h4,i,hi,h1,h2,h3⟩
   ·cases h
  ·cases h
 ·cases h
theorem vg (hT:isBy P t=some e) (w:World) (s:Slc) (i:Int) (ad:Addr) (hA:s.A=some ad) (h0:0≤i) (h1:i<s.n):(Instr.indexAt t s.v (.int .i64 i)).run P w= .ok (.pointer (some (ad.add i.toNat))) w:=by
 obtain ⟨hu,_,inf,hi,hs,_⟩:=Y2 hT
 obtain ⟨A,n,c⟩:=s
 simp only at hA h1
 subst hA
 simp only [Instr.indexAt,asIntOf,Slc.v,underlying,program,Sem.run_bind,Sem.run,Result.andThen,hu,Sem.run_pure]
 simp [h0,h1,sizeOf,typeInfo,program,Sem.run,hi,hs,hu]
theorem M8 (hT:isBy P t=some e) {w:World} {s:Slc} {l:List Int} {b:Nat} (h:Owr .u8 e w s l b) {i:Int} (h0:0≤i) (h1:i<l.length) {x:Int} {K:World→Prop} (hk:∀w',Owr .u8 e w' s (l.set i.toNat x) b→(∀w0,Ahead w0 w→w0.heap.size≤b→Ahead w0 w')→w'.heap.size=w.heap.size→K w'):semA P (Instr.indexAt t s.v (.int .i64 i)) w fun ad w1=>stC ad (.int .u8 x) w1 fun w2=>K w2:=by
 unfold semA
 rw [Sem.wp_iff_run,vg hT w s i _ h.A h0 (by rw [h.n];exact h1)]
 refine ⟨_,rfl, ?_⟩
 try dsimp only
 rw [zz]
 refine ⟨⟨_,h.cell (by omega)⟩,h.frozen _,hk _ (h.set (by omega) x) (fun w0 ha hb=> ?_) (by simp [World.setCell])⟩
 exact Ahead.setCell ha hb
theorem ky (hT:isBy P t=some e) (w:World) (n c:Nat) (hnc:n≤c) (hn:c≤2^48):(Instr.makeSlice t (.int .i64 n) (.int .i64 c)).run P w= .ok (.slice (some ⟨w.heap.size,0,none⟩) n c) (w.alloc (.cells (ints .u8 (List.replicate c 0)).toArray e (0,0))):=by
 obtain ⟨hu,he,inf,hi,hs,hb,hz⟩:=Y2 hT
 have hw:IntKind.i64.wrap (n:Int)=n:=by unfold IntKind.wrap;simp [IntKind.bits,IntKind.signed];omega
 have hwc:IntKind.i64.wrap (c:Int)=c:=by unfold IntKind.wrap;simp [IntKind.bits,IntKind.signed];omega
 have hzero:(zeroValue e).run P w= .ok (.int .u8 0) w:=by simp [zeroValue,typeInfo,program,Sem.run,hi,hz]
 have hcells:(Array.range c).map (fun i=>(#[Value.int .u8 0]:Array Value)[i % 1]!)=(ints .u8 (List.replicate c 0)).toArray:=by
  apply Array.ext
  ·simp [ints]
  ·intro i h1 h2;simp [ints,Nat.mod_one]
 have c1:(decide ((c:Int)<0)||decide (((1:Nat):Int)*(c:Int)>2^48))=false:=by
  simp only [Bool.or_eq_false_iff,decide_eq_false_iff_not];omega
 have c2:decide ((n:Int)<0)=false:=by simp only [decide_eq_false_iff_not];omega
 have c3:decide ((n:Int)>(c:Int))=false:=by simp only [decide_eq_false_iff_not];omega
 have hti:(typeInfo e).run P w= .ok inf w:=by simp [typeInfo,program,Sem.run,hi]
 have hsz:(sizeOf e).run P w= .ok 1 w:=by simp [sizeOf,hti,hs]
 have hul:(underlying t).run P w= .ok (.slice e) w:=by simp [underlying,program,Sem.run,hu]
 unfold Instr.makeSlice
 simp only [Sem.run_bind,hul,Result.andThen,asInt,asIntOf,Sem.run_pure,hti,hb,hw,hwc,c1,c2,c3,Bool.or_self,if_false,Bool.false_eq_true,Int.toNat_natCast,run_askRoom,hsz,Nat.mul_one]
 by_cases h0:c=0
 ·subst h0
  simp only [if_true,Sem.run_pure,Sem.run_bind,Result.andThen,jg]
  have hr:∀f:Nat→Value,(Array.range 0).map f= #[]:=fun f=>Array.eq_empty_of_size_eq_zero (by simp)
  simp [ints,hr]
 ·simp only [h0,if_false,hzero,Sem.run_bind,Result.andThen,Sem.run_pure,Value.cells,List.size_toArray,List.length_cons,List.length_nil,Nat.zero_add,hcells,jg]
theorem mk (hT:isBy P t=some e) {w:World} {n c:Int} (h0:0≤n) (hnc:n≤c) (hn:c≤2^48) {K:Slc→World→Prop} (hk:∀s w',s.c=c.toNat→Owr .u8 e w' s (List.replicate n.toNat 0) w.heap.size→Ahead w w'→w'.heap.size=w.heap.size+1→K s w'):semS P (Instr.makeSlice t (.int .i64 n) (.int .i64 c)) w fun s w'=>K s w':=by
 obtain ⟨n,rfl⟩:=Int.eq_ofNat_of_zero_le h0
 obtain ⟨c,rfl⟩:=Int.eq_ofNat_of_zero_le (Int.le_trans h0 hnc)
 unfold semS
 rw [Sem.wp_iff_run,ky hT w n c (by omega) (by omega)]
 refine ⟨⟨_,_,_⟩,rfl,hk _ _ (by simp) ⟨by simp,ints .u8 (List.replicate (c -n) 0),by simp [ints];omega, ?_⟩ (Ahead.alloc _ _) (pz _ _)⟩
 rw [te,Int.toNat_natCast]
 unfold ints
 rw [←List.map_append,List.replicate_append_replicate,show n+(c -n)=c by omega]
theorem toText {dst:TypeId} (hT:isBy P t=some e) (hd:P.underlying dst=some .string) {w:World} {s:Slc} {l:List Int} (r:Rd .u8 w s l) (hl:0<l.length) {K:ByteArray→World→Prop} (hk:K (l.foldl (fun r n=>r.push (UInt8.ofNat n.toNat)) ByteArray.empty) w):semN P (convert t dst s.v) w fun x w'=>K x w':=by
 obtain ⟨hu,he,_⟩:=Y2 hT
 obtain ⟨ad,hA,_⟩:=r.get 0 hl
 have hsv:s.v= .slice (some ad) l.length s.c:=by rw [Slc.v,hA,r.n]
 have hload:(loadCells ad l.length).run P w= .ok (l.map (Value.int .u8)).toArray w:=by
  have:=run_loadCells_list (P:=P) (w:=w) ad (l.map (Value.int .u8)) (fun j v hj=>by
   have hj':j<l.length:=by
    have:=(List.getElem?_eq_some_iff.1 hj).1
    simpa using this
   obtain ⟨ad',e',hc⟩:=r.get j hj'
   rw [hA] at e'
   obtain rfl:=Option.some.inj e'
   rw [List.getElem?_map,List.getElem?_eq_getElem hj'] at hj
   rw [xx l 0 hj'] at hc
   obtain rfl:=Option.some.inj hj
   exact hc)
  simpa using this
 unfold semN
 rw [Sem.wp_iff_run,hsv,run_convert_bytes_string w t dst e (some ad) _ _ hu he hd,run_bytesToString w ad _ _ l hload]
 exact ⟨_,rfl,hk⟩
end
end By
namespace Wr
open _root_.Go.Proofs.YtbeiopoejdkheaaGreatDoor.Nat (Num Num.ahead Num.ext Num.bl xj OwnNil OwnNil.rd OwnNil.ext zw xe jn gn thC xc semQuo binQuo binRem)
open _root_.Go.Proofs.YtbeiopoejdkheaaGreatDoor.Bd (Q6 Ch bs)
open Sb
def L42:List Int:= [2,4,0,0,0,0,0,0,0,0,0,0,0,0,0,0,0,0]
def OI (base:Nat) (w:World) (s:Slc) (l:List Int):Prop:=(s=⟨none,0,0⟩∧l= [])∨∃b,base≤b∧s.c≤maxLen∧Owr .i64 3 w s l b
theorem OI.n {base:Nat} {w s} {l:List Int} (h:OI base w s l):s.n=l.length:=by
 rcases h with ⟨rfl,rfl⟩|⟨b,_,_,h⟩
 ·rfl
 ·exact h.n
theorem OI.ahead {base:Nat} {w w' s} {l:List Int} (h:OI base w s l) (a:Ahead w w'):OI base w' s l:=by
 rcases h with h|⟨b,h1,h2,h3⟩
 ·exact .inl h
 ·exact .inr ⟨b,h1,h2,h3.ahead a⟩
theorem OI.own {base:Nat} {w s} {l:List Int} (h:OI base w s l) (hl:l≠ []):∃b,base≤b∧s.c≤maxLen∧Owr .i64 3 w s l b:=by
 rcases h with ⟨_,h⟩|h
 ·exact absurd h hl
 ·exact h
theorem semRem {x y:Nat} {t:TypeId} {w:World} {K:Int→World→Prop} (hx:x<B64) (hy:y≠0) (h:K ((x % y:Nat):Int) w):semI pr .u64 (binOp .rem t (.int .u64 (x:Int)) (.int .u64 (y:Int))) w K:=by
 unfold semI;rw [binRem hx hy];exact ⟨_,rfl,h⟩
theorem zdu {w:World} :Calls pr numeral_word_id #[.int .i64 10] w fun e w'=>w'=w∧e= .returned (.tuple #[.int .u64 1000000000000000000, .int .i64 18]):=by
 have hB:=B64v
 refine Ur 10 w _ (fun t0 t4 t5 w'=>t0=10∧w'=w∧∃i:Nat,i≤18∧t4=((10^i:Nat):Int)∧t5=(i:Int)) (fun _ _ t5 _=>(18 -t5).toNat) ⟨rfl,rfl,0,by omega,rfl,rfl⟩ ?_
 rintro t0 t4 t5 w1 ⟨rfl,rfl,i,hi,rfl,rfl⟩
 refine semQuo (x:=9223372036854775808) (y:=10) (by omega) (by omega) ?_
 have hp:∀i,i<18→(10:Nat)^i≤100000000000000000:=fun i h=>Nat.le_trans (Nat.pow_le_pow_right (by omega) (show i≤17 by omega)) (by decide)
 refine zm (fun h=> ?_) (fun h=> ?_)
 ·have h1:=of_decide_eq_true h
  have hi':i<18:=by
   rcases Nat.lt_or_ge i 18 with h2|h2
   ·exact h2
   ·have h3:i=18:=by omega
    subst h3
    exact absurd h1 (by decide)
  have h4:=hp i hi'
  refine ⟨⟨rfl,rfl,i+1,by omega, ?_,by rw [zp (by omega) (by omega)];omega⟩,by rw [zp (by omega) (by omega)];omega⟩
  show IntKind.u64.wrap (((10^i:Nat):Int)*10)=_
  rw [xt,Nat.pow_succ]
  omega
 ·have h1:=of_decide_eq_false h
  have hi':i=18:=by
   rcases Nat.lt_or_ge i 18 with h2|h2
   ·exact absurd (show (((10^i:Nat):Int)≤((9223372036854775808/10:Nat):Int)) by have:=hp i h2;omega) h1
   ·omega
  subst hi'
  exact ⟨rfl,rfl⟩
def J2d (w:World) (t0:Slc) (t1 t2:Int) (t7:Slc) (t8 t9:Int) (w_:World) (t1' t2':Int) (t7':Slc) (t8' t9':Int) (t10':Slc) (t11' t41' t42':Int) (w':World):Prop:=
 t7.n=0∧t1'=10∧t2'=1∧t8'=1000000000000000000∧t9'=18∧t41'=18∧Ahead w w'∧t10'.n=0∧t10'.n≤t10'.c∧∃i:Nat,i≤18∧t42'=(i:Int)∧t11'=((42/10^i:Nat):Int)∧OI w.heap.size w' t7' (L42.take i)
theorem zc1 {i:Nat} (h:i<18):L42.take (i+1)=L42.take i++ [((42/10^i % 10:Nat):Int)]:=by
 have:∀i:Fin 18,L42.take (i.1+1)=L42.take i.1++ [((42/10^i.1 % 10:Nat):Int)]:=by decide
 exact this ⟨i,h⟩
theorem gc {i:Nat} (h:i≤18):(L42.take i).length=i:=by rw [List.length_take];show min i 18=i;omega
theorem zd4 {k:Nat} (h:2<k) (h2:k≤18):(L42.take k).getD (k -1) 0=0:=by
 have:∀k:Fin 19,2<k.1→(L42.take k.1).getD (k.1 -1) 0=0:=by decide
 exact this ⟨k,by omega⟩ h
theorem zbs {w a} (ha:Rd .u64 w a (nn [42])):Calls pr numeral_digits_id #[a.v, .int .i64 10, .int .i64 1] w fun e w'=>Ahead w w'∧∃s,e= .returned (Slc.v s)∧Rd .i64 w' s [4,2]:=by
 have hB:=B64v
 refine Z6 a 10 1 w _ (fun t0 t1 t2 t7 t8 t9 w'=>t1=10∧t2=1∧t8=1000000000000000000∧t9=18∧Ahead w w'∧((t7=⟨none,0,0⟩∧Rd .u64 w' t0 (nn [42]))∨(Rd .u64 w' t0 (nn [])∧OI w.heap.size w' t7 L42)))
  (fun t0 _ _ t7 _ _ _=>if t7.n=0 then 1 else 0) (J2d w) (fun _ _ _ _ _ _ _ _ _ _ _ _ _ _ _ i _=>(18 -i).toNat)
  (fun t2 t7 w'=>t2=1∧Ahead w w'∧∃k:Nat,2≤k∧k≤18∧OI w.heap.size w' t7 (L42.take k)) (fun _ t7 _=>t7.n)
  (fun t2 t7 w'=>t2=1∧Ahead w w'∧OI w.heap.size w' t7 [2,4]) (fun _ _ _=>0)
  (fun t13 t85 t86 t87 w'=>t86=2∧∃i:Nat,i≤2∧t87=(i:Int)∧∃w1 b,Ahead w w1∧Ahead w1 w'∧w1.heap.size≤b∧Rd .i64 w1 t85 [2,4]∧Owr .i64 3 w' t13 (if i=0 then [0,0] else if i=1 then [0,2] else [4,2]) b) (fun _ _ _ i _=>(2 -i).toNat)
  (Calls.mono zdu ?_) ?_ ?_ ?_ ?_ ?_
 ·rintro e w1 ⟨rfl,rfl⟩
  exact ⟨_,_,rfl,rfl,rfl,rfl,rfl,Ahead.refl _, .inl ⟨rfl,ha⟩⟩
 ·rintro t0 t1 t2 t7 t8 t9 w1 ⟨rfl,rfl,rfl,rfl,h1,⟨rfl,r⟩|⟨r,o⟩⟩
  ·have n42:Num w1 t0 42:=⟨[42],r,by simp,fun y hy=>by rw [List.mem_singleton.1 hy];omega,by simp [val]⟩
   refine Calls.mono (xe n42) ?_
   rintro e w2 ⟨rfl,rfl⟩
   have hb:0<bl 42:=vf (by omega)
   refine ⟨_,rfl,yz (decide_eq_true (by omega)) ?_⟩
   have ht:=jn (d:=1000000000000000000) r (by simp) (fun y hy=>by rw [List.mem_singleton.1 hy];omega) (by omega)
   rw [show val B64 [42]=42 by simp [val]] at ht
   have hc:thC 42 1000000000000000000=0:=by
    unfold thC;rw [if_neg (by omega),show 42/1000000000000000000=0 from rfl]
    exact xc (by rw [xm];omega)
   rw [hc] at ht
   refine Calls.mono ht ?_
   rintro e w3 ⟨h3,s,rfl,os⟩
   refine ⟨_,_,_,rfl,zt rfl ?_⟩
   try dsimp only
   rw [if_pos rfl,show 42/1000000000000000000=0 from rfl,yq] at os
   refine ⟨rfl,rfl,rfl,rfl,rfl,rfl,h1.trans h3,by rw [os.rd.n];rfl,os.rd.c,0,by omega,rfl,by rw [if_pos rfl], .inl ⟨rfl,rfl⟩⟩
  ·have n0:Num w1 t0 0:=⟨[],r,by simp,Zb,by simp [val]⟩
   refine Calls.mono (xe n0) ?_
   rintro e w2 ⟨rfl,rfl⟩
   refine ⟨_,rfl,zt (decide_eq_false (by rw [xm];omega)) ⟨rfl,h1,18,by omega,by omega,o⟩⟩
 ·rintro t0 t1 t2 t7 t8 t9 w0 _ t1' t2' t7' t8' t9' t10' t11' t41' t42' w1 ⟨hn7,rfl,rfl,rfl,rfl,rfl,h1,hn,hcn,i,hi,rfl,rfl,oi⟩
  refine zm (fun hlt=> ?_) (fun hge=> ?_)
  ·have hi':i<18:=by have:=of_decide_eq_true hlt;omega
   have hd:42/10^i≤42:=Nat.div_le_self _ _
   have ew:IntKind.u64.wrap (10:Int)=((10:Nat):Int):=rfl
   rw [ew]
   refine semRem (by omega) (by omega) ?_
   rw [zp (x:=((42/10^i % 10:Nat):Int)) (by omega) (by omega)]
   have hal:=Ahead.alloc w1 (.cells (ints .i64 [((42/10^i % 10:Nat):Int)]).toArray 3 (0,0))
   refine app (k:= .i64) (e:=3) (by kernel_rfl) (base:=w.heap.size) (l:=L42.take i) (ys:= [((42/10^i % 10:Nat):Int)]) (Nat.zfm .i64 3 w1 _) (by simp) (oi.ahead hal) (h1.trans hal).size (by rw [gc hi];simp;omega) ?_
   intro s5 w5 b5 hb5 hc5 o5 _ hah
   have h5:Ahead w w5:=hah w (h1.trans hal) fun b hb=>by
    rcases oi with ⟨rfl,_⟩|⟨b',g1,_,g3⟩
    ·cases hb
    ·rw [g3.A] at hb;cases hb;exact g1
   refine semQuo (by omega) (by omega) ?_
   rw [Nat.div_div_eq_div_mul,←Nat.pow_succ,zp (x:=(i:Int)+1) (by omega) (by omega)]
   rw [←zc1 hi'] at o5
   exact ⟨⟨hn7,rfl,rfl,rfl,rfl,rfl,h5,hn,hcn,i+1,by omega,by omega,rfl, .inr ⟨b5,hb5,hc5,o5⟩⟩,by omega⟩
  ·have hi':i=18:=by have:=of_decide_eq_false hge;omega
   subst hi'
   refine ⟨⟨rfl,rfl,rfl,rfl,h1, .inr ⟨⟨hn,hcn,fun k hk=>absurd hk (by simp)⟩,oi⟩⟩, ?_⟩
   rw [if_pos hn7,if_neg (by rw [oi.n];exact fun h=>by cases h)]
   omega
 ·rintro t2 t7 w1 ⟨rfl,h1,k,hk2,hk,o⟩
  have hn:=o.n
  rw [gc hk] at hn
  obtain ⟨b,hb,hc,ow⟩:=o.own (fun h=>by have:=gc hk;rw [h] at this;simp at this;omega)
  refine yz (decide_eq_true (by omega)) ?_
  rw [zp (by omega) (by omega)]
  refine M7 (k:= .i64) (e:=3) (by kernel_rfl) ow.rd (by omega) (by rw [gc hk];omega) ?_
  rw [show ((t7.n:Int) -1).toNat=k -1 by omega]
  rcases Nat.lt_or_ge 2 k with h2|h2
  ·rw [zd4 h2 hk]
   refine yz rfl ?_
   refine Fuel.cutHiG (k:= .i64) (e:=3) (by kernel_rfl) (by omega) (by have:=ow.rd.c;omega) ?_
   have ot:=ow.take (m:=k -1) (by rw [gc hk];omega)
   rw [List.take_take,show min (k -1) k=k -1 by omega] at ot
   rw [show ((t7.n:Int) -1).toNat=k -1 by omega]
   exact ⟨⟨rfl,h1,k -1,by omega,by omega, .inr ⟨b,hb,hc,ot⟩⟩,by show k -1<t7.n;omega⟩
  ·have:k=2:=by omega
   subst this
   refine zt rfl ⟨rfl,h1,o⟩
 ·rintro t2 t7 w1 ⟨rfl,h1,o⟩
  have hn:t7.n=2:=o.n
  refine zt (decide_eq_false (by omega)) ?_
  obtain ⟨b,hb,hc,ow⟩:=o.own (by simp)
  rw [hn]
  refine mk (k:= .i64) (e:=3) (by kernel_rfl) (by omega) (Int.le_refl _) (by omega) fun t w2 _ o2 h2 _=> ?_
  exact ⟨rfl,0,by omega,rfl,w1,_,h1,h2,Nat.le_refl _,ow.rd,o2⟩
 ·rintro t13 t85 t86 t87 w1 ⟨rfl,i,hi,rfl,w2,b,h1,h2,hb,r,o⟩
  refine zm (fun hlt=> ?_) (fun hge=> ?_)
  ·have hi':i<2:=by have:=of_decide_eq_true hlt;omega
   refine M7 (k:= .i64) (e:=3) (by kernel_rfl) (r.ahead h2) (by omega) (by simp;omega) ?_
   have hn:t13.n=2:=by rw [o.n];split<;>(try split)<;>rfl
   rw [hn]
   have hlen:(if i=0 then [0,0] else if i=1 then [0,2] else [4,2]:List Int).length=2:=by split<;>(try split)<;>rfl
   have ew:IntKind.i64.wrap (IntKind.i64.wrap (((2:Nat):Int) -1) -(i:Int))=((1 -i:Nat):Int):=by
    rw [zp (x:=((2:Nat):Int) -1) (by omega) (by omega),zp (by omega) (by omega)];omega
   rw [ew]
   refine M8 (k:= .i64) (e:=3) (by kernel_rfl) o (by omega) (by rw [hlen];omega) fun w5 o5 a5 _=> ?_
   rw [zp (x:=(i:Int)+1) (by omega) (by omega)]
   refine ⟨⟨rfl,i+1,by omega,by omega,w2,b,h1,a5 w2 h2 hb,hb,r, ?_⟩,by omega⟩
   rw [Int.toNat_natCast,Int.toNat_natCast] at o5
   have:i=0∨i=1:=by omega
   rcases this with rfl|rfl
   ·exact o5
   ·exact o5
  ·have hi':i=2:=by have:=of_decide_eq_false hge;omega
   subst hi'
   exact ⟨h1.trans h2,_,rfl,o.rd⟩
theorem ze9 {w s} (r:Rd .i64 w s [4,2]):Calls pr numeral_text_id #[s.v] w fun e w'=>Ahead w w'∧∃t,e= .returned (Slc.v t)∧Rd .u8 w' t [52,50]:=by
 have hn:s.n=2:=r.n
 refine Uq s w _ (fun t3 t9 t10 t11 w'=>t9=s∧t10=2∧∃i:Nat,i≤2∧t11=(i:Int)∧Ahead w w'∧∃b,w.heap.size≤b∧Owr .u8 5 w' t3 (if i=0 then [0,0] else if i=1 then [52,0] else [52,50]) b) (fun _ _ _ i _=>(2 -i).toNat) ?_ ?_
 ·rw [hn]
  refine By.mk (e:=5) (by kernel_rfl) (by omega) (Int.le_refl _) (by omega) fun t w2 _ o2 h2 _=> ?_
  exact ⟨rfl,rfl,0,by omega,rfl,h2,_,Nat.le_refl _,o2⟩
 ·rintro t3 t9 t10 t11 w1 ⟨rfl,rfl,i,hi,rfl,h1,b,hb,o⟩
  refine zm (fun hlt=> ?_) (fun hge=> ?_)
  ·have hi':i<2:=by have:=of_decide_eq_true hlt;omega
   refine M7 (k:= .i64) (e:=3) (by kernel_rfl) (r.ahead h1) (by omega) (by simp;omega) ?_
   rw [Int.toNat_natCast]
   have hd:([4,2]:List Int).getD i 0=((if i=0 then 4 else 2:Nat):Int):=by
    have:i=0∨i=1:=by omega
    rcases this with rfl|rfl<;>rfl
   rw [hd]
   refine Ch (by kernel_rfl) (by show (if i=0 then 4 else 2)<36;split<;>omega) ?_
   have hlen:(if i=0 then [0,0] else if i=1 then [52,0] else [52,50]:List Int).length=2:=by split<;>(try split)<;>rfl
   refine By.M8 (e:=5) (by kernel_rfl) o (by omega) (by rw [hlen];omega) fun w5 o5 a5 _=> ?_
   rw [zp (x:=(i:Int)+1) (by omega) (by omega)]
   refine ⟨⟨rfl,rfl,i+1,by omega,by omega,a5 w h1 hb,b,hb, ?_⟩,by omega⟩
   rw [Int.toNat_natCast] at o5
   have:i=0∨i=1:=by omega
   rcases this with rfl|rfl
   ·exact o5
   ·exact o5
  ·have hi':i=2:=by have:=of_decide_eq_false hge;omega
   subst hi'
   exact ⟨h1,_,rfl,o.rd⟩
theorem zc5 {w a} (ha:Rd .u64 w a (nn [42])):Calls pr numeral_Print_id #[a.v, .int .i64 10] w fun e w'=>∃(n1:ByteArray) (x3:Int),e= .returned (.tuple #[.string n1, .int .i64 x3])∧Ahead w w'∧x3=0∧n1.toList=(⟨#[52,50]⟩:ByteArray).toList:=by
 refine Y5 a 10 w _ (Calls.mono (Q6 (B:=10) (by omega) (by omega)) ?_)
 rintro e w1 ⟨rfl,rfl⟩
 refine ⟨_,rfl,zt rfl ?_⟩
 have hall:Calls pr numeral_all_id #[a.v, .int .i64 10] w1 fun e w'=>Ahead w1 w'∧∃s,e= .returned (Slc.v s)∧Rd .i64 w' s [4,2]:=by
  refine T8 a 10 w1 _ (fun _ _ _ _=>False) (fun _ _ _ _=>0) (fun _ _ _=>False) (fun _ _ _=>0) ?_ (fun _ _ _ _ h=>h.elim) (fun _ _ _ h=>h.elim)
  refine yv fun b w2 hb h2 hs2 B2=> ?_
  have r2:=ha.ahead h2
  have n42:Num w2 a 42:=⟨[42],r2,by simp,fun y hy=>by rw [List.mem_singleton.1 hy];have:=B64v;omega,by simp [val]⟩
  refine Calls.mono (xe n42) ?_
  rintro e w3 ⟨rfl,rfl⟩
  have hb2:bl 42≤6:=vw (by omega)
  refine ⟨_,rfl,yz (decide_eq_true (by omega)) (xz 0 B2 rfl (Calls.mono (zbs r2) ?_))⟩
  rintro e w4 ⟨h4,s,rfl,r4⟩
  exact ⟨_,rfl,h2.trans h4,_,rfl,r4⟩
 refine Calls.mono hall ?_
 rintro e w2 ⟨h2,s,rfl,r2⟩
 refine ⟨_,rfl,Calls.mono (ze9 r2) ?_⟩
 rintro e w3 ⟨h3,t,rfl,r3⟩
 refine ⟨_,rfl,By.toText (e:=5) (by kernel_rfl) (by kernel_rfl) r3 (by simp) ?_⟩
 refine ⟨_,_,rfl,h2.trans h3,rfl, ?_⟩
 decide+kernel
end Wr
end
section
open Go Go.RowKit Eng Sp Dg L2
namespace Wr
open _root_.Go.Proofs.YtbeiopoejdkheaaGreatDoor.Nat (Yes Num Num.ahead Num.ext Num.bl xj OwnNil OwnNil.rd OwnNil.ext OwnNil.ahead OwnNil.mono zw xe yn xk uf xf Ret.num xc gn zcb)
open _root_.Go.Proofs.YtbeiopoejdkheaaGreatDoor.Ro (nu de bhv rdQ quQ fi fy)
open _root_.Go.Proofs.YtbeiopoejdkheaaGreatDoor.Rt (isR Uj)
open Dy Sb
theorem lit1 {w:World} {x:Nat} {K:Addr→World→Prop} (h:∀ad w',Ahead w w'→Rd .u64 w' ⟨some ad,1,1⟩ (nn [x])→K ad w'):newC w #[.int .u64 (x:Int)] tU64 K:=
 h _ _ (Ahead.alloc _ _) (gn w x)
theorem num1 {w s} {x:Nat} (r:Rd .u64 w s (nn [x])) (hx:x<B64):Num w s x:=
 ⟨[x],r,by simp,zcb hx,by simp [val]⟩
theorem kk {x:Nat} (h0:x≠0) (hx:x<B64):digs B64 x= [x]:=by
 rw [tm two64 h0,Nat.mod_eq_of_lt hx,Nat.div_eq_of_lt hx,yq]
theorem Vx {w} {neg:Bool} {s1 s2} {X Y:Nat} {pos m:Int} (hT:Tab w) (h1:Num w s1 X) (h2:Num w s2 Y) (hX:bl X≤1048576) (hY:bl Y≤1048576) (hY0:Y≠0) (hp: -1048576≤pos∧pos≤1048576) (hm:0≤m∧m≤2):Calls pr rounded_Ratio_id #[.agg #[.bool neg,s1.v,s2.v], .int .i64 pos, .int .i64 m] w (DOut w (tC (rdQ m neg (nu X (0 -pos)/de Y (0 -pos)) (bhv (nu X (0 -pos)) (de Y (0 -pos)))) pos) neg (rdQ m neg (nu X (0 -pos)/de Y (0 -pos)) (bhv (nu X (0 -pos)) (de Y (0 -pos)))) pos):=by
 obtain ⟨QQ,hQQ⟩:∃QQ,QQ=rdQ m neg (nu X (0 -pos)/de Y (0 -pos)) (bhv (nu X (0 -pos)) (de Y (0 -pos))):=⟨_,rfl⟩
 rw [←hQQ]
 have wip:wi pos:=by unfold wi;omega
 refine Calls.mono (Xb neg s1 s2 pos m w (fun en w'=>∃s',en= .returned (.tuple #[.agg (c3 (if tC QQ pos=0 then nD neg QQ else false) s' (if tC QQ pos=0 then eD QQ pos else 0)), .int .i64 (tC QQ pos)])∧OwnNil w.heap.size w' s' (if tC QQ pos=0 then digs B64 (od QQ) else [])) ?_) fun en w' h=>h
 intro w1 x1 a1
 refine Calls.mono (xe (h2.ahead a1)) ?_
 rintro en w2 ⟨rfl,rfl⟩
 have hb:=vf hY0
 refine ⟨_,rfl,Ahead.refl _,zt (beq_eq_false_iff_ne.2 (by omega)) (Calls.mono (fi wip hm) ?_)⟩
 rintro en w4 ⟨rfl,rfl⟩
 refine ⟨_,rfl,Ahead.refl _,zt rfl fun w6 x6 a6=> ?_⟩
 obtain ⟨l1,r1,n1,o1,v1⟩:=h1
 obtain ⟨l2,r2,n2,o2,v2⟩:=h2
 refine Calls.mono (yn (r1.ahead a6) n1 o1) ?_
 rw [v1]
 rintro en w7 ⟨h7,t1,rfl,q1⟩
 refine ⟨_,rfl,h7,Calls.mono (yn ((r2.ahead a6).ahead h7) n2 o2) ?_⟩
 try dsimp only
 rw [v2]
 rintro en w8 ⟨h8,t2,rfl,q2⟩
 have a8:=(a6.trans h7).trans h8
 have hq:=fy (neg:=neg) (k:=0) (pos:=pos) (m:=m) (hT.ahead a8) (q1.ahead h8).rd q2.rd hX hY hY0 (by omega) (by omega)
 rw [←hQQ] at hq
 refine ⟨_,rfl,h8,Calls.mono hq ?_⟩
 rintro en w9 ⟨h9,s',rfl,o'⟩
 exact ⟨_,_,_,_,rfl,h9,fun w10 x10 a10=>⟨_,rfl,(o'.ext x10).mono a8.size⟩⟩
theorem third {m:Int} (hm:m=0∨m=1):rdQ m false (nu 1 (0 -(-4))/de 3 (0 -(-4))) (bhv (nu 1 (0 -(-4))) (de 3 (0 -(-4))))=if m=0 then 5 else 6:=by
 rcases hm with rfl|rfl<;>decide
theorem mf {x k:Nat} (h:x<2^k):bl x≤k:=vw h
theorem kc {w:World} :Calls pr span_worst_id #[.int .i64 0, .int .i64 0] w fun e w'=>w'=w∧e= .returned (.int .i64 0):=
 Mx 0 0 w _ (zt rfl (zt rfl (zt rfl ⟨rfl,rfl⟩)))
theorem qt {w:World} {b1 b2:Bool} {s1 s2:Slc} {x1 x2:Int} :Calls pr span_ends_id #[.agg #[.bool b1,s1.v, .int .i64 x1], .int .i64 0, .agg #[.bool b2,s2.v, .int .i64 x2], .int .i64 0] w fun e w'=>Ahead w w'∧e= .returned (.tuple #[.agg #[.bool b1,s1.v, .int .i64 x1, .bool b2,s2.v, .int .i64 x2], .int .i64 0]):=by
 refine Gs b1 s1 x1 0 b2 s2 x2 0 w (fun e w'=>e= .returned (.tuple #[.agg #[.bool b1,s1.v, .int .i64 x1, .bool b2,s2.v, .int .i64 x2], .int .i64 0])) fun w1 _ a1=>Calls.mono kc ?_
 rintro e w2 ⟨rfl,rfl⟩
 exact ⟨_,rfl,Ahead.refl _,zt rfl fun w4 _ _=>rfl⟩
theorem zc4 {w s1 s2} (hT:Tab w) (h1:Num w s1 1) (h2:Num w s2 3):Calls pr span_Of_id #[.agg #[.bool false,s1.v,s2.v], .int .i64 (-4)] w fun e w'=>Ahead w w'∧∃(s t:Slc) (c:Bool) (x:Int),e= .returned (.tuple #[.agg #[.bool false,s.v, .int .i64 (-4), .bool c,t.v, .int .i64 x], .int .i64 0])∧Rd .u64 w' s (nn (digs B64 5)):=by
 have e5:eD 5 (-4)= -4:=by rw [eD,if_neg (by omega),zct (by rfl)];rfl
 refine za2 false s1 s2 (-4) w (fun e w'=>∃(s t:Slc) (c:Bool) (x:Int),e= .returned (.tuple #[.agg #[.bool false,s.v, .int .i64 (-4), .bool c,t.v, .int .i64 x], .int .i64 0])∧Rd .u64 w' s (nn (digs B64 5))) fun w1 _ a1=> ?_
 have b1:bl 1≤1:=mf (by omega)
 have b3:bl 3≤2:=mf (by omega)
 have b5:bl 5≤3:=mf (by omega)
 have b6:bl 6≤3:=mf (by omega)
 refine Calls.mono (Vx (hT.ahead a1) (h1.ahead a1) (h2.ahead a1) (by omega) (by omega) (by omega) (by omega) (by omega)) ?_
 rw [third (.inl rfl),if_pos rfl,Td (by omega) (by omega)]
 rintro e w2 ⟨k2,s,rfl,o⟩
 rw [if_pos rfl] at o
 refine ⟨_,_,_,_,rfl,k2,zt rfl (zt rfl fun w5 x5 a5=> ?_)⟩
 refine Calls.mono (Vx (hT.ahead a5) (h1.ahead a5) (h2.ahead a5) (by omega) (by omega) (by omega) (by omega) (by omega)) ?_
 rw [third (.inr rfl),if_neg (by omega),Td (by omega) (by omega)]
 rintro e w6 ⟨k6,t,rfl,o'⟩
 refine ⟨_,_,_,_,rfl,k6,fun w7 x7 a7=>Calls.mono qt ?_⟩
 rintro e w8 ⟨k8,rfl⟩
 refine ⟨_,_,_,_,_,_,_,rfl,k8,fun w9 x9 a9=>⟨s,t,nD false 6,eD 6 (-4), ?_, ?_⟩⟩
 ·rw [if_pos rfl,if_pos rfl,if_pos rfl,if_pos rfl,e5];rfl
 ·have:=(((((o.ext x5).ahead k6).ext x7).ahead k8).ext x9).rd
  rwa [Pe (by rfl)] at this
theorem Hh {w} {c:Bool} {s} {x:Nat} {E:Int} (h:Num w s x):Calls pr dyadic_Sign_id #[.agg #[.bool c,s.v, .int .i64 E]] w fun e w'=>Ahead w w'∧e= .returned (.int .i64 (sgn c x)):=by
 refine Tt c s E w _ (yv fun b w1 hb h1 hs1 B1=>uu 0 B1 rfl (vj 1 B1 rfl (Calls.mono (ug (h.ahead h1)) ?_)))
 rintro e w2 ⟨h2,rfl⟩
 exact ⟨_,rfl,h1.trans h2,rfl⟩
theorem zc0 {w:World} :Calls pr ratio_Int_id #[.int .i64 5] w fun e w'=>Ahead w w'∧∃(b:Bool) (s t:Slc),e= .returned (.agg #[.bool b,s.v,t.v])∧Rd .u64 w' s (nn [5]):=by
 have hB:=B64v
 refine Gd 5 w (fun e w'=>∃(b:Bool) (s t:Slc),e= .returned (.agg #[.bool b,s.v,t.v])∧Rd .u64 w' s (nn [5])) fun w1 _ a1=> ?_
 have hOf:Calls pr whole_Of_id #[.int .i64 5] w1 fun e w'=>Ahead w1 w'∧∃s,e= .returned (.agg #[.bool false,s.v])∧Rd .u64 w' s (nn [5]):=by
  refine Dx 5 w1 (fun e w'=>∃s,e= .returned (.agg #[.bool false,s.v])∧Rd .u64 w' s (nn [5])) (zt rfl fun w4 x4 a4=> ?_)
  refine Calls.mono (xk (v:=5) (by omega)) ?_
  rintro e w5 ⟨h5,s,rfl,o⟩
  refine ⟨_,rfl,h5,fun w6 x6 a6=>⟨_,rfl, ?_⟩⟩
  have:=(o.ext x6).rd
  rwa [kk (by omega) (by omega)] at this
 refine Calls.mono hOf ?_
 rintro e w2 ⟨h2,s,rfl,r⟩
 refine ⟨_,_,rfl,h2,Calls.mono (xk (v:=1) (by omega)) ?_⟩
 rintro e w3 ⟨h3,t,rfl,o⟩
 exact ⟨_,rfl,h3,fun w4 x4 a4=>⟨_,_,_,rfl,(r.ahead h3).ext x4⟩⟩
theorem zdv {w} (hT:Tab w):Calls pr surdtop_works_id #[] w fun e w'=>Ahead w w'∧e= .returned (.bool true):=by
 have hB:=B64v
 refine Vs w (fun e w'=>e= .returned (.bool true)) ?_
 refine lit1 (x:=6) fun ad1 w1 h1 r1=>lit1 (x:=7) fun ad2 w2 h2 r2=> ?_
 have n6:=num1 (r1.ahead h2) (by omega)
 have n7:=num1 r2 (by omega)
 have d6:=kk (x:=6) (by omega) (by omega)
 have d7:=kk (x:=7) (by omega) (by omega)
 have d42:=kk (x:=42) (by omega) (by omega)
 have b42:bl 42≤6:=mf (by omega)
 refine Calls.mono (Mul.m7 n6 n7 (by rw [d6];simp) (by rw [d7];simp)) ?_
 intro e w3 hr
 obtain ⟨h3,s1,rfl,o1,_⟩:=hr.num (xc (by show bl 42≤_;omega)) (by show bl 42≤_;omega)
 refine ⟨_,_,rfl,h3,lit1 (x:=49) fun ad3 w4 h4 r4=> ?_⟩
 have b49:bl 49≤6:=mf (by omega)
 refine Calls.mono (Rt.zbk (num1 r4 (by omega)) (by omega)) ?_
 rintro e w5 ⟨h5,s2,s3,r,rfl,o2,_,hr⟩
 obtain rfl:r=7:=Uj hr ⟨by omega,by omega⟩
 refine ⟨_,_,_,rfl,h5,Calls.mono (zc5 (a:=s1) ?_) ?_⟩
 ·have:=((o1.ahead h4).ahead h5).rd
  rwa [show 6*7=42 from rfl,d42] at this
 rintro e w6 ⟨n1,x3,rfl,h6,rfl,hn⟩
 refine ⟨_,_,rfl,h6,yz rfl (yz rfl (yz rfl (yz (beq_iff_eq.2 hn) (lit1 (x:=7) fun ad4 w7 h7 r7=> ?_))))⟩
 have b7:bl 7≤3:=mf (by omega)
 refine Calls.mono (uf (xf ((o2.ahead h6).ahead h7) (by omega)) (num1 r7 (by omega))) ?_
 rintro e w8 ⟨h8,rfl⟩
 refine ⟨_,rfl,h8,yz rfl (lit1 (x:=1) fun ad5 w9 h9 r9=> ?_)⟩
 refine Calls.mono (ug (neg:=true) (num1 r9 (by omega))) ?_
 rintro e w10 ⟨h10,rfl⟩
 exact ⟨_,rfl,h10,rfl⟩
theorem j4:Works:=by
 intro w hT
 have hB:=B64v
 refine cj w (fun e w'=>e= .returned (.bool true)) ?_
 refine lit1 (x:=1) fun ad1 w1 h1 r1=>lit1 (x:=3) fun ad2 w2 h2 r2=> ?_
 refine Calls.mono (zc4 (hT.ahead (h1.trans h2)) (num1 (r1.ahead h2) (by omega)) (num1 r2 (by omega))) ?_
 rintro e w3 ⟨h3,s,t,c,x,rfl,r3⟩
 refine ⟨_,_,_,_,_,_,_,rfl,h3,fun w4 x4 a4=>Calls.mono (zdv (hT.ahead a4)) ?_⟩
 rintro e w5 ⟨h5,rfl⟩
 refine ⟨_,rfl,h5,yz rfl (yz rfl ?_)⟩
 have d5:=kk (x:=5) (by omega) (by omega)
 rw [d5] at r3
 refine Calls.mono (Hh (num1 ((r3.ext x4).ahead h5) (by omega))) ?_
 rintro e w6 ⟨h6,rfl⟩
 refine ⟨_,rfl,h6,yz rfl (yz rfl (Calls.mono zc0 ?_))⟩
 rintro e w7 ⟨h7,b4,s3,s4,rfl,r7⟩
 refine ⟨_,_,_,rfl,h7, ?_⟩
 obtain ⟨ad,hA,hc⟩:=r7.get 0 (by simp)
 unfold semA
 rw [Sem.wp_iff_run,vg (k:= .u64) (e:=tU64) (by kernel_rfl) w7 s3 0 ad hA (by omega) (by have:=r7.n;simp at this;omega)]
 exact ⟨_,rfl,rfl,_,hc,rfl⟩
end Wr
end
section
open Go Go.RowKit Eng Sp Dg L2
namespace Sm
open _root_.Go.Proofs.YtbeiopoejdkheaaGreatDoor.Nat (OwnNil Num Num.bl Num.ext Num.ahead OwnNil.mono OwnNil.ext OwnNil.rd OwnNil.ahead OwnNil.nil zw xj xf)
open Sb Dy R7
def FL:Int:= -1000
structure Dv (w:World) (n:Bool) (s:Slc) (e:Int) (K:Nat) (v:Int):Prop where
  ex:∃l,Rd .u64 w s (nn l)∧l.length*8≤140737488351232∧ok B64 l∧bl (val B64 l)≤K∧FL≤e∧e≤K∧dv (sg n (val B64 l)) e FL=v
  b:bl v.natAbs≤K
  k:K≤262144
theorem Dv.ahead {w w' n s} {e:Int} {K:Nat} {v:Int} (h:Dv w n s e K v) (a:Ahead w w'):Dv w' n s e K v:=by
 obtain ⟨⟨l,r,h2⟩,hb,hk⟩:=h;exact ⟨⟨l,r.ahead a,h2⟩,hb,hk⟩
theorem Dv.ext {w w' n s} {e:Int} {K:Nat} {v:Int} (h:Dv w n s e K v) (a:Ext w w'):Dv w' n s e K v:=by
 obtain ⟨⟨l,r,h2⟩,hb,hk⟩:=h;exact ⟨⟨l,r.ext a,h2⟩,hb,hk⟩
theorem Dv.mono {w n s} {e:Int} {K K':Nat} {v:Int} (h:Dv w n s e K v) (hk:K≤K') (hk':K'≤262144):Dv w n s e K' v:=by
 obtain ⟨⟨l,r,h1,h2,h3,h4,h5,h6⟩,hb,_⟩:=h
 exact ⟨⟨l,r,h1,h2,by omega,h4,by omega,h6⟩,by omega,hk'⟩
theorem Dv.sd {w n s} {e:Int} {K:Nat} {v:Int} (h:Dv w n s e K v):∃x,Sd w s x e∧FL≤e∧dv (sg n x) e FL=v:=by
 obtain ⟨⟨l,r,h1,h2,h3,h4,h5,h6⟩,hb,hk⟩:=h
 unfold FL at h4
 exact ⟨val B64 l,⟨xj r h2 h1,by omega,by omega,by omega⟩,by unfold FL;omega,h6⟩
theorem ke {x:Nat} {e:Int} (h:FL≤e):FL≤eD x e:=by
 have:=qv x
 unfold FL at*
 unfold eD;split<;>omega
theorem mz {n:Bool} {x:Nat} {e:Int} (h:FL≤e):dv (vz n x) (eD x e) FL=dv (sg n x) e FL:=zdx h
theorem zbn {k m x:Nat} (hx:2^k≤x) (hb:bl x≤m):k<m+1:=by
 rcases Nat.lt_or_ge k (m+1) with h|h
 ·exact h
 ·have h1:=uv x
  have h2:2^bl x≤2^k:=Nat.pow_le_pow_right (by omega) (by omega)
  omega
theorem Dv.of {w s} {Z E v:Int} {K:Nat} (hk:K≤262144) (h:Vl Z E FL v) (hb:bl v.natAbs≤K) (r:Rd .u64 w s (nn (digs B64 Z.natAbs))):Dv w (zb Z) s E K v:=by
 have h2:=h.val
 have h3:v.natAbs=Z.natAbs*2^(E -FL).toNat:=by
  rw [←h2,dv,Int.natAbs_mul];rfl
 have hz:Z.natAbs≤v.natAbs:=by rw [h3];exact Nat.le_mul_of_pos_right _ (qb _)
 have bz:=Nat.le_trans (yw hz) hb
 have lz:=zw (N:=Z.natAbs) (m:=2^13) (by omega)
 have hE:E≤K:=by
  by_cases h0:Z=0
  ·have:=h.nz.z h0;omega
  ·have h4:2^(E -FL).toNat≤v.natAbs:=by rw [h3];exact Nat.le_mul_of_pos_left _ (by omega)
   have:=zbn h4 hb
   unfold FL at this
   omega
 refine ⟨⟨_,r,by omega,yb two64 _,by rw [zu two64];exact bz,h.le,hE, ?_⟩,hb,hk⟩
 rw [zu two64,za1,h2]
theorem Vw {w n} {n':Bool} {s} {s':Slc} {e e' v v':Int} {K K':Nat} (hT:Tab w) (h:Dv w n s e K v) (h':Dv w n' s' e' K' v'):Calls pr dyadic_Compare_id #[.agg (c3 n s e), .agg (c3 n' s' e')] w fun en w'=>Ahead w w'∧en= .returned (.tuple #[.int .i64 (cmpZ v v'), .int .i64 0]):=by
 obtain ⟨x,q,f,rfl⟩:=h.sd
 obtain ⟨x',q',f',rfl⟩:=h'.sd
 have l1:=zw (N:=x) (m:=2^15) (Nat.le_trans q.b (by omega))
 have l2:=zw (N:=x') (m:=2^15) (Nat.le_trans q'.b (by omega))
 refine Calls.mono (ti hT q.num q'.num (by omega) (by omega)) ?_
 rw [q.tw q',if_pos rfl,Cd (ke f) (ke f')]
 have e1:=mz (n:=n) (x:=x) f
 have e2:=mz (n:=n') (x:=x') f'
 unfold vz at e1 e2
 rw [e1,e2]
 exact fun en w' h=>h
theorem zfv {n:Bool} {x:Nat} {e:Int} :sgn n x=cmpZ (dv (sg n x) e FL) 0:=by
 have hp:(0:Int)<((2^(e -FL).toNat:Nat):Int):=by have:=qb (e -FL).toNat;omega
 have h0:cmpZ (dv (sg n x) e FL) 0=cmpZ (sg n x) 0:=by
  have:=fm (a:=sg n x) (b:=0) hp
  rw [Int.zero_mul] at this
  exact this
 rw [h0]
 unfold sgn cmpZ sg
 by_cases hx:x=0
 ·subst hx;cases n<;>simp
 ·cases n
  ·simp [hx]
  ·simp [hx]
theorem gd {w n s} {e v:Int} {K:Nat} (h:Dv w n s e K v):Calls pr dyadic_Sign_id #[.agg (c3 n s e)] w fun en w'=>Ahead w w'∧en= .returned (.int .i64 (cmpZ v 0)):=by
 obtain ⟨x,q,f,rfl⟩:=h.sd
 rw [←zfv]
 exact Wr.Hh q.num
def AV (K:Nat) (P:Int→Prop) (en:Ending) (w':World):Prop:=∃n s e v,en= .returned (.tuple #[.agg (c3 n s e), .int .i64 0])∧Dv w' n s e K v∧P v
theorem zbd {w n} {n':Bool} {s} {s':Slc} {e e' v v':Int} {K:Nat} (hT:Tab w) (h:Dv w n s e K v) (h':Dv w n' s' e' K v') (hK:K+1≤262144):Calls pr dyadic_Add_id #[.agg (c3 n s e), .agg (c3 n' s' e')] w fun en w'=>Ahead w w'∧AV (K+1) (· =v+v') en w':=by
 have hb:=h.b
 have hb':=h'.b
 obtain ⟨x,q,f,rfl⟩:=h.sd
 obtain ⟨x',q',f',rfl⟩:=h'.sd
 refine Calls.mono (zbe hT q q') ?_
 rintro en w1 ⟨h1,Z,s1,E,rfl,_,r,hP⟩
 have hv:=hP FL (by unfold FL;omega) (ke f) (ke f')
 rw [mz f,mz f'] at hv
 refine ⟨h1,_,_,_,_,rfl,Dv.of hK hv ?_ r,rfl⟩
 exact Nat.le_trans (yw (Int.natAbs_add_le _ _)) (gh hb hb')
def HX:Nat:=(-500 -FL).toNat
theorem Tr {z e:Int} (h: -500≤e):dv z e FL=dv z e (-500)*((2^HX:Nat):Int):=by
 show z*_=z*_*_
 rw [Int.mul_assoc,←Int.natCast_mul,←Nat.pow_add]
 congr 3
 unfold HX FL;omega
def S1000:Nat:=2^(HX+HX)
theorem ju:0<S1000:=qb _
theorem S500:((2^HX:Nat):Int)*((2^HX:Nat):Int)=(S1000:Int):=by
 rw [←Int.natCast_mul,←Nat.pow_add];rfl
theorem zd3 {w n} {n':Bool} {s} {s':Slc} {e e' v v':Int} {K:Nat} (hT:Tab w) (h:Dv w n s e K v) (h':Dv w n' s' e' K v') (he: -500≤e) (he': -500≤e') (hK:2*K≤262144):Calls pr dyadic_Mul_id #[.agg (c3 n s e), .agg (c3 n' s' e')] w fun en w'=>Ahead w w'∧AV (2*K) (fun u=>u*(S1000:Int)=v*v') en w':=by
 have hb:=h.b
 have hb':=h'.b
 obtain ⟨x,q,f,rfl⟩:=h.sd
 obtain ⟨x',q',f',rfl⟩:=h'.sd
 refine Calls.mono (zaa hT q q') ?_
 rintro en w1 ⟨h1,Z,s1,E,rfl,_,r,hP⟩
 have g1: -500≤eD x e:=by unfold eD;split<;>omega
 have g2: -500≤eD x' e':=by unfold eD;split<;>omega
 have hv:=hP (-500) (-500) (by omega) (by omega) g1 g2
 have hval:dv (vz n x) (eD x e) (-500)*dv (vz n' x') (eD x' e') (-500)*(S1000:Int)=dv (sg n x) e FL*dv (sg n' x') e' FL:=by
  rw [←mz f,←mz f',Tr g1,Tr g2,←S500]
  ac_rfl
 refine ⟨h1,_,_,_,_,rfl,Dv.of hK (show Vl Z E FL _ from hv) ?_ r,hval⟩
 have hle:(dv (vz n x) (eD x e) (-500)*dv (vz n' x') (eD x' e') (-500)).natAbs≤(dv (sg n x) e FL*dv (sg n' x') e' FL).natAbs:=by
  rw [←hval,Int.natAbs_mul (_*_)]
  exact Nat.le_mul_of_pos_right _ ju
 refine Nat.le_trans (yw hle) ?_
 rw [Int.natAbs_mul]
 exact Nat.le_trans nh (by omega)
end Sm
end
section
open Go Go.RowKit Eng Sp Dg L2
namespace Sm
open _root_.Go.Proofs.YtbeiopoejdkheaaGreatDoor.Nat (OwnNil Num Num.bl Num.ext Num.ahead OwnNil.mono OwnNil.ext OwnNil.rd OwnNil.ahead OwnNil.nil zw xj xf)
open Sb Dy R7
theorem M5 {w w' ng} {X:Nat} {E v:Int} {K:Nat} {en:Ending} {P:Int→Prop} (h:DOut w 0 ng X E en w') (hE:FL≤E) (hv:dv (sg ng X) E FL=v) (hb:bl v.natAbs≤K) (hk:K≤262144) (hP:P v):Ahead w w'∧AV K P en w':=by
 obtain ⟨h1,s,rfl,o⟩:=h
 rw [if_pos rfl] at o
 rw [if_pos rfl,if_pos rfl]
 have hz:=(NF.of ng X E).zb
 have hvl:Vl (sg (nD ng X) (od X)) (eD X E) FL v:=Vl.told hE (by unfold FL;omega) hv
 refine ⟨h1,_,_,_,v,rfl, ?_,hP⟩
 have:=Dv.of (w:=w') (s:=s) hk hvl hb (by rw [qa];exact o.rd)
 rwa [hz] at this
theorem Qx {w} {ng:Bool} {s} {X:Nat} {E v:Int} {K:Nat} (hT:Tab w) (h:Num w s X) (hX:bl X≤67108864) (hE:FL≤E) (hE':E≤268435456) (hv:dv (sg ng X) E FL=v) (hb:bl v.natAbs≤K) (hk:K≤262144):Calls pr dyadic_told_id #[.agg (c2 ng s), .int .i64 E] w fun en w'=>Ahead w w'∧AV K (· =v) en w':=by
 have hE0:=hE
 unfold FL at hE
 refine Calls.mono (pj hT h (by omega)) ?_
 rw [f9 hX (by omega)]
 exact fun en w' hd=>M5 hd hE0 hv hb hk rfl
theorem ft {a b T:Int} (h:a≤b) (hT:0≤T):a*T≤b*T:=Int.mul_le_mul_of_nonneg_right h hT
theorem Zf {ng:Bool} {N:Nat} {e pos m:Int} (hm:m=0∨m=1) (hN:N=0∨N % 2=1) (he:FL≤e) (hp:FL≤pos):(m=0→dv (sg ng (rX ng N e pos m)) (rE N e pos) FL≤dv (sg ng N) e FL)∧(m=1→dv (sg ng N) e FL≤dv (sg ng (rX ng N e pos m)) (rE N e pos) FL)∧(dv (sg ng (rX ng N e pos m)) (rE N e pos) FL).natAbs≤(dv (sg ng N) e FL).natAbs+2^(pos -FL).toNat:=by
 unfold rX rE
 by_cases hc:N=0∨pos≤e
 ·rw [if_pos hc,if_pos hc]
  exact ⟨fun _=>Int.le_refl _,fun _=>Int.le_refl _,Nat.le_add_right _ _⟩
 ·rw [if_neg hc,if_neg hc]
  have hodd:N % 2=1:=by rcases hN with h|h;exact absurd (.inl h) hc;exact h
  have hgap:0<(pos -e).toNat:=by omega
  have hT:(0:Int)≤((2^(e -FL).toNat:Nat):Int):=Int.natCast_nonneg _
  have hpw:(2:Nat)^(pos -FL).toNat=2^(pos -e).toNat*2^(e -FL).toNat:=by rw [←Nat.pow_add];congr 1;omega
  have hG0:=qb (pos -e).toNat
  have hdn:=zc9 (neg:=ng) hodd hgap
  have hup:=zfx (neg:=ng) hodd hgap
  unfold dv
  rw [hpw]
  generalize sg ng N=z at*
  generalize 2^(e -FL).toNat=T at*
  generalize 2^(pos -e).toNat=G at*
  have hGi:(0:Int)<(G:Int):=by omega
  have hdm:=Int.emod_add_mul_ediv z (G:Int)
  have hm0:=Int.emod_nonneg z (show (G:Int)≠0 by omega)
  have hm1:=Int.emod_lt_of_pos z hGi
  rcases hm with rfl|rfl
  ·rw [←hdn]
   generalize z/(G:Int)=q at*
   generalize z % (G:Int)=r at*
   have e1:q*(((G*T:Nat)):Int)=(G:Int)*q*(T:Int):=by rw [Int.natCast_mul,←Int.mul_assoc,Int.mul_comm q]
   have a1:(G:Int)*q*(T:Int)≤z*T:=ft (by omega) hT
   have a2:z*(T:Int)≤((G:Int)*q+G)*T:=ft (by omega) hT
   rw [Int.add_mul] at a2
   have e2:(((G*T:Nat)):Int)=(G:Int)*(T:Int):=Int.natCast_mul _ _
   refine ⟨fun _=>by rw [e1];exact a1,fun h=>by omega, ?_⟩
   rw [e1];omega
  ·rw [←hup]
   generalize z/(G:Int)=q at*
   generalize hr:z % (G:Int)=r at*
   generalize hcc:(if r≠0 then (1:Int) else 0)=c at*
   have hc1:z≤(G:Int)*(q+c)∧(G:Int)*(q+c)≤z+G:=by
    rw [Int.mul_add]
    by_cases hr0:r=0
    ·rw [if_neg (by simpa using hr0)] at hcc
     subst hcc;omega
    ·rw [if_pos hr0] at hcc
     subst hcc;omega
   generalize q+c=q at*
   have e1:q*(((G*T:Nat)):Int)=(G:Int)*q*(T:Int):=by rw [Int.natCast_mul,←Int.mul_assoc,Int.mul_comm q]
   have a1:z*(T:Int)≤(G:Int)*q*(T:Int):=ft hc1.1 hT
   have a2:(G:Int)*q*(T:Int)≤(z+G)*T:=ft hc1.2 hT
   rw [Int.add_mul] at a2
   have e2:(((G*T:Nat)):Int)=(G:Int)*(T:Int):=Int.natCast_mul _ _
   refine ⟨fun h=>by omega,fun _=>by rw [e1];exact a1, ?_⟩
   rw [e1];omega
theorem zfr {neg:Bool} {n:Nat} {e pos m:Int} :rX neg n e pos m≤n+1:=by
 have:=Nat.div_le_self n (2^(pos -e).toNat)
 unfold rX rq;split<;>(try split)<;>omega
theorem zf6 (x:Nat):od x=0∨od x % 2=1:=by
 by_cases h:x=0
 ·exact .inl (by rw [h,vq])
 ·exact .inr (Us h)
theorem Ha {w n s} {e v pos m:Int} {K:Nat} (hT:Tab w) (h:Dv w n s e K v) (hp: -150≤pos∧pos≤50) (hm:m=0∨m=1) (hK:1100≤K) (hK':K+1≤262144):Calls pr dyadic_Round_id #[.agg (c3 n s e), .int .i64 pos, .int .i64 m] w fun en w'=>Ahead w w'∧AV (K+1) (fun u=>(m=0→u≤v)∧(m=1→v≤u)) en w':=by
 have hb:=h.b
 obtain ⟨x,q,f,rfl⟩:=h.sd
 have l1:=zw (N:=x) (m:=2^15) (Nat.le_trans q.b (by omega))
 have hfe:=ke (x:=x) f
 have hbo:=q.od
 have heD:=q.eD
 have hval:=mz (n:=n) (x:=x) f
 obtain ⟨v1,v2,v3⟩:=Zf (ng:=nD n x) (N:=od x) (e:=eD x e) (pos:=pos) hm (zf6 x) hfe (by unfold FL;omega)
 have hle:=zfr (neg:=nD n x) (n:=od x) (e:=eD x e) (pos:=pos) (m:=m)
 have hbX:bl (rX (nD n x) (od x) (eD x e) pos m)≤1048577:=Nat.le_trans (yw hle) (gh hbo (Nat.le_trans (vw (k:=1) (by omega)) (by omega)))
 have hrE:FL≤rE (od x) (eD x e) pos∧rE (od x) (eD x e) pos≤4194304:=by
  unfold rE;unfold FL at*;split<;>omega
 have hq0:=q.e0
 have hq1:=q.e1
 refine Calls.mono (zac hT q.num (by omega)) ?_
 rw [zfs (by unfold wi;omega) (by unfold wi;omega) (by unfold okM;omega),f9 (by omega) (by have:=hrE.1;unfold FL at this;omega)]
 have hvz:dv (sg (nD n x) (od x)) (eD x e) FL=dv (sg n x) e FL:=hval
 rw [hvz] at v1 v2 v3
 refine fun en w' hd=>M5 hd hrE.1 rfl ?_ hK' ⟨v1,v2⟩
 refine Nat.le_trans (yw v3) (gh hb ?_)
 refine Nat.le_trans (vw (k:=(pos -FL).toNat+1) ?_) (by unfold FL;omega)
 rw [Nat.pow_succ]
 have:=qb (pos -FL).toNat
 omega
theorem zc6 {w n s} {e v:Int} {K:Nat} (hT:Tab w) (h:Dv w n s e K v):Calls pr dyadic_Scale_id #[.agg (c3 n s e), .int .i64 0] w fun en w'=>Ahead w w'∧AV K (· =v) en w':=by
 have hb:=h.b
 have hk:=h.k
 obtain ⟨x,q,f,rfl⟩:=h.sd
 have hfe:=ke (x:=x) f
 have heD:=q.eD
 have hq0:=q.e0
 have hq1:=q.e1
 refine Calls.mono (zae hT q.num) ?_
 have hc:scC x e 0=0:=by
  rw [scC,if_pos (by unfold wi;omega),if_pos (by unfold wi;omega)]
  exact f9 (Nat.le_trans q.od (by omega)) (by omega)
 rw [hc,Int.add_zero]
 exact fun en w' hd=>M5 hd hfe (mz f) hb hk rfl
theorem Cn {w n s} {e v:Int} {K:Nat} (hT:Tab w) (h:Dv w n s e K v):Calls pr span_norm_id #[.agg (c3 n s e)] w fun en w'=>Ahead w w'∧AV K (· =v) en w':=by
 refine Gv n s e w (AV K (· =v)) fun w1 x1 a1=>Calls.mono (zc6 (hT.ahead a1) (h.ahead a1)) ?_
 rintro en w2 ⟨h2,n',s',e',v',rfl,hd,hv⟩
 exact ⟨_,_,_,_,rfl,h2,fun w3 x3 a3=>⟨_,_,_,_,rfl,hd.ext x3,hv⟩⟩
theorem Dv.neg {w n s} {e v:Int} {K:Nat} (h:Dv w n s e K v):Dv w (!n) s e K (-v):=by
 obtain ⟨⟨l,r,h1,h2,h3,h4,h5,h6⟩,hb,hk⟩:=h
 refine ⟨⟨l,r,h1,h2,h3,h4,h5, ?_⟩,by rw [Int.natAbs_neg];exact hb,hk⟩
 rw [U3,zfe,h6]
theorem Dv.abs {w n s} {e v:Int} {K:Nat} (h:Dv w n s e K v):Dv w false s e K (v.natAbs:Int):=by
 obtain ⟨⟨l,r,h1,h2,h3,h4,h5,h6⟩,hb,hk⟩:=h
 refine ⟨⟨l,r,h1,h2,h3,h4,h5, ?_⟩,by simpa using hb,hk⟩
 rw [←h6,dv,dv,Int.natAbs_mul,qa]
 show ((val B64 l:Nat):Int)*_=_
 rw [Int.natCast_mul];rfl
theorem mq {w:World} {n:Bool} {s:Slc} {e:Int} :Calls pr span_turned_id #[.agg (c3 n s e)] w fun en w'=>Ahead w w'∧en= .returned (.agg (c3 (!n) s e)):=
 Qr n s e w (fun en w'=>en= .returned (.agg (c3 (!n) s e))) fun w1 x1 a1=>rfl
theorem Cz {w:World} {n:Bool} {s:Slc} {e:Int} :Calls pr span_size_id #[.agg (c3 n s e)] w fun en w'=>Ahead w w'∧en= .returned (.agg (c3 false s e)):=
 Gx n s e w (fun en w'=>en= .returned (.agg (c3 false s e))) fun w1 x1 a1=>rfl
theorem qs {w n s} {e v:Int} {K:Nat} (h:Dv w n s e K v):Calls pr surdtop_dyadicOf_id #[.agg (c3 n s e)] w fun en w'=>Ahead w w'∧RA v S1000 2097152 en w':=by
 obtain ⟨⟨l,r,h1,h2,h3,h4,h5,h6⟩,hb,hk⟩:=h
 unfold FL at h4
 refine Calls.mono (Hq r h1 h2 (by omega) (by omega)) ?_
 rintro en w' ⟨g1,b,x,y,rfl,hr⟩
 refine ⟨g1,b,x,y,rfl,hr.conv ju ?_⟩
 rw [←h6]
 show sg n (val B64 l)*_*_=sg n (val B64 l)*_*_
 rw [Int.mul_assoc,Int.mul_assoc,←Int.natCast_mul,←Int.natCast_mul,S1000,←Nat.pow_add,←Nat.pow_add]
 congr 3
 unfold HX FL;omega
end Sm
end
section
open Go Go.RowKit Eng Sp Dg L2
namespace Sm
open Sb Dy R7
def c6 (n1:Bool) (s1:Slc) (e1:Int) (n2:Bool) (s2:Slc) (e2:Int):Array Value:= #[.bool n1,s1.v, .int .i64 e1, .bool n2,s2.v, .int .i64 e2]
structure Sv (w:World) (n1:Bool) (s1:Slc) (e1:Int) (n2:Bool) (s2:Slc) (e2:Int) (K:Nat) (lo hi:Int):Prop where
  a:Dv w n1 s1 e1 K lo
  b:Dv w n2 s2 e2 K hi
  le:lo≤hi
theorem Sv.ahead {w w' n1 s1} {e1:Int} {n2 s2} {e2:Int} {K:Nat} {lo hi:Int} (h:Sv w n1 s1 e1 n2 s2 e2 K lo hi) (x:Ahead w w'):Sv w' n1 s1 e1 n2 s2 e2 K lo hi:=⟨h.a.ahead x,h.b.ahead x,h.le⟩
theorem Sv.ext {w w' n1 s1} {e1:Int} {n2 s2} {e2:Int} {K:Nat} {lo hi:Int} (h:Sv w n1 s1 e1 n2 s2 e2 K lo hi) (x:Ext w w'):Sv w' n1 s1 e1 n2 s2 e2 K lo hi:=⟨h.a.ext x,h.b.ext x,h.le⟩
theorem Sv.mono {w n1 s1} {e1:Int} {n2 s2} {e2:Int} {K K':Nat} {lo hi:Int} (h:Sv w n1 s1 e1 n2 s2 e2 K lo hi) (hk:K≤K') (hk':K'≤262144):Sv w n1 s1 e1 n2 s2 e2 K' lo hi:=⟨h.a.mono hk hk',h.b.mono hk hk',h.le⟩
def AS (K:Nat) (P:Int→Int→Prop) (en:Ending) (w':World):Prop:=∃n1 s1 e1 n2 s2 e2 lo hi,en= .returned (.tuple #[.agg (c6 n1 s1 e1 n2 s2 e2), .int .i64 0])∧Dv w' n1 s1 e1 K lo∧Dv w' n2 s2 e2 K hi∧P lo hi
theorem AS.ext {K:Nat} {P:Int→Int→Prop} {en:Ending} {w w'} (h:AS K P en w) (X:Ext w w'):AS K P en w':=by
 obtain ⟨n1,s1,e1,n2,s2,e2,lo,hi,rfl,h1,h2,h3⟩:=h;exact ⟨n1,s1,e1,n2,s2,e2,lo,hi,rfl,h1.ext X,h2.ext X,h3⟩
theorem Yx {w n1 s1} {e1:Int} {n2 s2} {e2:Int} {K:Nat} {lo hi:Int} (hT:Tab w) (h:Sv w n1 s1 e1 n2 s2 e2 K lo hi):Calls pr span_check_id #[.agg (c6 n1 s1 e1 n2 s2 e2)] w fun en w'=>Ahead w w'∧en= .returned (.int .i64 0):=by
 refine Mr n1 s1 e1 n2 s2 e2 w (fun en w'=>en= .returned (.int .i64 0)) fun w1 x1 a1=>Calls.mono (Vw (hT.ahead a1) (h.a.ahead a1) (h.b.ahead a1)) ?_
 rintro en w2 ⟨h2,rfl⟩
 exact ⟨_,_,rfl,h2,yz rfl (zt (decide_eq_false (fun q=>by have:=qr.1 q;have:=h.le;omega)) rfl)⟩
def isS6 (P:Program) (t:TypeId):Bool:=match P.underlying t with
 |some (.slice e)=>match P.info? e with
  |some i=>i.size==6
  |none=>false
 |_=>false
theorem ze1 {P:Program} {t:TypeId} (hT:isS6 P t=true) (w:World) {b m c i:Nat} (h1:i<m):(Instr.indexAt t (Slc.v ⟨some ⟨b,0,none⟩,m,c⟩) (.int .i64 (i:Int))).run P w= .ok (.pointer (some ⟨b,6*i,none⟩)) w:=by
 unfold isS6 at hT
 split at hT
 ·rename_i e hu
  split at hT
  ·rename_i inf hi
   have hs:inf.size=6:=by simpa using hT
   have e1:(⟨b,0,none⟩:Addr).add (i*6)=⟨b,6*i,none⟩:=by rw [zz,Nat.mul_comm]
   simp only [Instr.indexAt,asIntOf,Slc.v,underlying,program,Sem.run_bind,Sem.run,Result.andThen,hu,Sem.run_pure]
   simp [h1,show (i:Int)<(m:Int) by omega,show (0:Int)≤(i:Int) by omega,sizeOf,typeInfo,program,Sem.run,hi,hs,hu,e1]
  ·cases hT
 ·cases hT
theorem tj {b i j:Nat} :(⟨b,i,none⟩:Addr).add j=⟨b,i+j,none⟩:=by
 unfold Addr.add;split
 ·rename_i h;subst h;rfl
 ·rfl
def SpAt (w:World) (cs:Array Value) (i:Nat):Prop:=∃n1 s1 e1 n2 s2 e2 K lo hi,cs[6*i]? =some (.bool n1)∧cs[6*i+1]? =some (Slc.v s1)∧cs[6*i+2]? =some (.int .i64 e1)∧
 cs[6*i+3]? =some (.bool n2)∧cs[6*i+4]? =some (Slc.v s2)∧cs[6*i+5]? =some (.int .i64 e2)∧Sv w n1 s1 e1 n2 s2 e2 K lo hi
theorem SpAt.ahead {w w'} {cs:Array Value} {i:Nat} (h:SpAt w cs i) (a:Ahead w w'):SpAt w' cs i:=by
 obtain ⟨n1,s1,e1,n2,s2,e2,K,lo,hi,h1,h2,h3,h4,h5,h6,h7⟩:=h
 exact ⟨n1,s1,e1,n2,s2,e2,K,lo,hi,h1,h2,h3,h4,h5,h6,h7.ahead a⟩
theorem mm {w} {b m:Nat} {cs:Array Value} {pos:Int} (hT:Tab w) (B:Blk w b cs) (hm:m≤1000) (hs:∀i,i<m→SpAt w cs i) (hp: -150≤pos∧pos≤50):Calls pr span_checks_id #[.int .i64 pos,Slc.v ⟨some ⟨b,0,none⟩,m,m⟩] w fun en w'=>Ahead w w'∧en= .returned (.int .i64 0):=by
 refine Qi pos ⟨some ⟨b,0,none⟩,m,m⟩ w (fun en w'=>en= .returned (.int .i64 0)) (fun t0 t8 t9 t10 w'=>t0=pos∧t8=⟨some ⟨b,0,none⟩,m,m⟩∧t9=(m:Int)∧∃i:Nat,t10=(i:Int)∧i≤m) (fun _ _ _ i _=>((m:Int) -i).toNat) ⟨rfl,rfl,rfl,0,rfl,by omega⟩ ?_
 rintro t0 t8 t9 t10 w1 a1 ⟨rfl,rfl,rfl,i,rfl,hi⟩
 refine zm (fun hlt=> ?_) (fun hge=>zt (decide_eq_false (by omega)) (zt (decide_eq_false (by omega)) rfl))
 have hi':i<m:=by have:=of_decide_eq_true hlt;omega
 have B1:=B.ahead a1
 obtain ⟨n1,s1,e1,n2,s2,e2,K,lo,hi2,c1,c2,c3',c4,c5,c6',hv⟩:=(hs i hi').ahead a1
 unfold semA
 rw [Sem.wp_iff_run,ze1 (by kernel_rfl) w1 hi']
 refine ⟨_,rfl,rfl,uu (6*i) B1 c1 (vj (6*i+1) B1 c2 (xz (6*i+2) B1 c3' (uu (6*i+3) B1 c4 (vj (6*i+4) B1 c5 (xz (6*i+5) B1 c6' ?_ tj) tj) tj) tj) tj) rfl⟩
 intro w2 x2 a2
 refine Calls.mono (Yx (hT.ahead a2) (hv.ext x2)) ?_
 rintro en w3 ⟨h3,rfl⟩
 refine ⟨_,rfl,h3,zt rfl ?_⟩
 try dsimp only
 rw [zp (x:=(i:Int)+1) (by omega) (by omega)]
 exact ⟨⟨rfl,rfl,rfl,i+1,by omega,by omega⟩,by omega⟩
theorem fd {w n1 s1} {e1:Int} {n2 s2} {e2:Int} {n3:Bool} {s3:Slc} {e3:Int} {n4:Bool} {s4:Slc} {e4:Int} {K:Nat} {lo hi lo' hi':Int} (h:Sv w n1 s1 e1 n2 s2 e2 K lo hi) (h':Sv w n3 s3 e3 n4 s4 e4 K lo' hi'):∀i,i<2→SpAt w #[.bool n1,s1.v, .int .i64 e1, .bool n2,s2.v, .int .i64 e2, .bool n3,s3.v, .int .i64 e3, .bool n4,s4.v, .int .i64 e4] i:=by
 intro i hi2
 have:i=0∨i=1:=by omega
 rcases this with rfl|rfl
 ·exact ⟨n1,s1,e1,n2,s2,e2,K,lo,hi,rfl,rfl,rfl,rfl,rfl,rfl,h⟩
 ·exact ⟨n3,s3,e3,n4,s4,e4,K,lo',hi',rfl,rfl,rfl,rfl,rfl,rfl,h'⟩
theorem fx {w n1 s1} {e1:Int} {n2:Bool} {s2:Slc} {e2:Int} {K:Nat} {lo hi pos:Int} (hT:Tab w) (h:Dv w n1 s1 e1 K lo) (h':Dv w n2 s2 e2 K hi) (hp: -150≤pos∧pos≤50) (hK:1100≤K) (hK':K+1≤262144):Calls pr span_outward_id #[.agg (c3 n1 s1 e1), .agg (c3 n2 s2 e2), .int .i64 pos] w fun en w'=>Ahead w w'∧AS (K+1) (fun l u=>l≤lo∧hi≤u) en w':=by
 refine U8 n1 s1 e1 n2 s2 e2 pos w (AS (K+1) (fun l u=>l≤lo∧hi≤u)) fun w1 x1 a1=> ?_
 refine Calls.mono (Ha (hT.ahead a1) (h.ahead a1) hp (.inl rfl) hK hK') ?_
 rintro en w2 ⟨k2,na,sa,ea,va,rfl,da,pa⟩
 refine ⟨_,_,_,_,rfl,k2,fun w3 x3 a3=>Calls.mono (Ha (hT.ahead a3) (h'.ahead a3) hp (.inr rfl) hK hK') ?_⟩
 rintro en w4 ⟨k4,nb,sb,eb,vb,rfl,db,pb⟩
 refine ⟨_,_,_,_,rfl,k4,fun w5 x5 a5=>Calls.mono Wr.qt ?_⟩
 rintro en w6 ⟨k6,rfl⟩
 refine ⟨_,_,_,_,_,_,_,rfl,k6,fun w7 x7 a7=>⟨_,_,_,_,_,_,va,vb,rfl,((((da.ext x3).ahead k4).ext x5).ahead k6).ext x7,((db.ext x5).ahead k6).ext x7,pa.1 rfl,pb.2 rfl⟩⟩
theorem C6 {w n1 s1} {e1:Int} {n2 s2} {e2:Int} {n3:Bool} {s3:Slc} {e3:Int} {n4:Bool} {s4:Slc} {e4:Int} {K:Nat} {lo hi lo' hi' pos:Int} (hT:Tab w) (h:Sv w n1 s1 e1 n2 s2 e2 K lo hi) (h':Sv w n3 s3 e3 n4 s4 e4 K lo' hi') (hp: -150≤pos∧pos≤50) (hK:1100≤K) (hK':K+2≤262144):Calls pr span_sums_id #[.agg (c6 n1 s1 e1 n2 s2 e2), .agg (c6 n3 s3 e3 n4 s4 e4), .int .i64 pos] w fun en w'=>Ahead w w'∧AS (K+2) (fun l u=>l≤lo+lo'∧hi+hi'≤u) en w':=by
 refine Gz n1 s1 e1 n2 s2 e2 n3 s3 e3 n4 s4 e4 pos w (AS (K+2) (fun l u=>l≤lo+lo'∧hi+hi'≤u)) fun w1 x1 a1=> ?_
 refine Calls.mono (zbd (hT.ahead a1) (h.a.ahead a1) (h'.a.ahead a1) (by omega)) ?_
 rintro en w2 ⟨k2,na,sa,ea,va,rfl,da,rfl⟩
 refine ⟨_,_,_,_,rfl,k2,fun w3 x3 a3=>Calls.mono (zbd (hT.ahead a3) (h.b.ahead a3) (h'.b.ahead a3) (by omega)) ?_⟩
 rintro en w4 ⟨k4,nb,sb,eb,vb,rfl,db,rfl⟩
 refine ⟨_,_,_,_,rfl,k4,fun w5 x5 a5=>Calls.mono Wr.kc ?_⟩
 rintro en w6 ⟨rfl,rfl⟩
 refine ⟨_,rfl,Ahead.refl _,zt rfl ?_⟩
 refine Calls.mono (fx (hT.ahead a5) (((da.ext x3).ahead k4).ext x5) (db.ext x5) hp (by omega) (by omega)) ?_
 rintro en w8 ⟨k8,n1',s1',e1',n2',s2',e2',l,u,rfl,dl,du,hlu⟩
 exact ⟨_,_,_,_,_,_,_,rfl,k8,fun w9 x9 a9=>⟨_,_,_,_,_,_,l,u,rfl,dl.ext x9,du.ext x9,hlu⟩⟩
theorem zd7 {w n1 s1} {e1:Int} {n2 s2} {e2:Int} {n3:Bool} {s3:Slc} {e3:Int} {n4:Bool} {s4:Slc} {e4:Int} {K:Nat} {lo hi lo' hi' pos:Int} (hT:Tab w) (h:Sv w n1 s1 e1 n2 s2 e2 K lo hi) (h':Sv w n3 s3 e3 n4 s4 e4 K lo' hi') (hp: -150≤pos∧pos≤50) (hK:1100≤K) (hK':K+2≤262144):Calls pr span_Add_id #[.agg (c6 n1 s1 e1 n2 s2 e2), .agg (c6 n3 s3 e3 n4 s4 e4), .int .i64 pos] w fun en w'=>Ahead w w'∧AS (K+2) (fun l u=>l≤lo+lo'∧hi+hi'≤u) en w':=by
 refine Da n1 s1 e1 n2 s2 e2 n3 s3 e3 n4 s4 e4 pos w (AS (K+2) (fun l u=>l≤lo+lo'∧hi+hi'≤u)) fun w1 x1 a1=>yv fun b w2 hb h2 hs2 B2=> ?_
 have a2:=a1.trans h2
 refine Calls.mono (mm (hT.ahead a2) B2 (by omega) (fd (h.ahead a2) (h'.ahead a2)) hp) ?_
 rintro en w3 ⟨h3,rfl⟩
 have a3:=a2.trans h3
 refine ⟨_,rfl,h3,zt rfl (Calls.mono (C6 (hT.ahead a3) (h.ahead a3) (h'.ahead a3) hp hK hK') ?_)⟩
 rintro en w8 ⟨k8,n1',s1',e1',n2',s2',e2',l,u,rfl,dl,du,hlu⟩
 exact ⟨_,_,_,_,_,_,_,rfl,k8,fun w9 x9 a9=>⟨_,_,_,_,_,_,l,u,rfl,dl.ext x9,du.ext x9,hlu⟩⟩
theorem zec {w n1 s1} {e1:Int} {n2 s2} {e2:Int} {n3:Bool} {s3:Slc} {e3:Int} {n4:Bool} {s4:Slc} {e4:Int} {K:Nat} {lo hi lo' hi' pos:Int} (hT:Tab w) (h:Sv w n1 s1 e1 n2 s2 e2 K lo hi) (h':Sv w n3 s3 e3 n4 s4 e4 K lo' hi') (hp: -150≤pos∧pos≤50) (hK:1100≤K) (hK':K+2≤262144):Calls pr span_Sub_id #[.agg (c6 n1 s1 e1 n2 s2 e2), .agg (c6 n3 s3 e3 n4 s4 e4), .int .i64 pos] w fun en w'=>Ahead w w'∧AS (K+2) (fun l u=>l≤lo -hi'∧hi -lo'≤u) en w':=by
 refine Dp n1 s1 e1 n2 s2 e2 n3 s3 e3 n4 s4 e4 pos w (AS (K+2) (fun l u=>l≤lo -hi'∧hi -lo'≤u)) fun w1 x1 a1=>yv fun b w2 hb h2 hs2 B2=> ?_
 have a2:=a1.trans h2
 refine Calls.mono (mm (hT.ahead a2) B2 (by omega) (fd (h.ahead a2) (h'.ahead a2)) hp) ?_
 rintro en w3 ⟨h3,rfl⟩
 have a3:=a2.trans h3
 refine ⟨_,rfl,h3,zt rfl fun w5 x5 a5=>Calls.mono mq ?_⟩
 rintro en w6 ⟨h6,rfl⟩
 refine ⟨_,_,_,rfl,h6,Calls.mono mq ?_⟩
 rintro en w7 ⟨h7,rfl⟩
 refine ⟨_,_,_,rfl,h7,fun w8 x8 a8=> ?_⟩
 have hn:Sv w8 (!n4) s4 e4 (!n3) s3 e3 K (-hi') (-lo'):=⟨(h'.b.ahead a8).neg,(h'.a.ahead a8).neg,by have:=h'.le;omega⟩
 refine Calls.mono (C6 (hT.ahead a8) (h.ahead a8) hn hp hK hK') ?_
 rintro en w9 ⟨k8,n1',s1',e1',n2',s2',e2',l,u,rfl,dl,du,hlu⟩
 exact ⟨_,_,_,_,_,_,_,rfl,k8,fun w9 x9 a9=>⟨_,_,_,_,_,_,l,u,rfl,dl.ext x9,du.ext x9,by omega,by omega⟩⟩
end Sm
end
section
open Go Go.RowKit Eng Sp Dg L2
namespace Sm
open _root_.Go.Proofs.YtbeiopoejdkheaaGreatDoor.Nat (OwnNil Num Num.bl Num.ext Num.ahead OwnNil.mono OwnNil.ext OwnNil.rd OwnNil.ahead OwnNil.nil zw xj xf)
open _root_.Go.Proofs.YtbeiopoejdkheaaGreatDoor.Ro (nu de bhv rdQ quQ py)
open _root_.Go.Proofs.YtbeiopoejdkheaaGreatDoor.Wr (Bes Tk Qb Hi Td Gg up dn kc qt)
open Sb Dy R7
theorem Cs {w n} {n':Bool} {s} {s':Slc} {e e' v v' g:Int} {K:Nat} (hT:Tab w) (h:Dv w n s e K v) (h':Dv w n' s' e' K v') (hg:g=1∨g= -1):Calls pr dyadic_pick_id #[.agg (c3 n s e), .agg (c3 n' s' e'), .int .i64 g] w fun en w'=>Ahead w w'∧AV K (fun u=>u=if g=1 then max v v' else min v v') en w':=by
 have hb:=h.b
 have hb':=h'.b
 have hk:=h.k
 obtain ⟨x,q,f,rfl⟩:=h.sd
 obtain ⟨x',q',f',rfl⟩:=h'.sd
 have g1:=q.eD
 have g2:=q'.eD
 have e1:=mz (n:=n) (x:=x) f
 have e2:=mz (n:=n') (x:=x') f'
 unfold vz at e1 e2
 have l1:=zw (N:=od x) (m:=2^15) (Nat.le_trans q.od (by omega))
 have l2:=zw (N:=od x') (m:=2^15) (Nat.le_trans q'.od (by omega))
 refine Tw n s e n' s' e' g w (AV K (fun u=>u=if g=1 then max (dv (sg n x) e FL) (dv (sg n' x') e' FL) else min (dv (sg n x) e FL) (dv (sg n' x') e' FL))) fun w1 x1 a1=> ?_
 refine Calls.mono (dg (hT.ahead a1) (q.num.ahead a1) (q'.num.ahead a1)) ?_
 rw [q.tw q']
 rintro en w2 ⟨h2,b1,s1,y1,b2,s2,y2,rfl,hh⟩
 obtain ⟨rfl,rfl,rfl,rfl,o1,o2⟩:=hh rfl
 refine ⟨_,_,_,_,_,_,_,rfl,h2,zt rfl fun w4 x4 a4=> ?_⟩
 have r1:=(o1.ext x4).rd
 have r2:=(o2.ext x4).rd
 refine Calls.mono (cq r1 r2 (by omega) (by omega) (by unfold far;omega) (by unfold far;omega)) ?_
 rw [Cd (ke f) (ke f'),e1,e2]
 rintro en w5 ⟨h5,rfl⟩
 have a5:=a4.trans h5
 have hc:=zag (dv (sg n x) e FL) (dv (sg n' x') e' FL)
 have c1:=pt (a:=dv (sg n x) e FL) (b:=dv (sg n' x') e' FL)
 have c2:=qr (a:=dv (sg n x) e FL) (b:=dv (sg n' x') e' FL)
 have hw:IntKind.i64.wrap (cmpZ (dv (sg n x) e FL) (dv (sg n' x') e' FL)*g)=cmpZ (dv (sg n x) e FL) (dv (sg n' x') e' FL)*g:=by
  rcases hg with rfl|rfl
  ·exact zp (by omega) (by omega)
  ·exact zp (by omega) (by omega)
 refine ⟨_,rfl,h5, ?_⟩
 try dsimp only
 rw [hw]
 generalize hA:dv (sg n x) e FL=A at*
 generalize hB:dv (sg n' x') e' FL=B at*
 generalize cmpZ A B=c at*
 refine zm (fun hlt=>fun w6 x6 a6=> ?_) (fun hge=> ?_)
 ·have hlt':=of_decide_eq_true hlt
  have hp:B=if g=1 then max A B else min A B:=by
   rcases hg with rfl|rfl
   ·rw [if_pos rfl];omega
   ·rw [if_neg (by omega)];omega
  refine Calls.mono (Qx (hT.ahead a6) (vd (r2.ext ((Ext.of_ahead h5).trans x6)) (by omega)) (Nat.le_trans q'.od (by omega)) (ke f') (by omega) e2 hb' hk) ?_
  rintro en w7 ⟨h7,n3,s3,e3,v3,rfl,d3,rfl⟩
  exact ⟨_,_,_,_,rfl,h7,fun w8 x8 a8=>⟨_,_,_,_,rfl,d3.ext x8,hp⟩⟩
 ·have hge':=of_decide_eq_false hge
  have hp:A=if g=1 then max A B else min A B:=by
   rcases hg with rfl|rfl
   ·rw [if_pos rfl];omega
   ·rw [if_neg (by omega)];omega
  refine Calls.mono (Qx (hT.ahead a5) (vd (r1.ahead h5) (by omega)) (Nat.le_trans q.od (by omega)) (ke f) (by omega) e1 hb hk) ?_
  rintro en w7 ⟨h7,n3,s3,e3,v3,rfl,d3,rfl⟩
  exact ⟨_,_,_,_,rfl,h7,fun w8 x8 a8=>⟨_,_,_,_,rfl,d3.ext x8,hp⟩⟩
theorem zbh {w n} {n':Bool} {s} {s':Slc} {e e' v v':Int} {K:Nat} (hT:Tab w) (h:Dv w n s e K v) (h':Dv w n' s' e' K v'):Calls pr dyadic_Min_id #[.agg (c3 n s e), .agg (c3 n' s' e')] w fun en w'=>Ahead w w'∧AV K (· =min v v') en w':=by
 refine Px n s e n' s' e' w (AV K (· =min v v')) fun w1 x1 a1=>Calls.mono (Cs (hT.ahead a1) (h.ahead a1) (h'.ahead a1) (.inr rfl)) ?_
 rintro en w2 ⟨h2,n3,s3,e3,v3,rfl,d3,hv⟩
 exact ⟨_,_,_,_,rfl,h2,fun w3 x3 a3=>⟨_,_,_,_,rfl,d3.ext x3,by rw [hv,if_neg (by omega)]⟩⟩
theorem zbg {w n} {n':Bool} {s} {s':Slc} {e e' v v':Int} {K:Nat} (hT:Tab w) (h:Dv w n s e K v) (h':Dv w n' s' e' K v'):Calls pr dyadic_Max_id #[.agg (c3 n s e), .agg (c3 n' s' e')] w fun en w'=>Ahead w w'∧AV K (· =max v v') en w':=by
 refine Pv n s e n' s' e' w (AV K (· =max v v')) fun w1 x1 a1=>Calls.mono (Cs (hT.ahead a1) (h.ahead a1) (h'.ahead a1) (.inl rfl)) ?_
 rintro en w2 ⟨h2,n3,s3,e3,v3,rfl,d3,hv⟩
 exact ⟨_,_,_,_,rfl,h2,fun w3 x3 a3=>⟨_,_,_,_,rfl,d3.ext x3,by rw [hv,if_pos rfl]⟩⟩
theorem c9 {w n1 s1} {e1:Int} {n2 s2} {e2:Int} {K:Nat} {lo hi:Int} (h:Sv w n1 s1 e1 n2 s2 e2 K lo hi):Calls pr span_nought_id #[.agg (c6 n1 s1 e1 n2 s2 e2)] w fun en w'=>Ahead w w'∧en= .returned (.bool (decide (lo≤0∧0≤hi))):=by
 refine Qp n1 s1 e1 n2 s2 e2 w (fun en w'=>en= .returned (.bool (decide (lo≤0∧0≤hi)))) fun w1 x1 a1=>Calls.mono (gd (h.a.ahead a1)) ?_
 rintro en w2 ⟨h2,rfl⟩
 refine ⟨_,rfl,h2,zm (fun hle=>Calls.mono (gd ((h.b.ahead a1).ahead h2)) ?_) (fun hgt=> ?_)⟩
 ·have hle':lo≤0:=Zs.1 (of_decide_eq_true hle)
  rintro en w3 ⟨h3,rfl⟩
  refine ⟨_,rfl,h3, ?_⟩
  have:(cmpZ hi 0≥0)↔(lo≤0∧0≤hi):=⟨fun q=>⟨hle',Cc.1 q⟩,fun q=>Cc.2 q.2⟩
  rw [decide_eq_decide.2 this]
 ·have hgt':¬lo≤0:=fun q=>of_decide_eq_false hgt (Zs.2 q)
  rw [decide_eq_false (fun q=>hgt' q.1)]
theorem Dv.zero (w:World) {K:Nat} (hK:K≤262144):Dv w false ⟨none,0,0⟩ 0 K 0:=
 ⟨⟨[],Rd.nil,by simp,Zb,by simp [val,xm],by unfold FL;omega,by omega,by simp [val,dv,sg]⟩,by simp [xm],hK⟩
def SzP (lo hi l u:Int):Prop:=0≤l∧(l=0∨l≤lo∨hi≤-l)∧-u≤lo∧hi≤u∧l≤u
theorem Gq {w n1 s1} {e1:Int} {n2 s2} {e2:Int} {K:Nat} {lo hi:Int} (hT:Tab w) (h:Sv w n1 s1 e1 n2 s2 e2 K lo hi):Calls pr span_sizes_id #[.agg (c6 n1 s1 e1 n2 s2 e2)] w fun en w'=>Ahead w w'∧∃m1 t1 f1 m2 t2 f2 l u,en= .returned (.agg (c6 m1 t1 f1 m2 t2 f2))∧Dv w' m1 t1 f1 K l∧Dv w' m2 t2 f2 K u∧SzP lo hi l u∧((f1=e1∨f1=e2∨f1=0)∧(f2=e1∨f2=e2)):=by
 have hle:=h.le
 have hk:=h.a.k
 refine Mu n1 s1 e1 n2 s2 e2 w (fun en w'=>∃m1 t1 f1 m2 t2 f2 l u,en= .returned (.agg (c6 m1 t1 f1 m2 t2 f2))∧Dv w' m1 t1 f1 K l∧Dv w' m2 t2 f2 K u∧SzP lo hi l u∧((f1=e1∨f1=e2∨f1=0)∧(f2=e1∨f2=e2))) (fun p1 q1 g1 p2 q2 g2 _ _ _ _ _ _ b s x b' s' x' _=>(n1=p1∧s1=q1∧e1=g1∧n2=p2∧s2=q2∧e2=g2)∧(false=b∧s1=s∧e1=x∧false=b'∧s2=s'∧e2=x')) (fun w1 x1 a1=>Calls.mono Cz ?_) ?_
 ·rintro en w2 ⟨h2,rfl⟩
  refine ⟨_,_,_,rfl,h2,fun w3 x3 a3=>Calls.mono Cz ?_⟩
  rintro en w4 ⟨h4,rfl⟩
  exact ⟨_,_,_,rfl,h4,fun w5 x5 a5=>⟨⟨rfl,rfl,rfl,rfl,rfl,rfl⟩,rfl,rfl,rfl,rfl,rfl,rfl⟩⟩
 rintro p1 q1 g1 p2 q2 g2 _ _ _ _ _ _ b s x b' s' x' w5 a5 ⟨⟨rfl,rfl,rfl,rfl,rfl,rfl⟩,rfl,rfl,rfl,rfl,rfl,rfl⟩
 refine Calls.mono (Vw (hT.ahead a5) (h.a.ahead a5).abs (h.b.ahead a5).abs) ?_
 rintro en w6 ⟨h6,rfl⟩
 have hv6:=(h.ahead a5).ahead h6
 refine ⟨_,_,rfl,h6,zm (fun hgt=>fun w7 x7 a7=> ?_) (fun hng=> ?_)⟩
 ·have hgt':=qr.1 (of_decide_eq_true hgt)
  refine Calls.mono (c9 (hv6.ext x7)) ?_
  rintro en w8 ⟨h8,rfl⟩
  have hv8:=(hv6.ext x7).ahead h8
  refine ⟨_,rfl,h8,zm (fun hn=>fun w9 x9 a9=> ?_) (fun hn=>fun w9 x9 a9=> ?_)⟩
  ·have:=of_decide_eq_true hn
   exact ⟨_,_,_,_,_,_,0,_,rfl,Dv.zero w9 hk,(hv8.ext x9).a.abs,⟨by omega, .inl rfl,by omega,by omega,by omega⟩, .inr (.inr rfl), .inl rfl⟩
  ·have:=of_decide_eq_false hn
   exact ⟨_,_,_,_,_,_,_,_,rfl,(hv8.ext x9).b.abs,(hv8.ext x9).a.abs,⟨by omega, .inr (by omega),by omega,by omega,by omega⟩, .inr (.inl rfl), .inl rfl⟩
 ·have hng':¬(hi.natAbs:Int)<(lo.natAbs:Int):=fun q=>of_decide_eq_false hng (qr.2 q)
  refine Calls.mono (c9 hv6) ?_
  rintro en w8 ⟨h8,rfl⟩
  have hv8:=hv6.ahead h8
  refine ⟨_,rfl,h8,zm (fun hn=>fun w9 x9 a9=> ?_) (fun hn=>fun w9 x9 a9=> ?_)⟩
  ·have:=of_decide_eq_true hn
   exact ⟨_,_,_,_,_,_,0,_,rfl,Dv.zero w9 hk,(hv8.ext x9).b.abs,⟨by omega, .inl rfl,by omega,by omega,by omega⟩, .inr (.inr rfl), .inr rfl⟩
  ·have:=of_decide_eq_false hn
   exact ⟨_,_,_,_,_,_,_,_,rfl,(hv8.ext x9).a.abs,(hv8.ext x9).b.abs,⟨by omega, .inr (by omega),by omega,by omega,by omega⟩, .inl rfl, .inr rfl⟩
theorem zb9 {w n1 s1} {e1:Int} {n2:Bool} {s2:Slc} {e2:Int} {K:Nat} {lo hi:Int} (hT:Tab w) (h:Dv w n1 s1 e1 K lo) (h':Dv w n2 s2 e2 K hi):Calls pr span_normal_id #[.agg (c3 n1 s1 e1), .agg (c3 n2 s2 e2)] w fun en w'=>Ahead w w'∧AS K (fun l u=>l=lo∧u=hi) en w':=by
 refine Qm n1 s1 e1 n2 s2 e2 w (AS K (fun l u=>l=lo∧u=hi)) fun w1 x1 a1=>Calls.mono (Cn (hT.ahead a1) (h.ahead a1)) ?_
 rintro en w2 ⟨k2,na,sa,ea,va,rfl,da,pa⟩
 refine ⟨_,_,_,_,rfl,k2,fun w3 x3 a3=>Calls.mono (Cn (hT.ahead a3) (h'.ahead a3)) ?_⟩
 rintro en w4 ⟨k4,nb,sb,eb,vb,rfl,db,pb⟩
 refine ⟨_,_,_,_,rfl,k4,fun w5 x5 a5=>Calls.mono qt ?_⟩
 rintro en w6 ⟨k6,rfl⟩
 exact ⟨_,_,_,_,_,_,_,rfl,k6,fun w7 x7 a7=>⟨_,_,_,_,_,_,va,vb,rfl,((((da.ext x3).ahead k4).ext x5).ahead k6).ext x7,((db.ext x5).ahead k6).ext x7,pa,pb⟩⟩
theorem zd6 {w n1 s1} {e1:Int} {n2 s2} {e2:Int} {K:Nat} {lo hi:Int} (hT:Tab w) (h:Sv w n1 s1 e1 n2 s2 e2 K lo hi):Calls pr span_Abs_id #[.agg (c6 n1 s1 e1 n2 s2 e2)] w fun en w'=>Ahead w w'∧AS K (SzP lo hi) en w':=by
 refine F8 n1 s1 e1 n2 s2 e2 w (AS K (SzP lo hi)) fun w1 x1 a1=>Calls.mono (Yx (hT.ahead a1) (h.ahead a1)) ?_
 rintro en w2 ⟨h2,rfl⟩
 have a2:=a1.trans h2
 refine ⟨_,rfl,h2,zt rfl (Calls.mono (Gq (hT.ahead a2) (h.ahead a2)) ?_)⟩
 rintro en w4 ⟨h4,m1,t1,f1,m2,t2,f2,l,u,rfl,d1,d2,hp,_⟩
 refine ⟨_,_,_,_,_,_,rfl,h4,fun w5 x5 a5=>Calls.mono (zb9 (hT.ahead a5) (d1.ext x5) (d2.ext x5)) ?_⟩
 rintro en w6 ⟨k6,na,sa,ea,nb,sb,eb,va,vb,rfl,da,db,rfl,rfl⟩
 exact ⟨_,_,_,_,_,_,_,rfl,k6,fun w7 x7 a7=>⟨_,_,_,_,_,_,va,vb,rfl,da.ext x7,db.ext x7,hp⟩⟩
end Sm
end
section
open Go Go.RowKit Eng Sp Dg L2
namespace Sm
open _root_.Go.Proofs.YtbeiopoejdkheaaGreatDoor.Wr (qt)
open Sb Dy R7
theorem Dv.upd {w w'} {b:Nat} {n s} {e:Int} {K:Nat} {v:Int} (h:Dv w n s e K v) (u:Upd b w w'):Dv w' n s e K v:=by
 obtain ⟨⟨l,r,h2⟩,hb,hk⟩:=h;exact ⟨⟨l,u.rd _ _ r,h2⟩,hb,hk⟩
theorem qq {b i j k:Nat} (h:i+j=k):((⟨b,0,none⟩:Addr).add i).add j=⟨b,k,none⟩:=by rw [zz,tj,h]
theorem set6 {w} {b:Nat} {x0 x y0 y:Bool} {s0 s t0 t:Slc} {e0 e f0 f:Int} {K:World→Prop} (h:Blk w b (c6 x0 s0 e0 y0 t0 f0)) (hk:∀w',Upd b w w'→Blk w' b (c6 x s e y t f)→K w'):stC ⟨b,0,none⟩ (.bool x) w fun w1=>stC ((⟨b,0,none⟩:Addr).add 1) s.v w1 fun w2=>stC ((⟨b,0,none⟩:Addr).add 2) (.int .i64 e) w2 fun w3=>stC ((⟨b,0,none⟩:Addr).add 3) (.bool y) w3 fun w4=>stC ((⟨b,0,none⟩:Addr).add 4) t.v w4 fun w5=>stC ((⟨b,0,none⟩:Addr).add 5) (.int .i64 f) w5 fun w6=>K w6:=
 p5 0 h (show 0<6 by omega) rfl fun w1 u1 h1=>p5 1 (cs:=c6 x s0 e0 y0 t0 f0) h1 (show 1<6 by omega) rfl fun w2 u2 h2=>p5 2 (cs:=c6 x s e0 y0 t0 f0) h2 (show 2<6 by omega) rfl fun w3 u3 h3=>
  p5 3 (cs:=c6 x s e y0 t0 f0) h3 (show 3<6 by omega) rfl fun w4 u4 h4=>p5 4 (cs:=c6 x s e y t0 f0) h4 (show 4<6 by omega) rfl fun w5 u5 h5=>p5 5 (cs:=c6 x s e y t f0) h5 (show 5<6 by omega) rfl fun w6 u6 h6=>
   hk w6 (((((u1.trans u2).trans u3).trans u4).trans u5).trans u6) h6
theorem get6 {w} {b:Nat} {x y:Bool} {s t:Slc} {e f:Int} {K:Bool→Slc→Int→Bool→Slc→Int→Prop} (h:Blk w b (c6 x s e y t f)) (hk:K x s e y t f):ldB ⟨b,0,none⟩ w fun x'=>ldS ((⟨b,0,none⟩:Addr).add 1) w fun s'=>ldI .i64 ((⟨b,0,none⟩:Addr).add 2) w fun e'=>ldB ((⟨b,0,none⟩:Addr).add 3) w fun y'=>ldS ((⟨b,0,none⟩:Addr).add 4) w fun t'=>ldI .i64 ((⟨b,0,none⟩:Addr).add 5) w fun f'=>K x' s' e' y' t' f':=
 uu 0 h rfl (vj 1 h rfl (xz 2 h rfl (uu 3 h rfl (vj 4 h rfl (xz 5 h rfl hk)))))
theorem zaz {w n1 s1} {e1:Int} {n2 s2} {e2:Int} {n3:Bool} {s3:Slc} {e3:Int} {n4:Bool} {s4:Slc} {e4:Int} {K:Nat} {lo hi lo' hi':Int} (hT:Tab w) (h:Sv w n1 s1 e1 n2 s2 e2 K lo hi) (h':Sv w n3 s3 e3 n4 s4 e4 K lo' hi'):Calls pr span_pair_id #[.agg (c6 n1 s1 e1 n2 s2 e2), .agg (c6 n3 s3 e3 n4 s4 e4), .func (.func dyadic_Min_id) #[] #[], .func (.func dyadic_Min_id) #[] #[]] w fun en w'=>Ahead w w'∧AS K (fun l u=>l=min lo lo'∧u=min hi hi') en w':=by
 refine pi n1 s1 e1 n2 s2 e2 n3 s3 e3 n4 s4 e4 w _ (yv fun b1 w1 hb1 h1 z1 B1=>yv fun b2 w2 hb2 h2 z2 B2=>yv fun b3 w3 hb3 h3 z3 B3=> ?_)
 have A1:Blk w3 b1 (c6 n1 s1 e1 n2 s2 e2):=(B1.ahead h2).ahead h3
 have A2:Blk w3 b2 (c6 n3 s3 e3 n4 s4 e4):=B2.ahead h3
 have A3:Blk w3 b3 (c6 false ⟨none,0,0⟩ 0 false ⟨none,0,0⟩ 0):=B3
 refine get6 A1 (get6 A2 (yv fun b4 w4 hb4 h4 z4 B4=> ?_))
 have a3:=(h1.trans h2).trans h3
 have a4:=a3.trans h4
 refine Calls.mono (mm (pos:=0) (hT.ahead a4) B4 (by omega) (fd (h.ahead a4) (h'.ahead a4)) (by omega)) ?_
 rintro en w5 ⟨h5,rfl⟩
 have a5:=a4.trans h5
 have C1:=(A1.ahead h4).ahead h5
 have C2:=(A2.ahead h4).ahead h5
 have C3:=(A3.ahead h4).ahead h5
 refine ⟨_,rfl,zt rfl (uu 0 C1 rfl (vj 1 C1 rfl (xz 2 C1 rfl (uu 0 C2 rfl (vj 1 C2 rfl (xz 2 C2 rfl ?_))))))⟩
 refine Calls.mono (zbh (hT.ahead a5) (h.a.ahead a5) (h'.a.ahead a5)) ?_
 rintro en w12 ⟨h12,na,sa,ea,va,rfl,da,pa⟩
 have a12:=a5.trans h12
 refine ⟨_,_,_,_,rfl,yv fun b5 w13 hb5 h13 z13 B5=>set3 B5 fun w16 u16 D5=> ?_⟩
 have q0:=a12.size
 have q1:=(C1.ahead h12).lt
 have q2:=(C2.ahead h12).lt
 have q3:=(C3.ahead h12).lt
 have a16:=u16.ahead (a12.trans h13) (by omega)
 have D1:=u16.blk ((C1.ahead h12).ahead h13) (by omega)
 have D2:=u16.blk ((C2.ahead h12).ahead h13) (by omega)
 have D3:=u16.blk ((C3.ahead h12).ahead h13) (by omega)
 have da16:=(da.ahead h13).upd u16
 refine uu 3 D1 rfl (vj 4 D1 rfl (xz 5 D1 rfl (uu 3 D2 rfl (vj 4 D2 rfl (xz 5 D2 rfl ?_ (qq rfl)) (qq rfl))) (qq rfl)) (qq rfl))
 refine Calls.mono (zbh (hT.ahead a16) (h.b.ahead a16) (h'.b.ahead a16)) ?_
 rintro en w17 ⟨h17,nb,sb,eb,vb,rfl,db,pb⟩
 have a17:=a16.trans h17
 refine ⟨_,_,_,_,rfl,yv fun b6 w18 hb6 h18 z18 B6=>set3 B6 fun w21 u21 D6=> ?_⟩
 have q4:=(D5.ahead h17).lt
 have q5:=(D3.ahead h17).lt
 have q6:=a17.size
 have a21:=u21.ahead (a17.trans h18) (by omega)
 have E5:=u21.blk ((D5.ahead h17).ahead h18) (by omega)
 have E3:=u21.blk ((D3.ahead h17).ahead h18) (by omega)
 refine get3 E5 (get3 D6 (Calls.mono qt ?_))
 rintro en w22 ⟨h22,rfl⟩
 refine ⟨_,_,_,_,_,_,_,rfl,set6 (E3.ahead h22) fun w28 u28 G3=>get6 G3 ⟨u28.ahead (a21.trans h22) (by have:=h1.size;have:=h2.size;omega),_,_,_,_,_,_,va,vb,rfl, ?_, ?_,pa,pb⟩⟩
 ·exact ((((da16.ahead h17).ahead h18).upd u21).ahead h22).upd u28
 ·exact (((db.ahead h18).upd u21).ahead h22).upd u28
theorem zd9 {w n1 s1} {e1:Int} {n2 s2} {e2:Int} {n3:Bool} {s3:Slc} {e3:Int} {n4:Bool} {s4:Slc} {e4:Int} {K:Nat} {lo hi lo' hi':Int} (hT:Tab w) (h:Sv w n1 s1 e1 n2 s2 e2 K lo hi) (h':Sv w n3 s3 e3 n4 s4 e4 K lo' hi'):Calls pr span_Min_id #[.agg (c6 n1 s1 e1 n2 s2 e2), .agg (c6 n3 s3 e3 n4 s4 e4)] w fun en w'=>Ahead w w'∧AS K (fun l u=>l=min lo lo'∧u=min hi hi') en w':=by
 refine De n1 s1 e1 n2 s2 e2 n3 s3 e3 n4 s4 e4 w (AS K (fun l u=>l=min lo lo'∧u=min hi hi')) fun w1 x1 a1=>Calls.mono (zaz (hT.ahead a1) (h.ahead a1) (h'.ahead a1)) ?_
 rintro en w2 ⟨h2,na,sa,ea,nb,sb,eb,va,vb,rfl,da,db,hp⟩
 exact ⟨_,_,_,_,_,_,_,rfl,h2,fun w7 x7 a7=>⟨_,_,_,_,_,_,va,vb,rfl,da.ext x7,db.ext x7,hp⟩⟩
theorem zay {w n1 s1} {e1:Int} {n2 s2} {e2:Int} {n3:Bool} {s3:Slc} {e3:Int} {n4:Bool} {s4:Slc} {e4:Int} {K:Nat} {lo hi lo' hi':Int} (hT:Tab w) (h:Sv w n1 s1 e1 n2 s2 e2 K lo hi) (h':Sv w n3 s3 e3 n4 s4 e4 K lo' hi'):Calls pr span_pair_id #[.agg (c6 n1 s1 e1 n2 s2 e2), .agg (c6 n3 s3 e3 n4 s4 e4), .func (.func dyadic_Max_id) #[] #[], .func (.func dyadic_Max_id) #[] #[]] w fun en w'=>Ahead w w'∧AS K (fun l u=>l=max lo lo'∧u=max hi hi') en w':=by
 refine ph n1 s1 e1 n2 s2 e2 n3 s3 e3 n4 s4 e4 w _ (yv fun b1 w1 hb1 h1 z1 B1=>yv fun b2 w2 hb2 h2 z2 B2=>yv fun b3 w3 hb3 h3 z3 B3=> ?_)
 have A1:Blk w3 b1 (c6 n1 s1 e1 n2 s2 e2):=(B1.ahead h2).ahead h3
 have A2:Blk w3 b2 (c6 n3 s3 e3 n4 s4 e4):=B2.ahead h3
 have A3:Blk w3 b3 (c6 false ⟨none,0,0⟩ 0 false ⟨none,0,0⟩ 0):=B3
 refine get6 A1 (get6 A2 (yv fun b4 w4 hb4 h4 z4 B4=> ?_))
 have a3:=(h1.trans h2).trans h3
 have a4:=a3.trans h4
 refine Calls.mono (mm (pos:=0) (hT.ahead a4) B4 (by omega) (fd (h.ahead a4) (h'.ahead a4)) (by omega)) ?_
 rintro en w5 ⟨h5,rfl⟩
 have a5:=a4.trans h5
 have C1:=(A1.ahead h4).ahead h5
 have C2:=(A2.ahead h4).ahead h5
 have C3:=(A3.ahead h4).ahead h5
 refine ⟨_,rfl,zt rfl (uu 0 C1 rfl (vj 1 C1 rfl (xz 2 C1 rfl (uu 0 C2 rfl (vj 1 C2 rfl (xz 2 C2 rfl ?_))))))⟩
 refine Calls.mono (zbg (hT.ahead a5) (h.a.ahead a5) (h'.a.ahead a5)) ?_
 rintro en w12 ⟨h12,na,sa,ea,va,rfl,da,pa⟩
 have a12:=a5.trans h12
 refine ⟨_,_,_,_,rfl,yv fun b5 w13 hb5 h13 z13 B5=>set3 B5 fun w16 u16 D5=> ?_⟩
 have q0:=a12.size
 have q1:=(C1.ahead h12).lt
 have q2:=(C2.ahead h12).lt
 have q3:=(C3.ahead h12).lt
 have a16:=u16.ahead (a12.trans h13) (by omega)
 have D1:=u16.blk ((C1.ahead h12).ahead h13) (by omega)
 have D2:=u16.blk ((C2.ahead h12).ahead h13) (by omega)
 have D3:=u16.blk ((C3.ahead h12).ahead h13) (by omega)
 have da16:=(da.ahead h13).upd u16
 refine uu 3 D1 rfl (vj 4 D1 rfl (xz 5 D1 rfl (uu 3 D2 rfl (vj 4 D2 rfl (xz 5 D2 rfl ?_ (qq rfl)) (qq rfl))) (qq rfl)) (qq rfl))
 refine Calls.mono (zbg (hT.ahead a16) (h.b.ahead a16) (h'.b.ahead a16)) ?_
 rintro en w17 ⟨h17,nb,sb,eb,vb,rfl,db,pb⟩
 have a17:=a16.trans h17
 refine ⟨_,_,_,_,rfl,yv fun b6 w18 hb6 h18 z18 B6=>set3 B6 fun w21 u21 D6=> ?_⟩
 have q4:=(D5.ahead h17).lt
 have q5:=(D3.ahead h17).lt
 have q6:=a17.size
 have a21:=u21.ahead (a17.trans h18) (by omega)
 have E5:=u21.blk ((D5.ahead h17).ahead h18) (by omega)
 have E3:=u21.blk ((D3.ahead h17).ahead h18) (by omega)
 refine get3 E5 (get3 D6 (Calls.mono qt ?_))
 rintro en w22 ⟨h22,rfl⟩
 refine ⟨_,_,_,_,_,_,_,rfl,set6 (E3.ahead h22) fun w28 u28 G3=>get6 G3 ⟨u28.ahead (a21.trans h22) (by have:=h1.size;have:=h2.size;omega),_,_,_,_,_,_,va,vb,rfl, ?_, ?_,pa,pb⟩⟩
 ·exact ((((da16.ahead h17).ahead h18).upd u21).ahead h22).upd u28
 ·exact (((db.ahead h18).upd u21).ahead h22).upd u28
theorem zd8 {w n1 s1} {e1:Int} {n2 s2} {e2:Int} {n3:Bool} {s3:Slc} {e3:Int} {n4:Bool} {s4:Slc} {e4:Int} {K:Nat} {lo hi lo' hi':Int} (hT:Tab w) (h:Sv w n1 s1 e1 n2 s2 e2 K lo hi) (h':Sv w n3 s3 e3 n4 s4 e4 K lo' hi'):Calls pr span_Max_id #[.agg (c6 n1 s1 e1 n2 s2 e2), .agg (c6 n3 s3 e3 n4 s4 e4)] w fun en w'=>Ahead w w'∧AS K (fun l u=>l=max lo lo'∧u=max hi hi') en w':=by
 refine Dc n1 s1 e1 n2 s2 e2 n3 s3 e3 n4 s4 e4 w (AS K (fun l u=>l=max lo lo'∧u=max hi hi')) fun w1 x1 a1=>Calls.mono (zay (hT.ahead a1) (h.ahead a1) (h'.ahead a1)) ?_
 rintro en w2 ⟨h2,na,sa,ea,nb,sb,eb,va,vb,rfl,da,db,hp⟩
 exact ⟨_,_,_,_,_,_,_,rfl,h2,fun w7 x7 a7=>⟨_,_,_,_,_,_,va,vb,rfl,da.ext x7,db.ext x7,hp⟩⟩
end Sm
end
section
open Go Go.RowKit Eng Sp Dg L2
namespace Sm
open _root_.Go.Proofs.YtbeiopoejdkheaaGreatDoor.Nat (Num xj)
open _root_.Go.Proofs.YtbeiopoejdkheaaGreatDoor.Ro (nu de bhv rdQ quQ py)
open _root_.Go.Proofs.YtbeiopoejdkheaaGreatDoor.Wr (Bes Tk Qb Hi Td Gg up dn kc qt)
open Sb Dy R7
theorem Dv.sdK {w n s} {e:Int} {K:Nat} {v:Int} (h:Dv w n s e K v):∃x,Num w s x∧bl x≤K∧FL≤e∧e≤K∧dv (sg n x) e FL=v:=by
 obtain ⟨⟨l,r,h1,h2,h3,h4,h5,h6⟩,hb,hk⟩:=h
 exact ⟨val B64 l,xj r h2 h1,h3,h4,h5,h6⟩
theorem za0 {e:Int} (h:FL≤e):((2^(e -FL).toNat:Nat):Int)*((dn e:Nat):Int)=up e*(S1000:Int):=by
 show ((2^(e -FL).toNat:Nat):Int)*((2^(-e).toNat:Nat):Int)=((2^e.toNat:Nat):Int)*((2^(HX+HX):Nat):Int)
 rw [←Int.natCast_mul,←Int.natCast_mul,←Nat.pow_add,←Nat.pow_add]
 congr 2
 unfold HX;unfold FL at*;omega
theorem zfq {A Z Y D P1 P2 Pp d1 d2 dp u1 u2 u0 S:Int} (h1:P1*d1=u1*S) (h2:P2*d2=u2*S) (hp:Pp*dp=u0*S) (hq:A*u1*d2*(D*dp)=Z*u0*(d1*(Y*u2))) (hd:d1*d2*dp≠0):A*P1*D*S=Z*Pp*(Y*P2):=by
 apply Int.eq_of_mul_eq_mul_right hd
 calc (A*P1*D*S)*(d1*d2*dp)=A*(P1*d1)*d2*(D*dp)*S:=by ac_rfl
  _=A*(u1*S)*d2*(D*dp)*S:=by rw [h1]
  _=(A*u1*d2*(D*dp))*S*S:=by ac_rfl
  _=(Z*u0*(d1*(Y*u2)))*S*S:=by rw [hq]
  _=Z*(u0*S)*(Y*(u2*S))*d1:=by ac_rfl
  _=Z*(Pp*dp)*(Y*(P2*d2))*d1:=by rw [hp,h2]
  _=(Z*Pp*(Y*P2))*(d1*d2*dp):=by ac_rfl
theorem zaj (e:Int):((dn e:Nat):Int)≠0:=by
 have:0<dn e:=qb _
 omega
theorem D7 {w n} {n':Bool} {s} {s':Slc} {e e' v v' pos m:Int} {K:Nat} (hT:Tab w) (h:Dv w n s e K v) (h':Dv w n' s' e' K v') (hv:0<v') (hp: -150≤pos∧pos≤50) (hm:m=0∨m=1) (hK:K≤8192):Calls pr rounded_Quo_id #[.agg (c3 n s e), .agg (c3 n' s' e'), .int .i64 pos, .int .i64 m] w fun en w'=>Ahead w w'∧AV 65536 (fun u=>(m=0→u*v'≤v*(S1000:Int))∧(m=1→v*(S1000:Int)≤u*v')) en w':=by
 obtain ⟨X,qX,bX,f,g,rfl⟩:=h.sdK
 obtain ⟨Y,qY,bY,f',g',rfl⟩:=h'.sdK
 have f0:=f
 have f0':=f'
 unfold FL at f0 f0'
 have hn:n'=false∧Y≠0:=by
  have hpos:0<sg n' Y:=by
   rcases Int.lt_or_le 0 (sg n' Y) with q|q
   ·exact q
   ·have:=Int.mul_nonneg (a:= -sg n' Y) (b:=((2^(e' -FL).toNat:Nat):Int)) (by omega) (Int.natCast_nonneg _)
    rw [Int.neg_mul] at this
    unfold dv at hv
    omega
  cases n'
  ·exact ⟨rfl,by rintro rfl;simp [sg] at hpos⟩
  ·simp [sg] at hpos;omega
 obtain ⟨rfl,hY⟩:=hn
 have tX:=qv X
 have tY:=qv Y
 have eX: -1000≤eD X e∧eD X e≤16384:=by unfold eD;split<;>omega
 have eY: -1000≤eD Y e'∧eD Y e'≤16384:=by unfold eD;split<;>omega
 have hDp:=Hi (M9 hY) (eD X e -eD Y e' -pos)
 have hbes:=Tk (!(nD n X==nD false Y)) (nu (od X) (eD X e -eD Y e' -pos)) (de (od Y) (eD X e -eD Y e' -pos)) hDp
 have hqv:=Qb (n1:=n) (n2:=false) (X:=X) (Y:=Y) (e1:=e) (e2:=e') (pos:=pos) hY
 have hsY:sg false Y=(Y:Int):=rfl
 have hup0:(0:Int)<up e':=by have:=qb e'.toNat;show (0:Int)<((2^e'.toNat:Nat):Int);omega
 have hsz:sgZ (sg false Y*up e')=1:=by
  have:0<sg false Y*up e':=Int.mul_pos (by rw [hsY];omega) hup0
  unfold sgZ;rw [if_neg (by omega),if_neg (by omega)]
 have habs:((sg false Y*up e').natAbs:Int)=(Y:Int)*up e':=by
  have:0<sg false Y*up e':=Int.mul_pos (by rw [hsY];omega) hup0
  rw [←hsY];omega
 rw [hsz,Int.one_mul,Int.natCast_mul,Int.natCast_mul,habs] at hqv
 have hid:=zfq (za0 f) (za0 f') (za0 (e:=pos) (by unfold FL;omega)) hqv (Int.mul_ne_zero (Int.mul_ne_zero (zaj _) (zaj _)) (zaj _))
 have bQ:∀m,bl (quQ m (!(nD n X==nD false Y)) (od X) (od Y) (eD X e -eD Y e' -pos))≤32768:=by
  intro m
  have h1:quQ m (!(nD n X==nD false Y)) (od X) (od Y) (eD X e -eD Y e' -pos)≤nu (od X) (eD X e -eD Y e' -pos)+1:=Nat.le_trans (Gg _ _ _ _) (Nat.succ_le_succ (Nat.div_le_self _ _))
  have h2:bl (nu (od X) (eD X e -eD Y e' -pos))≤32000:=Nat.le_trans ni (by have:=yw (ms X);omega)
  exact Nat.le_trans (yw h1) (Nat.le_trans (gh h2 (Nat.le_trans (vw (k:=1) (by omega)) (by omega))) (by omega))
 have hq:=py (n1:=n) (n2:=false) (e1:=e) (e2:=e') (pos:=pos) (m:=m) hT qX qY (by omega) (by omega) hY (by omega) (by omega) (by omega) (by omega)
 rw [Td (Nat.le_trans (bQ m) (by omega)) (by omega)] at hq
 refine Calls.mono hq fun en w' hd=>M5 hd (by unfold FL;omega) rfl ?_ (by omega) ?_
 ·rw [dv,Int.natAbs_mul,qa]
  exact Nat.le_trans ni (by have:=bQ m;unfold FL;omega)
 ·have hDi:(0:Int)<((de (od Y) (eD X e -eD Y e' -pos):Nat):Int):=by omega
  unfold dv
  rw [hsY]
  have hW:(0:Int)≤((2^(pos -FL).toNat:Nat):Int)*((Y:Int)*((2^(e' -FL).toNat:Nat):Int)):=Int.mul_nonneg (Int.natCast_nonneg _) (Int.mul_nonneg (Int.natCast_nonneg _) (Int.natCast_nonneg _))
  generalize ((2^(pos -FL).toNat:Nat):Int)=Pp at*
  generalize ((2^(e' -FL).toNat:Nat):Int)=P2 at*
  generalize ((2^(e -FL).toNat:Nat):Int)=P1 at*
  refine ⟨fun h0=> ?_,fun h1=> ?_⟩
  ·subst h0
   have hL:sg (!(nD n X==nD false Y)) (quQ 0 (!(nD n X==nD false Y)) (od X) (od Y) (eD X e -eD Y e' -pos))*((de (od Y) (eD X e -eD Y e' -pos):Nat):Int)≤sg (!(nD n X==nD false Y)) (nu (od X) (eD X e -eD Y e' -pos)):=by
    rcases hbes with ⟨b1,_⟩|⟨b1,_,_⟩
    ·exact Int.le_of_eq b1
    ·exact Int.le_of_lt b1
   generalize sg (!(nD n X==nD false Y)) (quQ 0 (!(nD n X==nD false Y)) (od X) (od Y) (eD X e -eD Y e' -pos))=L at*
   generalize sg (!(nD n X==nD false Y)) (nu (od X) (eD X e -eD Y e' -pos))=Z at*
   generalize ((de (od Y) (eD X e -eD Y e' -pos):Nat):Int)=D at*
   apply Int.le_of_mul_le_mul_right (a:=D) _ hDi
   calc L*Pp*((Y:Int)*P2)*D=L*D*(Pp*((Y:Int)*P2)):=by ac_rfl
    _≤Z*(Pp*((Y:Int)*P2)):=Int.mul_le_mul_of_nonneg_right hL hW
    _=Z*Pp*((Y:Int)*P2):=by ac_rfl
    _=sg n X*P1*D*(S1000:Int):=hid.symm
    _=sg n X*P1*(S1000:Int)*D:=by ac_rfl
  ·subst h1
   have hH:sg (!(nD n X==nD false Y)) (nu (od X) (eD X e -eD Y e' -pos))≤sg (!(nD n X==nD false Y)) (quQ 1 (!(nD n X==nD false Y)) (od X) (od Y) (eD X e -eD Y e' -pos))*((de (od Y) (eD X e -eD Y e' -pos):Nat):Int):=by
    rcases hbes with ⟨b1,b2⟩|⟨_,b1,_⟩
    ·have b3:sg (!(nD n X==nD false Y)) (quQ 1 (!(nD n X==nD false Y)) (od X) (od Y) (eD X e -eD Y e' -pos))=sg (!(nD n X==nD false Y)) (rdQ 0 (!(nD n X==nD false Y)) (nu (od X) (eD X e -eD Y e' -pos)/de (od Y) (eD X e -eD Y e' -pos)) (bhv (nu (od X) (eD X e -eD Y e' -pos)) (de (od Y) (eD X e -eD Y e' -pos)))):=b2
     rw [b3];exact Int.le_of_eq b1.symm
    ·exact Int.le_of_lt b1
   generalize sg (!(nD n X==nD false Y)) (quQ 1 (!(nD n X==nD false Y)) (od X) (od Y) (eD X e -eD Y e' -pos))=L at*
   generalize sg (!(nD n X==nD false Y)) (nu (od X) (eD X e -eD Y e' -pos))=Z at*
   generalize ((de (od Y) (eD X e -eD Y e' -pos):Nat):Int)=D at*
   apply Int.le_of_mul_le_mul_right (a:=D) _ hDi
   calc sg n X*P1*(S1000:Int)*D=sg n X*P1*D*(S1000:Int):=by ac_rfl
    _=Z*Pp*((Y:Int)*P2):=hid
    _=Z*(Pp*((Y:Int)*P2)):=by ac_rfl
    _≤L*D*(Pp*((Y:Int)*P2)):=Int.mul_le_mul_of_nonneg_right hH hW
    _=L*Pp*((Y:Int)*P2)*D:=by ac_rfl
end Sm
end
section
open Go Go.RowKit Eng Sp Dg L2
namespace Sm
open _root_.Go.Proofs.YtbeiopoejdkheaaGreatDoor.Wr (qt)
open Sb Dy R7
theorem zcf {lo hi lo' hi' l u P Q P' Q' S:Int} (hS:0<S) (hQ:0<Q) (hQ':0<Q') (h1:lo*Q≤P) (h2:P≤hi*Q) (h3:lo'*Q'≤P') (h4:P'≤hi'*Q') (hp:0<lo') (hl:l*(if lo<0 then lo' else hi')≤lo*S) (hu:hi*S≤u*(if hi<0 then hi' else lo')):l*(Q*P')≤P*Q'*S∧P*Q'*S≤u*(Q*P'):=by
 have hP':0<P':=Int.lt_of_lt_of_le (Int.mul_pos hp hQ') h3
 have hQS:0≤Q'*S:=Int.le_of_lt (Int.mul_pos hQ' hS)
 have hQP:0≤Q*P':=Int.le_of_lt (Int.mul_pos hQ hP')
 have g1:lo*Q*(Q'*S)≤P*(Q'*S):=Int.mul_le_mul_of_nonneg_right h1 hQS
 have g2:P*(Q'*S)≤hi*Q*(Q'*S):=Int.mul_le_mul_of_nonneg_right h2 hQS
 have eP:P*Q'*S=P*(Q'*S):=Int.mul_assoc ..
 rw [eP]
 have hQQ:0≤Q'*Q:=Int.le_of_lt (Int.mul_pos hQ' hQ)
 have sc:∀c,l*c≤lo*S→l*(c*Q')*Q≤lo*Q*(Q'*S):=fun c h=>by
  have:=Int.mul_le_mul_of_nonneg_right h hQQ
  calc l*(c*Q')*Q=l*c*(Q'*Q):=by ac_rfl
   _≤lo*S*(Q'*Q):=this
   _=lo*Q*(Q'*S):=by ac_rfl
 have sd:∀c,hi*S≤u*c→hi*Q*(Q'*S)≤u*(c*Q')*Q:=fun c h=>by
  have:=Int.mul_le_mul_of_nonneg_right h hQQ
  calc hi*Q*(Q'*S)=hi*S*(Q'*Q):=by ac_rfl
   _≤u*c*(Q'*Q):=this
   _=u*(c*Q')*Q:=by ac_rfl
 have el:∀z:Int,z*(Q*P')=z*P'*Q:=fun z=>by ac_rfl
 constructor
 ·by_cases hlo:lo<0
  ·rw [if_pos hlo] at hl
   have hl0:l≤0:=by
    rcases Int.lt_or_le 0 l with q|q
    ·have a:=Int.mul_pos q hp
     have b:lo*S≤0:=Int.le_of_lt (Int.mul_neg_of_neg_of_pos hlo hS)
     omega
    ·exact q
   have a1:l*P'≤l*(lo'*Q'):=Int.mul_le_mul_of_nonpos_left hl0 h3
   have a2:=Int.mul_le_mul_of_nonneg_right a1 (Int.le_of_lt hQ)
   rw [el]
   exact Int.le_trans (Int.le_trans a2 (sc _ hl)) g1
  ·rw [if_neg hlo] at hl
   rcases Int.lt_or_le l 0 with q|q
   ·have a1:l*(Q*P')≤0:=Int.mul_nonpos_of_nonpos_of_nonneg (Int.le_of_lt q) hQP
    have a2:0≤lo*Q*(Q'*S):=Int.mul_nonneg (Int.mul_nonneg (by omega) (Int.le_of_lt hQ)) hQS
    omega
   ·have a1:l*P'≤l*(hi'*Q'):=Int.mul_le_mul_of_nonneg_left h4 q
    have a2:=Int.mul_le_mul_of_nonneg_right a1 (Int.le_of_lt hQ)
    rw [el]
    exact Int.le_trans (Int.le_trans a2 (sc _ hl)) g1
 ·by_cases hhi:hi<0
  ·rw [if_pos hhi] at hu
   rcases Int.lt_or_le u 0 with q|q
   ·have a1:u*(hi'*Q')≤u*P':=Int.mul_le_mul_of_nonpos_left (Int.le_of_lt q) h4
    have a2:=Int.mul_le_mul_of_nonneg_right a1 (Int.le_of_lt hQ)
    rw [el]
    exact Int.le_trans g2 (Int.le_trans (sd _ hu) a2)
   ·have a1:0≤u*(Q*P'):=Int.mul_nonneg q hQP
    have a2:hi*Q*(Q'*S)≤0:=Int.mul_nonpos_of_nonpos_of_nonneg (Int.mul_nonpos_of_nonpos_of_nonneg (Int.le_of_lt hhi) (Int.le_of_lt hQ)) hQS
    omega
  ·rw [if_neg hhi] at hu
   have hu0:0≤u:=by
    rcases Int.lt_or_le u 0 with q|q
    ·have a:=Int.mul_neg_of_neg_of_pos q hp
     have b:0≤hi*S:=Int.mul_nonneg (by omega) (Int.le_of_lt hS)
     omega
    ·exact q
   have a1:u*(lo'*Q')≤u*P':=Int.mul_le_mul_of_nonneg_left h3 hu0
   have a2:=Int.mul_le_mul_of_nonneg_right a1 (Int.le_of_lt hQ)
   rw [el]
   exact Int.le_trans g2 (Int.le_trans (sd _ hu) a2)
def QP (lo hi lo' hi' l u:Int):Prop:=∀P Q P' Q':Int,0<Q→0<Q'→lo*Q≤P→P≤hi*Q→lo'*Q'≤P'→P'≤hi'*Q'→
 (0<lo'→l*(Q*P')≤P*Q'*(S1000:Int)∧P*Q'*(S1000:Int)≤u*(Q*P'))∧(hi'<0→l*(Q* -P')≤-P*Q'*(S1000:Int)∧-P*Q'*(S1000:Int)≤u*(Q* -P'))
theorem qi:(0:Int)<(S1000:Int):=by have:=ju;omega
theorem zfp {lo hi lo' hi' l u:Int} (h:0<lo') (hle:lo'≤hi') (hl:l*(if lo<0 then lo' else hi')≤lo*(S1000:Int)) (hu:hi*(S1000:Int)≤u*(if hi<0 then hi' else lo')):QP lo hi lo' hi' l u:=
 fun P Q P' Q' hQ hQ' h1 h2 h3 h4=>⟨fun _=>zcf qi hQ hQ' h1 h2 h3 h4 h hl hu,fun hn=>by omega⟩
theorem zfn {lo hi lo' hi' l u:Int} (h:hi'<0) (hle:lo'≤hi') (hl:l*(if -hi<0 then -hi' else -lo')≤-hi*(S1000:Int)) (hu: -lo*(S1000:Int)≤u*(if -lo<0 then -lo' else -hi')):QP lo hi lo' hi' l u:=
 fun P Q P' Q' hQ hQ' h1 h2 h3 h4=>⟨fun hn=>by omega,fun _=>zcf (lo:= -hi) (hi:= -lo) (lo':= -hi') (hi':= -lo') (P:= -P) (P':= -P') qi hQ hQ' (by rw [Int.neg_mul];omega) (by rw [Int.neg_mul];omega) (by rw [Int.neg_mul];omega) (by rw [Int.neg_mul];omega) (by omega) hl hu⟩
theorem zdk {w w1 nA nB nC nD' sA sB sC sD} {eA eB eC eD' vA vB vC vD pos:Int} {K:Nat} {P:Int→Int→Prop} {Fin:Ending→World→Prop} (hT:Tab w) (a:Ahead w w1) (dA:Dv w1 nA sA eA K vA) (dB:Dv w1 nB sB eB K vB) (dC:Dv w1 nC sC eC K vC) (dD:Dv w1 nD' sD eD' K vD) (hB:0<vB) (hD:0<vD) (hp: -150≤pos∧pos≤50) (hK:K≤8192) (hP:∀l u,l*vB≤vA*(S1000:Int)→vC*(S1000:Int)≤u*vD→P l u) (hF:∀en w',AS 65536 P en w'→Fin en w'):Calls pr rounded_Quo_id #[.agg (c3 nA sA eA), .agg (c3 nB sB eB), .int .i64 pos, .int .i64 0] w1 fun e9 w16=>∃b6:Bool,∃s5:Slc,∃x8:Int,∃x9:Int,e9= .returned (Value.tuple #[Value.agg #[Value.bool b6,s5.v,Value.int .i64 x8],Value.int .i64 x9])∧Ahead w1 w16∧(∀w17,Ext w16 w17→Ahead w w17→Calls pr rounded_Quo_id #[.agg (c3 nC sC eC), .agg (c3 nD' sD eD'), .int .i64 pos, .int .i64 1] w17 fun e10 w18=>∃b7:Bool,∃s6:Slc,∃x10:Int,∃x11:Int,e10= .returned (Value.tuple #[Value.agg #[Value.bool b7,s6.v,Value.int .i64 x10],Value.int .i64 x11])∧Ahead w17 w18∧(∀w19,Ext w18 w19→Ahead w w19→Calls pr span_ends_id #[Value.agg #[Value.bool b6,s5.v,Value.int .i64 x8],Value.int .i64 x9,Value.agg #[Value.bool b7,s6.v,Value.int .i64 x10],Value.int .i64 x11] w19 fun e11 w20=>∃b8:Bool,∃s7:Slc,∃x12:Int,∃b9:Bool,∃s8:Slc,∃x13:Int,∃x14:Int,e11= .returned (Value.tuple #[Value.agg #[Value.bool b8,s7.v,Value.int .i64 x12,Value.bool b9,s8.v,Value.int .i64 x13],Value.int .i64 x14])∧Ahead w19 w20∧(∀w21,Ext w20 w21→Ahead w w21→Fin (.returned (Value.tuple #[Value.agg #[Value.bool b8,s7.v,Value.int .i64 x12,Value.bool b9,s8.v,Value.int .i64 x13],Value.int .i64 x14])) w21))):=by
 refine Calls.mono (D7 (hT.ahead a) dA dB hB hp (.inl rfl) hK) ?_
 rintro en w2 ⟨k2,na,sa,ea,va,rfl,da,pa,_⟩
 refine ⟨_,_,_,_,rfl,k2,fun w3 x3 a3=>Calls.mono (D7 (hT.ahead a3) ((dC.ahead k2).ext x3) ((dD.ahead k2).ext x3) hD hp (.inr rfl) hK) ?_⟩
 rintro en w4 ⟨k4,nb,sb,eb,vb,rfl,db,_,pb⟩
 refine ⟨_,_,_,_,rfl,k4,fun w5 x5 a5=>Calls.mono qt ?_⟩
 rintro en w6 ⟨k6,rfl⟩
 exact ⟨_,_,_,_,_,_,_,rfl,k6,fun w7 x7 a7=>hF _ _ ⟨_,_,_,_,_,_,va,vb,rfl,((((da.ext x3).ahead k4).ext x5).ahead k6).ext x7,((db.ext x5).ahead k6).ext x7,hP _ _ (pa rfl) (pb rfl)⟩⟩
def noQ (en:Ending):Prop:=en= .returned (.tuple #[.agg (c6 false ⟨none,0,0⟩ 0 false ⟨none,0,0⟩ 0), .int .i64 101])
def QF (lo hi lo' hi':Int) (en:Ending) (w':World):Prop:=(lo'≤0∧0≤hi'∧noQ en)∨((0<lo'∨hi'<0)∧AS 65536 (QP lo hi lo' hi') en w')
theorem QF.ext {lo hi lo' hi':Int} {en:Ending} {w w'} (h:QF lo hi lo' hi' en w) (x:Ext w w'):QF lo hi lo' hi' en w':=by
 rcases h with h|⟨h1,h2⟩
 ·exact .inl h
 ·exact .inr ⟨h1,h2.ext x⟩
def QK (pos:Int) (K:Nat) (lo hi lo' hi':Int) (t:Int) (n1:Bool) (s1:Slc) (e1:Int) (n2:Bool) (s2:Slc) (e2:Int) (n3:Bool) (s3:Slc) (e3:Int) (n4:Bool) (s4:Slc) (e4:Int) (w:World) (a b c d:Int):Prop:=
 pos=t∧Sv w n1 s1 e1 n2 s2 e2 K a b∧Sv w n3 s3 e3 n4 s4 e4 K c d∧0<c∧(0<lo'∨hi'<0)∧∀l u,l*(if a<0 then c else d)≤a*(S1000:Int)→b*(S1000:Int)≤u*(if b<0 then d else c)→QP lo hi lo' hi' l u
theorem Gb {w n1 s1} {e1:Int} {n2 s2} {e2:Int} {n3:Bool} {s3:Slc} {e3:Int} {n4:Bool} {s4:Slc} {e4:Int} {K:Nat} {lo hi lo' hi' pos:Int} (hT:Tab w) (h:Sv w n1 s1 e1 n2 s2 e2 K lo hi) (h':Sv w n3 s3 e3 n4 s4 e4 K lo' hi') (hp: -150≤pos∧pos≤50) (hK:K≤8192):Calls pr span_quotients_id #[.agg (c6 n1 s1 e1 n2 s2 e2), .agg (c6 n3 s3 e3 n4 s4 e4), .int .i64 pos] w fun en w'=>Ahead w w'∧QF lo hi lo' hi' en w':=by
 have hle:=h.le
 have hle':=h'.le
 refine Yb n1 s1 e1 n2 s2 e2 n3 s3 e3 n4 s4 e4 pos w (QF lo hi lo' hi')
  (fun t m1 t1 f1 m2 t2 f2 m3 t3 f3 m4 t4 f4 _ _ _ _ _ _ w_=>∃a b c d,QK pos K lo hi lo' hi' t m1 t1 f1 m2 t2 f2 m3 t3 f3 m4 t4 f4 w_ a b c d)
  (fun t m1 t1 f1 m2 t2 f2 m3 t3 f3 m4 t4 f4 _ _ _ _ _ _ b8 u8 x8 b9 u9 x9 w_=>(m4=b8∧t4=u8∧f4=x8)∧(m3=b9∧t3=u9∧f3=x9)∧∃a b c d,QK pos K lo hi lo' hi' t m1 t1 f1 m2 t2 f2 m3 t3 f3 m4 t4 f4 w_ a b c d)
  (fun t m1 t1 f1 m2 t2 f2 m3 t3 f3 m4 t4 f4 _ _ _ _ _ _ b8 u8 x8 b9 u9 x9 w_=>(m3=b9∧t3=u9∧f3=x9)∧∃a b c d,QK pos K lo hi lo' hi' t m1 t1 f1 m2 t2 f2 m3 t3 f3 m4 t4 f4 w_ a b c d∧Dv w_ b8 u8 x8 K (if a<0 then c else d))
  (fun t m1 t1 f1 m2 t2 f2 _ _ _ _ _ _ b8 u8 x8 b9 u9 x9 w_=>pos=t∧(0<lo'∨hi'<0)∧∃a b d8 d9,Sv w_ m1 t1 f1 m2 t2 f2 K a b∧Dv w_ b8 u8 x8 K d8∧Dv w_ b9 u9 x9 K d9∧0<d8∧0<d9∧∀l u,l*d8≤a*(S1000:Int)→b*(S1000:Int)≤u*d9→QP lo hi lo' hi' l u)
  (fun w1 x1 a1=>Calls.mono (c9 (h'.ahead a1)) ?_) ?_ ?_ ?_ ?_
 ·rintro en w2 ⟨k2,rfl⟩
  have a2:=a1.trans k2
  refine ⟨_,rfl,k2,zm (fun hn=>fun w3 x3 a3=> ?_) (fun hn=>Calls.mono (gd (h'.a.ahead a2)) ?_)⟩
  ·have:=of_decide_eq_true hn
   exact .inl ⟨this.1,this.2,rfl⟩
  have hn':=of_decide_eq_false hn
  rintro en w4 ⟨k4,rfl⟩
  have a4:=a2.trans k4
  refine ⟨_,rfl,k4,zm (fun hneg=>fun w5 x5 a5=> ?_) (fun hpos=> ?_)⟩
  ·have hneg':=pt.1 (of_decide_eq_true hneg)
   have hhi':hi'<0:=by omega
   refine Calls.mono mq ?_
   rintro en w6 ⟨k6,rfl⟩
   refine ⟨_,_,_,rfl,k6,Calls.mono mq ?_⟩
   rintro en w7 ⟨k7,rfl⟩
   refine ⟨_,_,_,rfl,k7,fun w8 x8 a8=>Calls.mono mq ?_⟩
   rintro en w9 ⟨k9,rfl⟩
   refine ⟨_,_,_,rfl,k9,Calls.mono mq ?_⟩
   rintro en w10 ⟨k10,rfl⟩
   exact ⟨_,_,_,rfl,k10,fun w11 x11 a11=>⟨-hi,-lo,-hi',-lo',rfl,⟨(h.b.ahead a11).neg,(h.a.ahead a11).neg,by omega⟩,⟨(h'.b.ahead a11).neg,(h'.a.ahead a11).neg,by omega⟩,by omega, .inr hhi',fun l u g1 g2=>zfn hhi' hle' g1 g2⟩⟩
  ·have hpos':¬lo'<0:=fun q=>of_decide_eq_false hpos (pt.2 q)
   have hlo':0<lo':=by omega
   exact ⟨lo,hi,lo',hi',rfl,h.ahead a4,h'.ahead a4,hlo', .inl hlo',fun l u g1 g2=>zfp hlo' hle' g1 g2⟩
 ·rintro t m1 t1 f1 m2 t2 f2 m3 t3 f3 m4 t4 f4 _ _ _ _ _ _ w_ a0 ⟨a,b,c,d,rfl,A,B,q⟩ w21 x21 a21
  exact ⟨⟨rfl,rfl,rfl⟩,⟨rfl,rfl,rfl⟩,a,b,c,d,rfl,A.ext x21,B.ext x21,q⟩
 ·rintro t m1 t1 f1 m2 t2 f2 m3 t3 f3 m4 t4 f4 _ _ _ _ _ _ b8 u8 x8 b9 u9 x9 w_ a0 ⟨⟨rfl,rfl,rfl⟩,⟨rfl,rfl,rfl⟩,a,b,c,d,rfl,A,B,q⟩
  refine Calls.mono (gd A.a) ?_
  rintro en w11 ⟨k11,rfl⟩
  refine ⟨_,rfl,k11,zm (fun c1=>fun w20 x20 a20=> ?_) (fun c1=> ?_)⟩
  ·have c1':=pt.1 (of_decide_eq_true c1)
   exact ⟨⟨rfl,rfl,rfl⟩,a,b,c,d,⟨rfl,(A.ahead k11).ext x20,(B.ahead k11).ext x20,q⟩,by rw [if_pos c1'];exact (B.a.ahead k11).ext x20⟩
  ·have c1':¬a<0:=fun q=>of_decide_eq_false c1 (pt.2 q)
   exact ⟨⟨rfl,rfl,rfl⟩,a,b,c,d,⟨rfl,A.ahead k11,B.ahead k11,q⟩,by rw [if_neg c1'];exact B.b.ahead k11⟩
 ·rintro t m1 t1 f1 m2 t2 f2 m3 t3 f3 m4 t4 f4 _ _ _ _ _ _ b8 u8 x8 b9 u9 x9 w_ a0 ⟨⟨rfl,rfl,rfl⟩,a,b,c,d,⟨rfl,A,B,hc,hs,q⟩,D8⟩
  have hcd:=B.le
  have p8:0<(if a<0 then c else d):=by split<;>omega
  refine Calls.mono (gd A.b) ?_
  rintro en w12 ⟨k12,rfl⟩
  refine ⟨_,rfl,k12,zm (fun c1=>fun w19 x19 a19=> ?_) (fun c1=> ?_)⟩
  ·have c1':=pt.1 (of_decide_eq_true c1)
   exact ⟨rfl,hs,a,b,_,d,(A.ahead k12).ext x19,(D8.ahead k12).ext x19,(B.b.ahead k12).ext x19,p8,by omega,fun l u g1 g2=>q l u g1 (by rw [if_pos c1'];exact g2)⟩
  ·have c1':¬b<0:=fun q=>of_decide_eq_false c1 (pt.2 q)
   exact ⟨rfl,hs,a,b,_,c,A.ahead k12,D8.ahead k12,B.a.ahead k12,p8,hc,fun l u g1 g2=>q l u g1 (by rw [if_neg c1'];exact g2)⟩
 ·rintro t m1 t1 f1 m2 t2 f2 _ _ _ _ _ _ b8 u8 x8 b9 u9 x9 w_ a0 ⟨rfl,hs,a,b,d8,d9,A,D8,D9,p8,p9,q⟩
  exact zdk hT a0 A.a D8 A.b D9 p8 p9 hp hK q (fun en w' g=> .inr ⟨hs,g⟩)
theorem zeb {w n1 s1} {e1:Int} {n2 s2} {e2:Int} {n3:Bool} {s3:Slc} {e3:Int} {n4:Bool} {s4:Slc} {e4:Int} {K:Nat} {lo hi lo' hi' pos:Int} (hT:Tab w) (h:Sv w n1 s1 e1 n2 s2 e2 K lo hi) (h':Sv w n3 s3 e3 n4 s4 e4 K lo' hi') (hp: -150≤pos∧pos≤50) (hK:K≤8192):Calls pr span_Quo_id #[.agg (c6 n1 s1 e1 n2 s2 e2), .agg (c6 n3 s3 e3 n4 s4 e4), .int .i64 pos] w fun en w'=>Ahead w w'∧QF lo hi lo' hi' en w':=by
 refine Dm n1 s1 e1 n2 s2 e2 n3 s3 e3 n4 s4 e4 pos w (QF lo hi lo' hi') fun w1 x1 a1=>yv fun b w2 hb h2 hs2 B2=> ?_
 have a2:=a1.trans h2
 refine Calls.mono (mm (hT.ahead a2) B2 (by omega) (fd (h.ahead a2) (h'.ahead a2)) hp) ?_
 rintro en w3 ⟨h3,rfl⟩
 have a3:=a2.trans h3
 refine ⟨_,rfl,h3,zt rfl (Calls.mono (Gb (hT.ahead a3) (h.ahead a3) (h'.ahead a3) hp hK) ?_)⟩
 rintro en w8 ⟨k8,hq⟩
 rcases id hq with ⟨q1,q2,rfl⟩|⟨q1,n1',s1',e1',n2',s2',e2',l,u,rfl,dl,du,hlu⟩
 ·exact ⟨_,_,_,_,_,_,_,rfl,k8,fun w9 x9 a9=>hq.ext x9⟩
 ·exact ⟨_,_,_,_,_,_,_,rfl,k8,fun w9 x9 a9=>hq.ext x9⟩
end Sm
end
section
open Go Go.RowKit Eng
open _root_.Go.IntKind (wrap)
def vh (K5:Int→Addr→Addr→Addr→World→Prop) (K6:Int→Addr→Addr→Addr→Addr→World→Prop) (K13:Int→Addr→Addr→Addr→Addr→Addr→Addr→World→Prop) (K15:Int→Addr→Addr→Addr→Addr→Addr→Addr→World→Prop):Nat→Option ((Act→World→Prop)×(Act→World→Nat))
 |3000005=>some (fun a_ w_=>atSz a_ 202 (atI .i64 a_ 1 fun t1=>atA a_ 2 fun t2=>atA a_ 5 fun t5=>atA a_ 6 fun t6=>K5 t1 t2 t5 t6 w_),fun _ _=>0)
 |3000006=>some (fun a_ w_=>atSz a_ 202 (atI .i64 a_ 1 fun t1=>atA a_ 5 fun t5=>atA a_ 6 fun t6=>atA a_ 7 fun t7=>atA a_ 8 fun t8=>K6 t1 t5 t6 t7 t8 w_),fun _ _=>0)
 |3000013=>some (fun a_ w_=>atSz a_ 202 (atI .i64 a_ 1 fun t1=>atA a_ 5 fun t5=>atA a_ 6 fun t6=>atA a_ 7 fun t7=>atA a_ 8 fun t8=>atA a_ 17 fun t17=>atA a_ 18 fun t18=>K13 t1 t5 t6 t7 t8 t17 t18 w_),fun _ _=>0)
 |3000015=>some (fun a_ w_=>atSz a_ 202 (atI .i64 a_ 1 fun t1=>atA a_ 5 fun t5=>atA a_ 6 fun t6=>atA a_ 7 fun t7=>atA a_ 8 fun t8=>atA a_ 17 fun t17=>atA a_ 18 fun t18=>K15 t1 t5 t6 t7 t8 t17 t18 w_),fun _ _=>0)
 |_=>none
theorem fb (ay:Bool) (az:Slc) (aA:Int) (aB:Bool) (aC:Slc) (aD:Int) (aE:Bool) (aF:Slc) (aG:Int) (aH:Bool) (au:Slc) (av:Int) (aw:Int) (ax:Int) (a1:Int) (w:World) (R:Ending→World→Prop) (K5:Int→Addr→Addr→Addr→World→Prop) (K6:Int→Addr→Addr→Addr→Addr→World→Prop) (K13:Int→Addr→Addr→Addr→Addr→Addr→Addr→World→Prop) (K15:Int→Addr→Addr→Addr→Addr→Addr→Addr→World→Prop) (h:newC w #[.bool ay,az.v,vi aA,.bool aB,aC.v,vi aD,.bool aE,aF.v,vi aG,.bool aH,au.v,vi av,vi aw,vi ax] 52 fun ad1 w1=>ldS (ad1.add 1) w1 fun s1=>ldS ((ad1.add 3).add 1) w1 fun s2=>ldS ((ad1.add 6).add 1) w1 fun s3=>ldS (((ad1.add 6).add 3).add 1) w1 fun s4=>newC w1 #[s1.v,s2.v,s3.v,s4.v] 22 fun ad2 w2=>kB 5 #[vi 4096,(⟨some ad2,4,4⟩:Slc).v] w2 fun w3 b1=>(br (!b1) (kB 6 #[] w3 fun w4 b2=>(R (.returned (.bool b2)) w4)) (∃V1:Nat→Nat→Prop,Out (V1 1) ad1 (ld6 ad1 w3.drew fun b3 s5 x1 b4 s6 x2=>Out (V1 4) (ad1.add 6) (ld6 (ad1.add 6) w3.drew fun b5 s7 x3 b6 s8 x4=>(Calls pr 21 #[uS b3 s5 x1 b4 s6 x2] w3.drew fun e3 w5=>∃b7:Bool,∃s9:Slc,∃x5:Int,∃b8:Bool,∃s10:Slc,∃x6:Int,e3= .returned (uS b7 s9 x5 b8 s10 x6)∧(Bar (V1 4) w3.drew w5∧((Calls pr 21 #[uS b5 s7 x3 b6 s8 x4] w5 fun e4 w6=>∃b9:Bool,∃s11:Slc,∃x7:Int,∃b10:Bool,∃s12:Slc,∃x8:Int,e4= .returned (uS b9 s11 x7 b10 s12 x8)∧((kI 8 #[vi a1,vi (-150),vi 50] w6 fun w7 x9=>((newC w7 (zS false nSl 0 false nSl 0) 50 fun ad3 w8=>Bar (V1 1) w7 w8∧(Bar (V1 4) w7 w8∧(newC w8 (zS false nSl 0 false nSl 0) 50 fun ad4 w9=>Bar (V1 1) w8 w9∧(Bar (V1 4) w8 w9∧(xS ad3 b7 s9 x5 b8 s10 x6 w9 fun w15=>xS ad4 b9 s11 x7 b10 s12 x8 w15 fun w21=>K5 x9 ad1 ad3 ad4 w21)))))∧(newC w7 (zS false nSl 0 false nSl 0) 50 fun ad35 w235=>Bar (V1 1) w7 w235∧(Bar (V1 4) w7 w235∧(newC w235 (zS false nSl 0 false nSl 0) 50 fun ad36 w236=>Bar (V1 1) w235 w236∧(Bar (V1 4) w235 w236∧(xS ad36 b7 s9 x5 b8 s10 x6 w236 fun w242=>xS ad35 b9 s11 x7 b10 s12 x8 w242 fun w248=>K5 x9 ad1 ad36 ad35 w248)))))))∧((newC w6 (zS false nSl 0 false nSl 0) 50 fun ad37 w249=>Bar (V1 1) w6 w249∧(Bar (V1 4) w6 w249∧((kI 8 #[vi a1,vi (-150),vi 50] w249 fun w250 x89=>(newC w250 (zS false nSl 0 false nSl 0) 50 fun ad38 w251=>Bar (V1 1) w250 w251∧(Bar (V1 4) w250 w251∧(xS ad37 b7 s9 x5 b8 s10 x6 w251 fun w257=>xS ad38 b9 s11 x7 b10 s12 x8 w257 fun w263=>K5 x89 ad1 ad37 ad38 w263))))∧(newC w249 (zS false nSl 0 false nSl 0) 50 fun ad39 w264=>Bar (V1 1) w249 w264∧(Bar (V1 4) w249 w264∧(kI 8 #[vi a1,vi (-150),vi 50] w264 fun w265 x90=>(xS ad37 b7 s9 x5 b8 s10 x6 w265 fun w271=>xS ad39 b9 s11 x7 b10 s12 x8 w271 fun w277=>K5 x90 ad1 ad37 ad39 w277)))))))∧(newC w6 (zS false nSl 0 false nSl 0) 50 fun ad40 w278=>Bar (V1 1) w6 w278∧(Bar (V1 4) w6 w278∧((kI 8 #[vi a1,vi (-150),vi 50] w278 fun w279 x91=>(newC w279 (zS false nSl 0 false nSl 0) 50 fun ad41 w280=>Bar (V1 1) w279 w280∧(Bar (V1 4) w279 w280∧(xS ad41 b7 s9 x5 b8 s10 x6 w280 fun w286=>xS ad40 b9 s11 x7 b10 s12 x8 w286 fun w292=>K5 x91 ad1 ad41 ad40 w292))))∧(newC w278 (zS false nSl 0 false nSl 0) 50 fun ad42 w293=>Bar (V1 1) w278 w293∧(Bar (V1 4) w278 w293∧(kI 8 #[vi a1,vi (-150),vi 50] w293 fun w294 x92=>(xS ad42 b7 s9 x5 b8 s10 x6 w294 fun w300=>xS ad40 b9 s11 x7 b10 s12 x8 w300 fun w306=>K5 x92 ad1 ad42 ad40 w306))))))))))∧((newC w5 (zS false nSl 0 false nSl 0) 50 fun ad43 w307=>Bar (V1 1) w5 w307∧(Bar (V1 4) w5 w307∧((Calls pr 21 #[uS b5 s7 x3 b6 s8 x4] w307 fun e55 w308=>∃b130:Bool,∃s165:Slc,∃x93:Int,∃b131:Bool,∃s166:Slc,∃x94:Int,e55= .returned (uS b130 s165 x93 b131 s166 x94)∧((kI 8 #[vi a1,vi (-150),vi 50] w308 fun w309 x95=>(newC w309 (zS false nSl 0 false nSl 0) 50 fun ad44 w310=>Bar (V1 1) w309 w310∧(Bar (V1 4) w309 w310∧(xS ad43 b7 s9 x5 b8 s10 x6 w310 fun w316=>xS ad44 b130 s165 x93 b131 s166 x94 w316 fun w322=>K5 x95 ad1 ad43 ad44 w322))))∧(newC w308 (zS false nSl 0 false nSl 0) 50 fun ad45 w323=>Bar (V1 1) w308 w323∧(Bar (V1 4) w308 w323∧(kI 8 #[vi a1,vi (-150),vi 50] w323 fun w324 x96=>(xS ad43 b7 s9 x5 b8 s10 x6 w324 fun w330=>xS ad45 b130 s165 x93 b131 s166 x94 w330 fun w336=>K5 x96 ad1 ad43 ad45 w336))))))∧(newC w307 (zS false nSl 0 false nSl 0) 50 fun ad46 w337=>Bar (V1 1) w307 w337∧(Bar (V1 4) w307 w337∧(Calls pr 21 #[uS b5 s7 x3 b6 s8 x4] w337 fun e58 w338=>∃b132:Bool,∃s167:Slc,∃x97:Int,∃b133:Bool,∃s168:Slc,∃x98:Int,e58= .returned (uS b132 s167 x97 b133 s168 x98)∧(kI 8 #[vi a1,vi (-150),vi 50] w338 fun w339 x99=>(xS ad43 b7 s9 x5 b8 s10 x6 w339 fun w345=>xS ad46 b132 s167 x97 b133 s168 x98 w345 fun w351=>K5 x99 ad1 ad43 ad46 w351))))))))∧(newC w5 (zS false nSl 0 false nSl 0) 50 fun ad47 w352=>Bar (V1 1) w5 w352∧(Bar (V1 4) w5 w352∧((Calls pr 21 #[uS b5 s7 x3 b6 s8 x4] w352 fun e60 w353=>∃b134:Bool,∃s169:Slc,∃x100:Int,∃b135:Bool,∃s170:Slc,∃x101:Int,e60= .returned (uS b134 s169 x100 b135 s170 x101)∧((kI 8 #[vi a1,vi (-150),vi 50] w353 fun w354 x102=>(newC w354 (zS false nSl 0 false nSl 0) 50 fun ad48 w355=>Bar (V1 1) w354 w355∧(Bar (V1 4) w354 w355∧(xS ad48 b7 s9 x5 b8 s10 x6 w355 fun w361=>xS ad47 b134 s169 x100 b135 s170 x101 w361 fun w367=>K5 x102 ad1 ad48 ad47 w367))))∧(newC w353 (zS false nSl 0 false nSl 0) 50 fun ad49 w368=>Bar (V1 1) w353 w368∧(Bar (V1 4) w353 w368∧(kI 8 #[vi a1,vi (-150),vi 50] w368 fun w369 x103=>(xS ad49 b7 s9 x5 b8 s10 x6 w369 fun w375=>xS ad47 b134 s169 x100 b135 s170 x101 w375 fun w381=>K5 x103 ad1 ad49 ad47 w381))))))∧(newC w352 (zS false nSl 0 false nSl 0) 50 fun ad50 w382=>Bar (V1 1) w352 w382∧(Bar (V1 4) w352 w382∧(Calls pr 21 #[uS b5 s7 x3 b6 s8 x4] w382 fun e63 w383=>∃b136:Bool,∃s171:Slc,∃x104:Int,∃b137:Bool,∃s172:Slc,∃x105:Int,e63= .returned (uS b136 s171 x104 b137 s172 x105)∧(kI 8 #[vi a1,vi (-150),vi 50] w383 fun w384 x106=>(xS ad50 b7 s9 x5 b8 s10 x6 w384 fun w390=>xS ad47 b136 s171 x104 b137 s172 x105 w390 fun w396=>K5 x106 ad1 ad50 ad47 w396))))))))))))∧((newC w3.drew (zS false nSl 0 false nSl 0) 50 fun ad51 w397=>Bar (V1 1) w3.drew w397∧(Bar (V1 4) w3.drew w397∧((Calls pr 21 #[uS b3 s5 x1 b4 s6 x2] w397 fun e65 w398=>∃b138:Bool,∃s173:Slc,∃x107:Int,∃b139:Bool,∃s174:Slc,∃x108:Int,e65= .returned (uS b138 s173 x107 b139 s174 x108)∧(Bar (V1 4) w397 w398∧((Calls pr 21 #[uS b5 s7 x3 b6 s8 x4] w398 fun e66 w399=>∃b140:Bool,∃s175:Slc,∃x109:Int,∃b141:Bool,∃s176:Slc,∃x110:Int,e66= .returned (uS b140 s175 x109 b141 s176 x110)∧((kI 8 #[vi a1,vi (-150),vi 50] w399 fun w400 x111=>(newC w400 (zS false nSl 0 false nSl 0) 50 fun ad52 w401=>Bar (V1 1) w400 w401∧(Bar (V1 4) w400 w401∧(xS ad51 b138 s173 x107 b139 s174 x108 w401 fun w407=>xS ad52 b140 s175 x109 b141 s176 x110 w407 fun w413=>K5 x111 ad1 ad51 ad52 w413))))∧(newC w399 (zS false nSl 0 false nSl 0) 50 fun ad53 w414=>Bar (V1 1) w399 w414∧(Bar (V1 4) w399 w414∧(kI 8 #[vi a1,vi (-150),vi 50] w414 fun w415 x112=>(xS ad51 b138 s173 x107 b139 s174 x108 w415 fun w421=>xS ad53 b140 s175 x109 b141 s176 x110 w421 fun w427=>K5 x112 ad1 ad51 ad53 w427))))))∧(newC w398 (zS false nSl 0 false nSl 0) 50 fun ad54 w428=>Bar (V1 1) w398 w428∧(Bar (V1 4) w398 w428∧(Calls pr 21 #[uS b5 s7 x3 b6 s8 x4] w428 fun e69 w429=>∃b142:Bool,∃s177:Slc,∃x113:Int,∃b143:Bool,∃s178:Slc,∃x114:Int,e69= .returned (uS b142 s177 x113 b143 s178 x114)∧(kI 8 #[vi a1,vi (-150),vi 50] w429 fun w430 x115=>(xS ad51 b138 s173 x107 b139 s174 x108 w430 fun w436=>xS ad54 b142 s177 x113 b143 s178 x114 w436 fun w442=>K5 x115 ad1 ad51 ad54 w442))))))))∧(newC w397 (zS false nSl 0 false nSl 0) 50 fun ad55 w443=>Bar (V1 1) w397 w443∧(Bar (V1 4) w397 w443∧(Calls pr 21 #[uS b3 s5 x1 b4 s6 x2] w443 fun e71 w444=>∃b144:Bool,∃s179:Slc,∃x116:Int,∃b145:Bool,∃s180:Slc,∃x117:Int,e71= .returned (uS b144 s179 x116 b145 s180 x117)∧(Bar (V1 4) w443 w444∧(Calls pr 21 #[uS b5 s7 x3 b6 s8 x4] w444 fun e72 w445=>∃b146:Bool,∃s181:Slc,∃x118:Int,∃b147:Bool,∃s182:Slc,∃x119:Int,e72= .returned (uS b146 s181 x118 b147 s182 x119)∧(kI 8 #[vi a1,vi (-150),vi 50] w445 fun w446 x120=>(xS ad51 b144 s179 x116 b145 s180 x117 w446 fun w452=>xS ad55 b146 s181 x118 b147 s182 x119 w452 fun w458=>K5 x120 ad1 ad51 ad55 w458))))))))))∧(newC w3.drew (zS false nSl 0 false nSl 0) 50 fun ad56 w459=>Bar (V1 1) w3.drew w459∧(Bar (V1 4) w3.drew w459∧((Calls pr 21 #[uS b3 s5 x1 b4 s6 x2] w459 fun e74 w460=>∃b148:Bool,∃s183:Slc,∃x121:Int,∃b149:Bool,∃s184:Slc,∃x122:Int,e74= .returned (uS b148 s183 x121 b149 s184 x122)∧(Bar (V1 4) w459 w460∧((Calls pr 21 #[uS b5 s7 x3 b6 s8 x4] w460 fun e75 w461=>∃b150:Bool,∃s185:Slc,∃x123:Int,∃b151:Bool,∃s186:Slc,∃x124:Int,e75= .returned (uS b150 s185 x123 b151 s186 x124)∧((kI 8 #[vi a1,vi (-150),vi 50] w461 fun w462 x125=>(newC w462 (zS false nSl 0 false nSl 0) 50 fun ad57 w463=>Bar (V1 1) w462 w463∧(Bar (V1 4) w462 w463∧(xS ad57 b148 s183 x121 b149 s184 x122 w463 fun w469=>xS ad56 b150 s185 x123 b151 s186 x124 w469 fun w475=>K5 x125 ad1 ad57 ad56 w475))))∧(newC w461 (zS false nSl 0 false nSl 0) 50 fun ad58 w476=>Bar (V1 1) w461 w476∧(Bar (V1 4) w461 w476∧(kI 8 #[vi a1,vi (-150),vi 50] w476 fun w477 x126=>(xS ad58 b148 s183 x121 b149 s184 x122 w477 fun w483=>xS ad56 b150 s185 x123 b151 s186 x124 w483 fun w489=>K5 x126 ad1 ad58 ad56 w489))))))∧(newC w460 (zS false nSl 0 false nSl 0) 50 fun ad59 w490=>Bar (V1 1) w460 w490∧(Bar (V1 4) w460 w490∧(Calls pr 21 #[uS b5 s7 x3 b6 s8 x4] w490 fun e78 w491=>∃b152:Bool,∃s187:Slc,∃x127:Int,∃b153:Bool,∃s188:Slc,∃x128:Int,e78= .returned (uS b152 s187 x127 b153 s188 x128)∧(kI 8 #[vi a1,vi (-150),vi 50] w491 fun w492 x129=>(xS ad59 b148 s183 x121 b149 s184 x122 w492 fun w498=>xS ad56 b152 s187 x127 b153 s188 x128 w498 fun w504=>K5 x129 ad1 ad59 ad56 w504))))))))∧(newC w459 (zS false nSl 0 false nSl 0) 50 fun ad60 w505=>Bar (V1 1) w459 w505∧(Bar (V1 4) w459 w505∧(Calls pr 21 #[uS b3 s5 x1 b4 s6 x2] w505 fun e80 w506=>∃b154:Bool,∃s189:Slc,∃x130:Int,∃b155:Bool,∃s190:Slc,∃x131:Int,e80= .returned (uS b154 s189 x130 b155 s190 x131)∧(Bar (V1 4) w505 w506∧(Calls pr 21 #[uS b5 s7 x3 b6 s8 x4] w506 fun e81 w507=>∃b156:Bool,∃s191:Slc,∃x132:Int,∃b157:Bool,∃s192:Slc,∃x133:Int,e81= .returned (uS b156 s191 x132 b157 s192 x133)∧(kI 8 #[vi a1,vi (-150),vi 50] w507 fun w508 x134=>(xS ad60 b154 s189 x130 b155 s190 x131 w508 fun w514=>xS ad56 b156 s191 x132 b157 s192 x133 w514 fun w520=>K5 x134 ad1 ad60 ad56 w520)))))))))))))))) (ao:∀t1 t2 t5 t6 w_,K5 t1 t2 t5 t6 w_→∃V2:Nat→Nat→Prop,Out (V2 0) t5 (ld6 t5 w_.drew fun b11 s13 x10 b12 s14 x11=>Out (V2 2) (t2.add 12) (ldI .i64 (t2.add 12) w_.drew fun x12=>Out (V2 4) t6 (ld6 t6 w_.drew fun b13 s15 x13 b14 s16 x14=>Out (V2 6) (t2.add 13) (ldI .i64 (t2.add 13) w_.drew fun x15=>(kR 22 #[uS b11 s13 x10 b12 s14 x11,vi x12] w_.drew fun w22 b15 s17 s18=>(Bar (V2 4) w_.drew w22∧(Bar (V2 6) w_.drew w22∧((kR 22 #[uS b13 s15 x13 b14 s16 x14,vi x15] w22 fun w23 b16 s19 s20=>((newC w23 (zR false nSl nSl) 34 fun ad5 w24=>Bar (V2 0) w23 w24∧(Bar (V2 2) w23 w24∧(Bar (V2 4) w23 w24∧(Bar (V2 6) w23 w24∧(newC w24 (zR false nSl nSl) 34 fun ad6 w25=>Bar (V2 0) w24 w25∧(Bar (V2 2) w24 w25∧(Bar (V2 4) w24 w25∧(Bar (V2 6) w24 w25∧(xR ad5 b15 s17 s18 w25 fun w28=>xR ad6 b16 s19 s20 w28 fun w31=>K6 t1 t5 t6 ad5 ad6 w31)))))))))∧(newC w23 (zR false nSl nSl) 34 fun ad19 w139=>Bar (V2 0) w23 w139∧(Bar (V2 2) w23 w139∧(Bar (V2 4) w23 w139∧(Bar (V2 6) w23 w139∧(newC w139 (zR false nSl nSl) 34 fun ad20 w140=>Bar (V2 0) w139 w140∧(Bar (V2 2) w139 w140∧(Bar (V2 4) w139 w140∧(Bar (V2 6) w139 w140∧(xR ad20 b15 s17 s18 w140 fun w143=>xR ad19 b16 s19 s20 w143 fun w146=>K6 t1 t5 t6 ad20 ad19 w146)))))))))))∧((newC w22 (zR false nSl nSl) 34 fun ad21 w147=>Bar (V2 0) w22 w147∧(Bar (V2 2) w22 w147∧(Bar (V2 4) w22 w147∧(Bar (V2 6) w22 w147∧((kR 22 #[uS b13 s15 x13 b14 s16 x14,vi x15] w147 fun w148 b116 s137 s138=>(newC w148 (zR false nSl nSl) 34 fun ad22 w149=>Bar (V2 0) w148 w149∧(Bar (V2 2) w148 w149∧(Bar (V2 4) w148 w149∧(Bar (V2 6) w148 w149∧(xR ad21 b15 s17 s18 w149 fun w152=>xR ad22 b116 s137 s138 w152 fun w155=>K6 t1 t5 t6 ad21 ad22 w155))))))∧(newC w147 (zR false nSl nSl) 34 fun ad23 w156=>Bar (V2 0) w147 w156∧(Bar (V2 2) w147 w156∧(Bar (V2 4) w147 w156∧(Bar (V2 6) w147 w156∧(kR 22 #[uS b13 s15 x13 b14 s16 x14,vi x15] w156 fun w157 b117 s139 s140=>(xR ad21 b15 s17 s18 w157 fun w160=>xR ad23 b117 s139 s140 w160 fun w163=>K6 t1 t5 t6 ad21 ad23 w163)))))))))))∧(newC w22 (zR false nSl nSl) 34 fun ad24 w164=>Bar (V2 0) w22 w164∧(Bar (V2 2) w22 w164∧(Bar (V2 4) w22 w164∧(Bar (V2 6) w22 w164∧((kR 22 #[uS b13 s15 x13 b14 s16 x14,vi x15] w164 fun w165 b118 s141 s142=>(newC w165 (zR false nSl nSl) 34 fun ad25 w166=>Bar (V2 0) w165 w166∧(Bar (V2 2) w165 w166∧(Bar (V2 4) w165 w166∧(Bar (V2 6) w165 w166∧(xR ad25 b15 s17 s18 w166 fun w169=>xR ad24 b118 s141 s142 w169 fun w172=>K6 t1 t5 t6 ad25 ad24 w172))))))∧(newC w164 (zR false nSl nSl) 34 fun ad26 w173=>Bar (V2 0) w164 w173∧(Bar (V2 2) w164 w173∧(Bar (V2 4) w164 w173∧(Bar (V2 6) w164 w173∧(kR 22 #[uS b13 s15 x13 b14 s16 x14,vi x15] w173 fun w174 b119 s143 s144=>(xR ad26 b15 s17 s18 w174 fun w177=>xR ad24 b119 s143 s144 w177 fun w180=>K6 t1 t5 t6 ad26 ad24 w180))))))))))))))))∧((newC w_.drew (zR false nSl nSl) 34 fun ad27 w181=>Bar (V2 0) w_.drew w181∧(Bar (V2 2) w_.drew w181∧(Bar (V2 4) w_.drew w181∧(Bar (V2 6) w_.drew w181∧((kR 22 #[uS b11 s13 x10 b12 s14 x11,vi x12] w181 fun w182 b120 s145 s146=>(Bar (V2 4) w181 w182∧(Bar (V2 6) w181 w182∧((kR 22 #[uS b13 s15 x13 b14 s16 x14,vi x15] w182 fun w183 b121 s147 s148=>(newC w183 (zR false nSl nSl) 34 fun ad28 w184=>Bar (V2 0) w183 w184∧(Bar (V2 2) w183 w184∧(Bar (V2 4) w183 w184∧(Bar (V2 6) w183 w184∧(xR ad27 b120 s145 s146 w184 fun w187=>xR ad28 b121 s147 s148 w187 fun w190=>K6 t1 t5 t6 ad27 ad28 w190))))))∧(newC w182 (zR false nSl nSl) 34 fun ad29 w191=>Bar (V2 0) w182 w191∧(Bar (V2 2) w182 w191∧(Bar (V2 4) w182 w191∧(Bar (V2 6) w182 w191∧(kR 22 #[uS b13 s15 x13 b14 s16 x14,vi x15] w191 fun w192 b122 s149 s150=>(xR ad27 b120 s145 s146 w192 fun w195=>xR ad29 b122 s149 s150 w195 fun w198=>K6 t1 t5 t6 ad27 ad29 w198))))))))))∧(newC w181 (zR false nSl nSl) 34 fun ad30 w199=>Bar (V2 0) w181 w199∧(Bar (V2 2) w181 w199∧(Bar (V2 4) w181 w199∧(Bar (V2 6) w181 w199∧(kR 22 #[uS b11 s13 x10 b12 s14 x11,vi x12] w199 fun w200 b123 s151 s152=>(Bar (V2 4) w199 w200∧(Bar (V2 6) w199 w200∧(kR 22 #[uS b13 s15 x13 b14 s16 x14,vi x15] w200 fun w201 b124 s153 s154=>(xR ad27 b123 s151 s152 w201 fun w204=>xR ad30 b124 s153 s154 w204 fun w207=>K6 t1 t5 t6 ad27 ad30 w207))))))))))))))∧(newC w_.drew (zR false nSl nSl) 34 fun ad31 w208=>Bar (V2 0) w_.drew w208∧(Bar (V2 2) w_.drew w208∧(Bar (V2 4) w_.drew w208∧(Bar (V2 6) w_.drew w208∧((kR 22 #[uS b11 s13 x10 b12 s14 x11,vi x12] w208 fun w209 b125 s155 s156=>(Bar (V2 4) w208 w209∧(Bar (V2 6) w208 w209∧((kR 22 #[uS b13 s15 x13 b14 s16 x14,vi x15] w209 fun w210 b126 s157 s158=>(newC w210 (zR false nSl nSl) 34 fun ad32 w211=>Bar (V2 0) w210 w211∧(Bar (V2 2) w210 w211∧(Bar (V2 4) w210 w211∧(Bar (V2 6) w210 w211∧(xR ad32 b125 s155 s156 w211 fun w214=>xR ad31 b126 s157 s158 w214 fun w217=>K6 t1 t5 t6 ad32 ad31 w217))))))∧(newC w209 (zR false nSl nSl) 34 fun ad33 w218=>Bar (V2 0) w209 w218∧(Bar (V2 2) w209 w218∧(Bar (V2 4) w209 w218∧(Bar (V2 6) w209 w218∧(kR 22 #[uS b13 s15 x13 b14 s16 x14,vi x15] w218 fun w219 b127 s159 s160=>(xR ad33 b125 s155 s156 w219 fun w222=>xR ad31 b127 s159 s160 w222 fun w225=>K6 t1 t5 t6 ad33 ad31 w225))))))))))∧(newC w208 (zR false nSl nSl) 34 fun ad34 w226=>Bar (V2 0) w208 w226∧(Bar (V2 2) w208 w226∧(Bar (V2 4) w208 w226∧(Bar (V2 6) w208 w226∧(kR 22 #[uS b11 s13 x10 b12 s14 x11,vi x12] w226 fun w227 b128 s161 s162=>(Bar (V2 4) w226 w227∧(Bar (V2 6) w226 w227∧(kR 22 #[uS b13 s15 x13 b14 s16 x14,vi x15] w227 fun w228 b129 s163 s164=>(xR ad34 b128 s161 s162 w228 fun w231=>xR ad31 b129 s163 s164 w231 fun w234=>K6 t1 t5 t6 ad34 ad31 w234)))))))))))))))))))) (ap:∀t1 t5 t6 t7 t8 w_,K6 t1 t5 t6 t7 t8 w_→ld6 t5 w_ fun b17 s21 x16 b18 s22 x17=>ld6 t6 w_ fun b19 s23 x18 b20 s24 x19=>kV 23 #[uS b17 s21 x16 b18 s22 x17,uS b19 s23 x18 b20 s24 x19,vi t1] w_ fun w32 b21 s25 x20 b22 s26 x21 x22=>(newC w32 (zS false nSl 0 false nSl 0) 50 fun ad7 w33=>xS ad7 b21 s25 x20 b22 s26 x21 w33 fun w39=>ld6 t5 w39 fun b23 s27 x23 b24 s28 x24=>ld6 t6 w39 fun b25 s29 x25 b26 s30 x26=>kV 24 #[uS b23 s27 x23 b24 s28 x24,uS b25 s29 x25 b26 s30 x26,vi t1] w39 fun w40 b27 s31 x27 b28 s32 x28 x29=>(newC w40 (zS false nSl 0 false nSl 0) 50 fun ad8 w41=>xS ad8 b27 s31 x27 b28 s32 x28 w41 fun w47=>ld6 t5 w47 fun b29 s33 x30 b30 s34 x31=>ld6 t6 w47 fun b31 s35 x32 b32 s36 x33=>kV 25 #[uS b29 s33 x30 b30 s34 x31,uS b31 s35 x32 b32 s36 x33,vi t1] w47 fun w48 b33 s37 x34 b34 s38 x35 x36=>(newC w48 (zS false nSl 0 false nSl 0) 50 fun ad9 w49=>xS ad9 b33 s37 x34 b34 s38 x35 w49 fun w55=>ld6 t5 w55 fun b35 s39 x37 b36 s40 x38=>kV 26 #[uS b35 s39 x37 b36 s40 x38,vi t1] w55 fun w56 b37 s41 x39 b38 s42 x40 x41=>(newC w56 (zS false nSl 0 false nSl 0) 50 fun ad10 w57=>xS ad10 b37 s41 x39 b38 s42 x40 w57 fun w63=>ld6 ad7 w63.drew fun b39 s43 x42 b40 s44 x43=>ldr t7 w63.drew fun b41 s45 s46=>ldr t8 w63.drew fun b42 s47 s48=>kR 28 #[uR b41 s45 s46,uR b42 s47 s48] w63.drew fun w64 b43 s49 s50=>(Ahead w63.drew w64∧(kB 27 #[uS b39 s43 x42 b40 s44 x43,vi x22,uR b43 s49 s50] w64 fun w65 b44=>(Ahead w64 w65∧(br (!b44) (R (.returned (.bool false)) w65) (ld6 ad8 w65 fun b45 s51 x44 b46 s52 x45=>ldr t7 w65 fun b47 s53 s54=>ldr t8 w65 fun b48 s55 s56=>kR 20 #[uR b47 s53 s54,uR b48 s55 s56] w65 fun w66 b49 s57 s58=>(Ahead w65 w66∧(kB 27 #[uS b45 s51 x44 b46 s52 x45,vi x29,uR b49 s57 s58] w66 fun w67 b50=>(Ahead w66 w67∧(br (!b50) (R (.returned (.bool false)) w67) (ld6 ad9 w67 fun b51 s59 x46 b52 s60 x47=>ldr t7 w67 fun b53 s61 s62=>ldr t8 w67 fun b54 s63 s64=>kR 19 #[uR b53 s61 s62,uR b54 s63 s64] w67 fun w68 b55 s65 s66=>(Ahead w67 w68∧(kB 27 #[uS b51 s59 x46 b52 s60 x47,vi x36,uR b55 s65 s66] w68 fun w69 b56=>(Ahead w68 w69∧(br (!b56) (R (.returned (.bool false)) w69) (ld6 ad10 w69 fun b57 s67 x48 b58 s68 x49=>ldr t7 w69 fun b59 s69 s70=>ldr t7 w69 fun b60 s71 s72=>kR 19 #[uR b59 s69 s70,uR b60 s71 s72] w69 fun w70 b61 s73 s74=>(Ahead w69 w70∧(kB 27 #[uS b57 s67 x48 b58 s68 x49,vi x41,uR b61 s73 s74] w70 fun w71 b62=>(Ahead w70 w71∧(br (!b62) (R (.returned (.bool false)) w71) (∃V3:Nat→Nat→Prop,Out (V3 0) t7 (ldr t7 w71.drew fun b63 s75 s76=>Out (V3 1) t8 (ldr t8 w71.drew fun b64 s77 s78=>(newC w71.drew (zR false nSl nSl) 34 fun ad11 w72=>Bar (V3 0) w71.drew w72∧(Bar (V3 1) w71.drew w72∧(newC w72 (zR false nSl nSl) 34 fun ad12 w73=>Bar (V3 0) w72 w73∧(Bar (V3 1) w72 w73∧(xR ad11 b63 s75 s76 w73 fun w76=>Bar (V3 1) w73 w76∧(xR ad12 b64 s77 s78 w76 fun w79=>K13 t1 t5 t6 t7 t8 ad11 ad12 w79))))))∧(newC w71.drew (zR false nSl nSl) 34 fun ad17 w131=>Bar (V3 0) w71.drew w131∧(Bar (V3 1) w71.drew w131∧(newC w131 (zR false nSl nSl) 34 fun ad18 w132=>Bar (V3 0) w131 w132∧(Bar (V3 1) w131 w132∧(xR ad18 b63 s75 s76 w132 fun w135=>Bar (V3 1) w132 w135∧(xR ad17 b64 s77 s78 w135 fun w138=>K13 t1 t5 t6 t7 t8 ad18 ad17 w138))))))))))))))))))))))))))))))))) (aq:∀t1 t5 t6 t7 t8 t17 t18 w_,K13 t1 t5 t6 t7 t8 t17 t18 w_→ldr t7 w_ fun b65 s79 s80=>ldr t8 w_ fun b66 s81 s82=>kI 18 #[uR b65 s79 s80,uR b66 s81 s82] w_ fun w80 x50=>(br (decide (x50>0)) (∃V4:Nat→Nat→Prop,Out (V4 0) t8 (ldr t8 w80.drew fun b67 s83 s84=>Out (V4 1) t7 (ldr t7 w80.drew fun b68 s85 s86=>xR t17 b67 s83 s84 w80.drew fun w83=>Bar (V4 1) w80.drew w83∧(xR t18 b68 s85 s86 w83 fun w86=>K15 t1 t5 t6 t7 t8 t17 t18 w86)))) (K15 t1 t5 t6 t7 t8 t17 t18 w80))) (ar:∀t1 t5 t6 t7 t8 t17 t18 w_,K15 t1 t5 t6 t7 t8 t17 t18 w_→ld6 t5 w_ fun b69 s87 x51 b70 s88 x52=>ld6 t6 w_ fun b71 s89 x53 b72 s90 x54=>kV 29 #[uS b69 s87 x51 b70 s88 x52,uS b71 s89 x53 b72 s90 x54] w_ fun w87 b73 s91 x55 b74 s92 x56 x57=>(newC w87 (zS false nSl 0 false nSl 0) 50 fun ad13 w88=>xS ad13 b73 s91 x55 b74 s92 x56 w88 fun w94=>ld6 t5 w94 fun b75 s93 x58 b76 s94 x59=>ld6 t6 w94 fun b77 s95 x60 b78 s96 x61=>kV 30 #[uS b75 s93 x58 b76 s94 x59,uS b77 s95 x60 b78 s96 x61] w94 fun w95 b79 s97 x62 b80 s98 x63 x64=>(newC w95 (zS false nSl 0 false nSl 0) 50 fun ad14 w96=>xS ad14 b79 s97 x62 b80 s98 x63 w96 fun w102=>ld6 t5 w102 fun b81 s99 x65 b82 s100 x66=>kV 31 #[uS b81 s99 x65 b82 s100 x66] w102 fun w103 b83 s101 x67 b84 s102 x68 x69=>(newC w103 (zS false nSl 0 false nSl 0) 50 fun ad15 w104=>xS ad15 b83 s101 x67 b84 s102 x68 w104 fun w110=>ld6 ad13 w110.drew fun b85 s103 x70 b86 s104 x71=>ldr t17 w110.drew fun b87 s105 s106=>kB 27 #[uS b85 s103 x70 b86 s104 x71,vi x57,uR b87 s105 s106] w110.drew fun w111 b88=>(Ahead w110.drew w111∧(br (!b88) (R (.returned (.bool false)) w111) (ld6 ad14 w111 fun b89 s107 x72 b90 s108 x73=>ldr t18 w111 fun b91 s109 s110=>kB 27 #[uS b89 s107 x72 b90 s108 x73,vi x64,uR b91 s109 s110] w111 fun w112 b92=>(Ahead w111 w112∧(br (!b92) (R (.returned (.bool false)) w112) (ld6 ad15 w112 fun b93 s111 x74 b94 s112 x75=>ldr t7 w112 fun b95 s113 s114=>kR 17 #[uR b95 s113 s114] w112 fun w113 b96 s115 s116=>(Ahead w112 w113∧(kB 27 #[uS b93 s111 x74 b94 s112 x75,vi x69,uR b96 s115 s116] w113 fun w114 b97=>(Ahead w113 w114∧(br (!b97) (R (.returned (.bool false)) w114) (ld6 t5 w114 fun b98 s117 x76 b99 s118 x77=>ld6 t6 w114 fun b100 s119 x78 b101 s120 x79=>kV 32 #[uS b98 s117 x76 b99 s118 x77,uS b100 s119 x78 b101 s120 x79,vi t1] w114 fun w115 b102 s121 x80 b103 s122 x81 x82=>(newC w115 (zS false nSl 0 false nSl 0) 50 fun ad16 w116=>xS ad16 b102 s121 x80 b103 s122 x81 w116 fun w122=>br (x82==101) (ld3 t6 w122 fun b104 s123 x83=>kR 9 #[uD b104 s123 x83] w122 fun w123 b105 s124 s125=>(kI 10 #[uR b105 s124 s125] w123 fun w124 x84=>(br (decide (x84≤0)) (ld3 (t6.add 3) w124 fun b106 s126 x85=>kR 9 #[uD b106 s126 x85] w124 fun w125 b107 s127 s128=>(kI 10 #[uR b107 s127 s128] w125 fun w126 x86=>(br (decide (x86≥0)) (kB 6 #[] w126 fun w127 b108=>(R (.returned (.bool b108)) w127)) (R (.returned (.bool false)) w126)))) (R (.returned (.bool false)) w124)))) (ld6 ad16 w122.drew fun b109 s129 x87 b110 s130 x88=>ldr t7 w122.drew fun b111 s131 s132=>ldr t8 w122.drew fun b112 s133 s134=>kR 12 #[uR b111 s131 s132,uR b112 s133 s134] w122.drew fun w128 b113 s135 s136=>(Ahead w122.drew w128∧(kB 27 #[uS b109 s129 x87 b110 s130 x88,vi x82,uR b113 s135 s136] w128 fun w129 b114=>(Ahead w128 w129∧(br b114 (kB 6 #[] w129 fun w130 b115=>(Ahead w129 w130∧(R (.returned (.bool b115)) w130))) (R (.returned (.bool false)) w129)))))))))))))))))))))):Calls pr 4 #[.agg #[.bool ay,az.v,vi aA,.bool aB,aC.v,vi aD,.bool aE,aF.v,vi aG,.bool aH,au.v,vi av,vi aw,vi ax],vi a1] w R:=by
 refine zk (marks [2000003,2000004,2000011,2000013] (vh K5 K6 K13 K15)) (by kernel_rfl) Tryz.func4 rfl ?_ ?_
 ·refine kcast h ?_;kernel_rfl
 ·exact (za rfl (ze (za rfl (za rfl (ze (zh (za rfl (ze (zg (zi (xr _ rfl (xq _ rfl (by kernel_rfl) trivial) (fun a_ w_ aa=>(by
  obtain ⟨ab,ac,aa⟩:=ya aa
  obtain ⟨t1,ad,aa⟩:=zq aa
  obtain ⟨t2,aI,aa⟩:=yf aa
  obtain ⟨t5,ae,aa⟩:=yf aa
  obtain ⟨t6,af,aa⟩:=yf aa
  obtain ⟨aJ,rfl⟩:∃g,a_=Fr 202 [(1,vi t1),(2,vp t2),(5,vp t5),(6,vp t6)] g:=⟨_,yp ab ac _ (zf ad (zf aI (zf ae (zf af yc))))⟩
  clear ab ac ad aI ae af
  have ak:=aa
  refine ⟨(marks [2000003,2000004,2000011,2000013] (vh K5 K6 K13 K15)),kcast (ao t1 t2 t5 t6 w_ ak) ?_, ?_⟩
  ·kernel_rfl
  ·exact (xr _ rfl (xq _ rfl (by kernel_rfl) trivial) (fun a_ w_ aa=>(by
   obtain ⟨ab,ac,aa⟩:=ya aa
   obtain ⟨t1,ad,aa⟩:=zq aa
   obtain ⟨t5,ae,aa⟩:=yf aa
   obtain ⟨t6,af,aa⟩:=yf aa
   obtain ⟨t7,ag,aa⟩:=yf aa
   obtain ⟨t8,ah,aa⟩:=yf aa
   obtain ⟨aK,rfl⟩:∃g,a_=Fr 202 [(1,vi t1),(5,vp t5),(6,vp t6),(7,vp t7),(8,vp t8)] g:=⟨_,yp ab ac _ (zf ad (zf ae (zf af (zf ag (zf ah yc)))))⟩
   clear ab ac ad ae af ag ah
   have al:=aa
   refine ⟨(marks [2000003,2000004,2000011,2000013] (vh K5 K6 K13 K15)),kcast (ap t1 t5 t6 t7 t8 w_ al) ?_, ?_⟩
   ·kernel_rfl
   ·exact (za rfl (ze (za rfl (ze (za rfl (ze (za rfl (ze (za rfl (za rfl (yy (by kernel_rfl) (by kernel_rfl) (by kernel_rfl) (zh (za rfl (ze (zg (zi (xr _ rfl (xq _ rfl (by kernel_rfl) trivial) (fun a_ w_ aa=>(by
    obtain ⟨ab,ac,aa⟩:=ya aa
    obtain ⟨t1,ad,aa⟩:=zq aa
    obtain ⟨t5,ae,aa⟩:=yf aa
    obtain ⟨t6,af,aa⟩:=yf aa
    obtain ⟨t7,ag,aa⟩:=yf aa
    obtain ⟨t8,ah,aa⟩:=yf aa
    obtain ⟨t17,ai,aa⟩:=yf aa
    obtain ⟨t18,aj,aa⟩:=yf aa
    obtain ⟨aL,rfl⟩:∃g,a_=Fr 202 [(1,vi t1),(5,vp t5),(6,vp t6),(7,vp t7),(8,vp t8),(17,vp t17),(18,vp t18)] g:=⟨_,yp ab ac _ (zf ad (zf ae (zf af (zf ag (zf ah (zf ai (zf aj yc)))))))⟩
    clear ab ac ad ae af ag ah ai aj
    have am:=aa
    refine ⟨(marks [2000003,2000004,2000011,2000013] (vh K5 K6 K13 K15)),kcast (aq t1 t5 t6 t7 t8 t17 t18 w_ am) ?_, ?_⟩
    ·kernel_rfl
    ·exact (xr _ rfl (za rfl (ze (zh (xq _ rfl (by kernel_rfl) (zi trivial))))) (fun a_ w_ aa=>(by
     obtain ⟨ab,ac,aa⟩:=ya aa
     obtain ⟨t1,ad,aa⟩:=zq aa
     obtain ⟨t5,ae,aa⟩:=yf aa
     obtain ⟨t6,af,aa⟩:=yf aa
     obtain ⟨t7,ag,aa⟩:=yf aa
     obtain ⟨t8,ah,aa⟩:=yf aa
     obtain ⟨t17,ai,aa⟩:=yf aa
     obtain ⟨t18,aj,aa⟩:=yf aa
     obtain ⟨aM,rfl⟩:∃g,a_=Fr 202 [(1,vi t1),(5,vp t5),(6,vp t6),(7,vp t7),(8,vp t8),(17,vp t17),(18,vp t18)] g:=⟨_,yp ab ac _ (zf ad (zf ae (zf af (zf ag (zf ah (zf ai (zf aj yc)))))))⟩
     clear ab ac ad ae af ag ah ai aj
     have an:=aa
     refine ⟨(marks [2000003,2000004,2000011,2000013] (vh K5 K6 K13 K15)),kcast (ar t1 t5 t6 t7 t8 t17 t18 w_ an) ?_, ?_⟩
     ·kernel_rfl
     ·exact (za rfl (ze (za rfl (ze (za rfl (ze (za rfl (za rfl (yy (by kernel_rfl) (by kernel_rfl) (by kernel_rfl) (zh (za rfl (ze (zg (zi (za rfl (ze (za rfl (za rfl (ze (zh (za rfl (ze (zg (zi (za rfl (yy (by kernel_rfl) (by kernel_rfl) (by kernel_rfl) (zg trivial)))))))))))))))))))))))))))))))))))))))))))))))))))))))))))))))))
theorem Vq (aa:Bool) (ab:Slc) (ac:Int) (ad:Bool) (ae:Slc) (af:Int) (w:World) (R:Ending→World→Prop) (h:newC w (zS aa ab ac ad ae af) 50 fun ad1 w1=>newC w1 (zS false nSl 0 false nSl 0) 50 fun ad2 w2=>∃V1:Nat→Nat→Prop,Out (V1 1) ad1 (ld3 ad1 w2.drew fun b1 s1 x1=>Out (V1 4) (ad1.add 3) (ld3 (ad1.add 3) w2.drew fun b2 s2 x2=>kD 7 #[uD b1 s1 x1] w2.drew fun w3 b3 s3 x3=>(Bar (V1 4) w2.drew w3∧(kD 7 #[uD b2 s2 x2] w3 fun w4 b4 s4 x4=>(xD ad1 b3 s3 x3 w4 fun w7=>xD (ad1.add 3) b4 s4 x4 w7 fun w10=>ld3 ad1 w10 fun b5 s5 x5=>ld3 (ad1.add 3) w10 fun b6 s6 x6=>kT 59 #[uD b5 s5 x5,uD b6 s6 x6] w10 fun w11 x7 x8=>(br (decide (x7>0)) (ld3 (ad1.add 3) w11 fun b7 s7 x9=>ld3 ad1 w11 fun b8 s8 x10=>xD ad1 b7 s7 x9 w11 fun w14=>xD (ad1.add 3) b8 s8 x10 w14 fun w17=>ld6 ad1 w17 fun b9 s9 x11 b10 s10 x12=>xS ad2 b9 s9 x11 b10 s10 x12 w17 fun w23=>ld6 ad2 w23 fun b11 s11 x13 b12 s12 x14=>R (.returned (uS b11 s11 x13 b12 s12 x14)) w23) (ld6 ad1 w11 fun b13 s13 x15 b14 s14 x16=>xS ad2 b13 s13 x15 b14 s14 x16 w11 fun w29=>ld6 ad2 w29 fun b15 s15 x17 b16 s16 x18=>R (.returned (uS b15 s15 x17 b16 s16 x18)) w29)))))))):Calls pr 21 #[uS aa ab ac ad ae af] w R:=by
 refine zk (marks [2000001] (fun _=>none)) (by kernel_rfl) Tryz.func21 rfl ?_ ?_
 ·refine kcast h ?_;kernel_rfl
 ·exact (za rfl (ze (za rfl (xq _ rfl (by kernel_rfl) (za rfl (za rfl (ze (za rfl (ze (zh (ze (zi (za rfl (ze (zg trivial)))))))))))))))
def kw (K3:Int→Addr→Addr→Addr→World→Prop):Nat→Option ((Act→World→Prop)×(Act→World→Nat))
 |3000003=>some (fun a_ w_=>atSz a_ 24 (atI .i64 a_ 1 fun t1_i=>atA a_ 4 fun t4=>atA a_ 5 fun t5_lo=>atA a_ 6 fun t6_hi=>K3 t1_i t4 t5_lo t6_hi w_),fun _ _=>0)
 |_=>none
theorem Yr (ag:Bool) (ah:Slc) (ai:Int) (aj:Bool) (ak:Slc) (al:Int) (aa:Int) (w:World) (R:Ending→World→Prop) (K3:Int→Addr→Addr→Addr→World→Prop) (h:newC w (zS ag ah ai aj ak al) 50 fun ad1 w1=>newC w1 (zR false nSl nSl) 34 fun ad2 w2=>∃V1:Nat→Nat→Prop,Out (V1 1) ad1 (ld3 ad1 w2.drew fun b1 s1 x1=>Out (V1 4) (ad1.add 3) (ld3 (ad1.add 3) w2.drew fun b2 s2 x2=>(kR 9 #[uD b1 s1 x1] w2.drew fun w3 b3 s3 s4=>(Bar (V1 4) w2.drew w3∧((kR 9 #[uD b2 s2 x2] w3 fun w4 b4 s5 s6=>((newC w4 (zR false nSl nSl) 34 fun ad3 w5=>Bar (V1 1) w4 w5∧(Bar (V1 4) w4 w5∧(newC w5 (zR false nSl nSl) 34 fun ad4 w6=>Bar (V1 1) w5 w6∧(Bar (V1 4) w5 w6∧(xR ad3 b3 s3 s4 w6 fun w9=>xR ad4 b4 s5 s6 w9 fun w12=>K3 aa ad2 ad3 ad4 w12)))))∧(newC w4 (zR false nSl nSl) 34 fun ad5 w23=>Bar (V1 1) w4 w23∧(Bar (V1 4) w4 w23∧(newC w23 (zR false nSl nSl) 34 fun ad6 w24=>Bar (V1 1) w23 w24∧(Bar (V1 4) w23 w24∧(xR ad6 b3 s3 s4 w24 fun w27=>xR ad5 b4 s5 s6 w27 fun w30=>K3 aa ad2 ad6 ad5 w30)))))))∧((newC w3 (zR false nSl nSl) 34 fun ad7 w31=>Bar (V1 1) w3 w31∧(Bar (V1 4) w3 w31∧((kR 9 #[uD b2 s2 x2] w31 fun w32 b15 s27 s28=>(newC w32 (zR false nSl nSl) 34 fun ad8 w33=>Bar (V1 1) w32 w33∧(Bar (V1 4) w32 w33∧(xR ad7 b3 s3 s4 w33 fun w36=>xR ad8 b15 s27 s28 w36 fun w39=>K3 aa ad2 ad7 ad8 w39))))∧(newC w31 (zR false nSl nSl) 34 fun ad9 w40=>Bar (V1 1) w31 w40∧(Bar (V1 4) w31 w40∧(kR 9 #[uD b2 s2 x2] w40 fun w41 b16 s29 s30=>(xR ad7 b3 s3 s4 w41 fun w44=>xR ad9 b16 s29 s30 w44 fun w47=>K3 aa ad2 ad7 ad9 w47)))))))∧(newC w3 (zR false nSl nSl) 34 fun ad10 w48=>Bar (V1 1) w3 w48∧(Bar (V1 4) w3 w48∧((kR 9 #[uD b2 s2 x2] w48 fun w49 b17 s31 s32=>(newC w49 (zR false nSl nSl) 34 fun ad11 w50=>Bar (V1 1) w49 w50∧(Bar (V1 4) w49 w50∧(xR ad11 b3 s3 s4 w50 fun w53=>xR ad10 b17 s31 s32 w53 fun w56=>K3 aa ad2 ad11 ad10 w56))))∧(newC w48 (zR false nSl nSl) 34 fun ad12 w57=>Bar (V1 1) w48 w57∧(Bar (V1 4) w48 w57∧(kR 9 #[uD b2 s2 x2] w57 fun w58 b18 s33 s34=>(xR ad12 b3 s3 s4 w58 fun w61=>xR ad10 b18 s33 s34 w61 fun w64=>K3 aa ad2 ad12 ad10 w64)))))))))))∧((newC w2.drew (zR false nSl nSl) 34 fun ad13 w65=>Bar (V1 1) w2.drew w65∧(Bar (V1 4) w2.drew w65∧((kR 9 #[uD b1 s1 x1] w65 fun w66 b19 s35 s36=>(Bar (V1 4) w65 w66∧((kR 9 #[uD b2 s2 x2] w66 fun w67 b20 s37 s38=>(newC w67 (zR false nSl nSl) 34 fun ad14 w68=>Bar (V1 1) w67 w68∧(Bar (V1 4) w67 w68∧(xR ad13 b19 s35 s36 w68 fun w71=>xR ad14 b20 s37 s38 w71 fun w74=>K3 aa ad2 ad13 ad14 w74))))∧(newC w66 (zR false nSl nSl) 34 fun ad15 w75=>Bar (V1 1) w66 w75∧(Bar (V1 4) w66 w75∧(kR 9 #[uD b2 s2 x2] w75 fun w76 b21 s39 s40=>(xR ad13 b19 s35 s36 w76 fun w79=>xR ad15 b21 s39 s40 w79 fun w82=>K3 aa ad2 ad13 ad15 w82)))))))∧(newC w65 (zR false nSl nSl) 34 fun ad16 w83=>Bar (V1 1) w65 w83∧(Bar (V1 4) w65 w83∧(kR 9 #[uD b1 s1 x1] w83 fun w84 b22 s41 s42=>(Bar (V1 4) w83 w84∧(kR 9 #[uD b2 s2 x2] w84 fun w85 b23 s43 s44=>(xR ad13 b22 s41 s42 w85 fun w88=>xR ad16 b23 s43 s44 w88 fun w91=>K3 aa ad2 ad13 ad16 w91)))))))))∧(newC w2.drew (zR false nSl nSl) 34 fun ad17 w92=>Bar (V1 1) w2.drew w92∧(Bar (V1 4) w2.drew w92∧((kR 9 #[uD b1 s1 x1] w92 fun w93 b24 s45 s46=>(Bar (V1 4) w92 w93∧((kR 9 #[uD b2 s2 x2] w93 fun w94 b25 s47 s48=>(newC w94 (zR false nSl nSl) 34 fun ad18 w95=>Bar (V1 1) w94 w95∧(Bar (V1 4) w94 w95∧(xR ad18 b24 s45 s46 w95 fun w98=>xR ad17 b25 s47 s48 w98 fun w101=>K3 aa ad2 ad18 ad17 w101))))∧(newC w93 (zR false nSl nSl) 34 fun ad19 w102=>Bar (V1 1) w93 w102∧(Bar (V1 4) w93 w102∧(kR 9 #[uD b2 s2 x2] w102 fun w103 b26 s49 s50=>(xR ad19 b24 s45 s46 w103 fun w106=>xR ad17 b26 s49 s50 w106 fun w109=>K3 aa ad2 ad19 ad17 w109)))))))∧(newC w92 (zR false nSl nSl) 34 fun ad20 w110=>Bar (V1 1) w92 w110∧(Bar (V1 4) w92 w110∧(kR 9 #[uD b1 s1 x1] w110 fun w111 b27 s51 s52=>(Bar (V1 4) w110 w111∧(kR 9 #[uD b2 s2 x2] w111 fun w112 b28 s53 s54=>(xR ad20 b27 s51 s52 w112 fun w115=>xR ad17 b28 s53 s54 w115 fun w118=>K3 aa ad2 ad20 ad17 w118))))))))))))) (am:∀ae t4 ac ad w_,K3 ae t4 ac ad w_→ldr ac w_.drew fun b5 s7 s8=>ldr ad w_.drew fun b6 s9 s10=>ldr ac w_.drew fun b7 s11 s12=>kR 20 #[uR b6 s9 s10,uR b7 s11 s12] w_.drew fun w13 b8 s13 s14=>(Ahead w_.drew w13∧(kI 8 #[vi ae,vi 0,vi 1000] w13 fun w14 x3=>(Ahead w13 w14∧(kR 16 #[vi x3] w14 fun w15 b9 s15 s16=>(Ahead w14 w15∧(kR 16 #[vi 1000] w15 fun w16 b10 s17 s18=>(Ahead w15 w16∧(kR 12 #[uR b9 s15 s16,uR b10 s17 s18] w16 fun w17 b11 s19 s20=>(Ahead w16 w17∧(kR 19 #[uR b8 s13 s14,uR b11 s19 s20] w17 fun w18 b12 s21 s22=>(Ahead w17 w18∧(kR 28 #[uR b5 s7 s8,uR b12 s21 s22] w18 fun w19 b13 s23 s24=>(Ahead w18 w19∧(xR t4 b13 s23 s24 w19 fun w22=>ldr t4 w22 fun b14 s25 s26=>R (.returned (uR b14 s25 s26)) w22))))))))))))))):Calls pr 22 #[uS ag ah ai aj ak al,vi aa] w R:=by
 refine zk (marks [2000001] (kw K3)) (by kernel_rfl) Tryz.func22 rfl ?_ ?_
 ·refine kcast h ?_;kernel_rfl
 ·exact (za rfl (ze (xr _ rfl (xq _ rfl (by kernel_rfl) trivial) (fun a_ w_ ab=>(by
  obtain ⟨an,ao,ab⟩:=ya ab
  obtain ⟨ae,ap,ab⟩:=zq ab
  obtain ⟨t4,aq,ab⟩:=yf ab
  obtain ⟨ac,ar,ab⟩:=yf ab
  obtain ⟨ad,au,ab⟩:=yf ab
  obtain ⟨av,rfl⟩:∃g,a_=Fr 24 [(1,vi ae),(4,vp t4),(5,vp ac),(6,vp ad)] g:=⟨_,yp an ao _ (zf ap (zf aq (zf ar (zf au yc))))⟩
  clear an ao ap aq ar au
  have af:=ab
  refine ⟨(marks [2000001] (kw K3)),kcast (am ae t4 ac ad w_ af) ?_, ?_⟩
  ·kernel_rfl
  ·exact (za rfl (yy (by kernel_rfl) (by kernel_rfl) (by kernel_rfl) (zg trivial))))))))
theorem Qv (aa:Bool) (ab:Slc) (ac:Int) (ad:Bool) (ae:Slc) (af:Int) (aj:Int) (ag:Bool) (ah:Slc) (ai:Slc) (w:World) (R:Ending→World→Prop) (h:newC w (zS aa ab ac ad ae af) 50 fun ad1 w1=>newC w1 (zR ag ah ai) 34 fun ad2 w2=>br (aj==0) (ld3 ad1 w2.drew fun b1 s1 x1=>ldr ad2 w2.drew fun b2 s2 s3=>kR 9 #[uD b1 s1 x1] w2.drew fun w3 b3 s4 s5=>(Ahead w2.drew w3∧(kI 18 #[uR b3 s4 s5,uR b2 s2 s3] w3 fun w4 x2=>(Ahead w3 w4∧(br (decide (x2≤0)) (ldr ad2 w4 fun b4 s6 s7=>ld3 (ad1.add 3) w4 fun b5 s8 x3=>kR 9 #[uD b5 s8 x3] w4 fun w5 b6 s9 s10=>(Ahead w4 w5∧(kI 18 #[uR b4 s6 s7,uR b6 s9 s10] w5 fun w6 x4=>(Ahead w5 w6∧(R (.returned (.bool (decide (x4≤0)))) w6))))) (R (.returned (.bool false)) w4)))))) (R (.returned (.bool false)) w2.drew)):Calls pr 27 #[uS aa ab ac ad ae af,vi aj,uR ag ah ai] w R:=by
 refine zk (fun _=>none) (by kernel_rfl) Tryz.func27 rfl ?_ ?_
 ·refine kcast h ?_;kernel_rfl
 ·exact (za rfl (ze (za rfl (yy (by kernel_rfl) (by kernel_rfl) (by kernel_rfl) (zg trivial)))))
theorem P3 (aa:Bool) (ab:Slc) (ac:Int) (a1:Int) (w:World) (R:Ending→World→Prop) (h:newC w (zD aa ab ac) 27 fun ad1 w1=>newC w1 (zD false nSl 0) 27 fun ad2 w2=>ld3 ad1 w2 fun b1 s1 x1=>kU 127 #[uD b1 s1 x1] w2 fun w3 b2 s2 x2 x3=>(newC w3 (zD false nSl 0) 127 fun ad3 w4=>xD ad3 b2 s2 x2 w4 fun w7=>br (x3 !=0) (xt3 ad2 (.bool false) nSl.v (vi 0) w7 fun w10=>ld3 ad2 w10 fun b3 s3 x4=>R (.returned (.tuple #[uD b3 s3 x4,vi x3])) w10) (br (decide (a1<0)) (xt3 ad2 (.bool false) nSl.v (vi 0) w7 fun w13=>ld3 ad2 w13 fun b4 s4 x5=>R (.returned (.tuple #[uD b4 s4 x5,vi 1])) w13) (ld2 ad3 w7 fun b5 s5=>Calls pr 137 #[uP b5 s5,vi a1] w7 fun e2 w14=>∃b6:Bool,∃s6:Slc,∃x6:Int,e2= .returned (.tuple #[uP b6 s6,vi x6])∧(newC w14 #[.bool false,nSl.v] 25 fun ad4 w15=>xt2 ad4 (.bool b6) s6.v w15 fun w17=>br (x6 !=0) (xt3 ad2 (.bool false) nSl.v (vi 0) w17 fun w20=>ld3 ad2 w20 fun b7 s7 x7=>R (.returned (.tuple #[uD b7 s7 x7,vi x6])) w20) (ldI .i64 (ad3.add 2) w17 fun x8=>br (x8 !=0) (br (decide (a1>1099511627776)) (xt3 ad2 (.bool false) nSl.v (vi 0) w17 fun w23=>ld3 ad2 w23 fun b8 s8 x9=>R (.returned (.tuple #[uD b8 s8 x9,vi 80])) w23) (ldI .i64 (ad3.add 2) w17 fun x10=>br (x10 !=0) (br (decide (a1>0)) (ldI .i64 (ad3.add 2) w17 fun x11=>fixI pr .i64 (binOp .quo 3 (vi 1099511627776) (vi a1)) w17 fun x12=>br (decide (x11>x12)) (∀w24,Ahead w17 w24→(xt3 ad2 (.bool false) nSl.v (vi 0) w24 fun w27=>ld3 ad2 w27 fun b9 s9 x13=>R (.returned (.tuple #[uD b9 s9 x13,vi 80])) w27)) (ldI .i64 (ad3.add 2) w17 fun x14=>fixI pr .i64 (binOp .quo 3 (vi 1099511627776) (vi a1)) w17 fun x15=>∀w28,Ahead w17 w28→(br (decide (x14<(wrap .i64 (0 -x15)))) (xt3 ad2 (.bool false) nSl.v (vi 0) w28 fun w31=>ld3 ad2 w31 fun b10 s10 x16=>R (.returned (.tuple #[uD b10 s10 x16,vi 80])) w31) (ld2 ad4 w28 fun b11 s11=>ldI .i64 (ad3.add 2) w28 fun x17=>kU 104 #[uP b11 s11,vi (wrap .i64 (x17*a1))] w28 fun w32 b12 s12 x18 x19=>(xD ad2 b12 s12 x18 w32 fun w35=>ld3 ad2 w35 fun b13 s13 x20=>R (.returned (.tuple #[uD b13 s13 x20,vi x19])) w35))))) (∀w36,Ahead w17 w36→(ld2 ad4 w36 fun b14 s14=>ldI .i64 (ad3.add 2) w36 fun x21=>kU 104 #[uP b14 s14,vi (wrap .i64 (x21*a1))] w36 fun w37 b15 s15 x22 x23=>(xD ad2 b15 s15 x22 w37 fun w40=>ld3 ad2 w40 fun b16 s16 x24=>R (.returned (.tuple #[uD b16 s16 x24,vi x23])) w40)))) (∀w41,Ahead w17 w41→(ld2 ad4 w41 fun b17 s17=>ldI .i64 (ad3.add 2) w41 fun x25=>kU 104 #[uP b17 s17,vi (wrap .i64 (x25*a1))] w41 fun w42 b18 s18 x26 x27=>(xD ad2 b18 s18 x26 w42 fun w45=>ld3 ad2 w45 fun b19 s19 x28=>R (.returned (.tuple #[uD b19 s19 x28,vi x27])) w45))))) (ldI .i64 (ad3.add 2) w17 fun x29=>br (x29 !=0) (br (decide (a1>0)) (ldI .i64 (ad3.add 2) w17 fun x30=>fixI pr .i64 (binOp .quo 3 (vi 1099511627776) (vi a1)) w17 fun x31=>br (decide (x30>x31)) (∀w46,Ahead w17 w46→(xt3 ad2 (.bool false) nSl.v (vi 0) w46 fun w49=>ld3 ad2 w49 fun b20 s20 x32=>R (.returned (.tuple #[uD b20 s20 x32,vi 80])) w49)) (ldI .i64 (ad3.add 2) w17 fun x33=>fixI pr .i64 (binOp .quo 3 (vi 1099511627776) (vi a1)) w17 fun x34=>∀w50,Ahead w17 w50→(br (decide (x33<(wrap .i64 (0 -x34)))) (xt3 ad2 (.bool false) nSl.v (vi 0) w50 fun w53=>ld3 ad2 w53 fun b21 s21 x35=>R (.returned (.tuple #[uD b21 s21 x35,vi 80])) w53) (ld2 ad4 w50 fun b22 s22=>ldI .i64 (ad3.add 2) w50 fun x36=>kU 104 #[uP b22 s22,vi (wrap .i64 (x36*a1))] w50 fun w54 b23 s23 x37 x38=>(xD ad2 b23 s23 x37 w54 fun w57=>ld3 ad2 w57 fun b24 s24 x39=>R (.returned (.tuple #[uD b24 s24 x39,vi x38])) w57))))) (∀w58,Ahead w17 w58→(ld2 ad4 w58 fun b25 s25=>ldI .i64 (ad3.add 2) w58 fun x40=>kU 104 #[uP b25 s25,vi (wrap .i64 (x40*a1))] w58 fun w59 b26 s26 x41 x42=>(xD ad2 b26 s26 x41 w59 fun w62=>ld3 ad2 w62 fun b27 s27 x43=>R (.returned (.tuple #[uD b27 s27 x43,vi x42])) w62)))) (∀w63,Ahead w17 w63→(ld2 ad4 w63 fun b28 s28=>ldI .i64 (ad3.add 2) w63 fun x44=>kU 104 #[uP b28 s28,vi (wrap .i64 (x44*a1))] w63 fun w64 b29 s29 x45 x46=>(xD ad2 b29 s29 x45 w64 fun w67=>ld3 ad2 w67 fun b30 s30 x47=>R (.returned (.tuple #[uD b30 s30 x47,vi x46])) w67)))))))))):Calls pr 105 #[uD aa ab ac,vi a1] w R:=by
 refine zk (fun _=>none) (by kernel_rfl) Tryz.func105 rfl ?_ ?_
 ·refine kcast h ?_;kernel_rfl
 ·exact (za rfl (ze (za rfl (ze (za rfl (za rfl (ze (zh (za rfl (ze (zg (zi (za rfl (za rfl (ze (zh (za rfl (ze (zg (zi (za rfl (ze (za rfl (za rfl (ze (zh (za rfl (ze (zg (zi (za rfl (za rfl (ze (zh (za rfl (ze (zg (zi (za rfl (za rfl (qd (by kernel_rfl) (by kernel_rfl) (by kernel_rfl) (by kernel_rfl) (zh (za rfl (ze (zg (zi (za rfl (ze (zg trivial)))))))))))))))))))))))))))))))))))))))))))))))))
theorem Fc (aa:Bool) (ab:Slc) (ac:Int) (w:World) (R:Ending→World→Prop) (h:newC w #[.bool aa,ab.v] 25 fun ad1 w1=>newC w1 #[.bool false,nSl.v] 25 fun ad2 w2=>ldS (ad1.add 1) w2 fun s1=>Calls pr 125 #[s1.v,vi ac] w2 fun e1 w3=>∃s2:Slc,∃x1:Int,e1= .returned (.tuple #[s2.v,vi x1])∧(ldB ad1 w3 fun b1=>br b1 (Calls pr 133 (zD ((Int.tmod ac 2)==1) s2 x1) w3 fun e2 w4=>∃b2:Bool,∃s3:Slc,∃x2:Int,e2= .returned (.tuple #[uP b2 s3,vi x2])∧(xt2 ad2 (.bool b2) s3.v w4 fun w6=>ld2 ad2 w6 fun b3 s4=>R (.returned (.tuple #[uP b3 s4,vi x2])) w6)) (Calls pr 133 (zD false s2 x1) w3 fun e3 w7=>∃b4:Bool,∃s5:Slc,∃x3:Int,e3= .returned (.tuple #[uP b4 s5,vi x3])∧(xt2 ad2 (.bool b4) s5.v w7 fun w9=>ld2 ad2 w9 fun b5 s6=>R (.returned (.tuple #[uP b5 s6,vi x3])) w9)))):Calls pr 137 #[uP aa ab,vi ac] w R:=by
 refine zk (fun _=>none) (by kernel_rfl) Tryz.func137 rfl ?_ ?_
 ·refine kcast h ?_;kernel_rfl
 ·exact (za rfl (ze (za rfl (ze (za rfl (ze (zg trivial)))))))
end
end Go.Proofs.YtbeiopoejdkheaaGreatDoor
