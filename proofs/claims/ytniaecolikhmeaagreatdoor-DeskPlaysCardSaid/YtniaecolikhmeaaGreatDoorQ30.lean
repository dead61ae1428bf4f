/- Texts of the claim, joined. -/
import Derived.Test.YtniaecolikhmeaaGreatDoorQ29
set_option maxHeartbeats 20000000
set_option maxRecDepth 100000
set_option linter.all false
namespace Wh
open Go Go.RowKit Go.Shelf Go.Proofs Tryz
section
attribute [local go_sem] aV jF iY jI
def pk1(s:aI)(c g:Nat)(n:Int):aI:={s with on:=setCell s.on c g (cell s.on c g - n)}
def pk2(s:aI)(c g:Nat)(n:Int):aI:={pk1 s c g n with O:=s.O.set g (aZ s.O g+n)}
theorem jiG{s:aI}{i j c g:Nat}{n:Int}(hg:(s.aK i j).dW.toNat=g):({pk2 s c g n with aA:=jE s.aA ⟨i,j,c,0⟩}:aI)=preS s i j c n:=by subst hg;rfl
theorem jle(w:World)(v vs:Value)(p:dG)(s:aI)(o k b n:Int)(hp:kK w w v p)(hv:kG w w vs s):
  Calls prog 76 #[v,vs,o,k,b,n] w (nN (pick p s o k b n) w):=by
 obtain⟨Ab,cb,As,cs,rfl,hP',hBn,hSz,hlb,hls⟩:=o9 hp;obtain⟨A0,c0,A1,c1,A2,c2,A3,c3,A4,c4,A5,c5,A6,c6,rfl,hV,hN,hO,hH,hM,hI,hU,hX,hl0,hl1,hl2,hl3,hl4,hl5,Jb⟩:=lY hv;go_enter func76,ntmps76
 go_wp2_with fail;obtain⟨W0,hW0,hb0,kX,um,hsE,hK,hR⟩:=yS w p s Ab cb As cs A0 c0 A1 c1 A2 c2 A3 c3 A4 c4 A5 c5 A6 c6;rw[hW0];clear hW0;obtain⟨⟨y0,y1⟩,x0,x1,x2,x3,x4,x5,x6,fB,fC⟩:=hK.O W0 (aj W0 W0);go_wp2_with fail;clear y0 y1 x0 x1 x2 x3 x4 x5 x6 fB fC;refine(BD _ _ _ p s (hP'.O _ hb0) (hV.O _ hb0)).mono ?_
 rintro e W1 ⟨rfl,h1⟩;have hB1:=fD hb0 h1;obtain⟨⟨y0,y1⟩,x0,x1,x2,x3,x4,x5,x6,fB,fC⟩:=hK.O W1 (h1);by_cases hc:aO p s=0
 ·have hc':=ah hc;have hsn:=ah (gB.1 hc).1;rw[hc];clear hc;go_wp2_with fail;refine(jax _ _ s.aA o k b (hH.O _ hB1)).mono ?_
  rintro e w' ⟨rfl,rfl⟩;by_cases hk0:dD s.aA o k b=0
  ·have dw:=ah (Zv (n:=n) hc'.O hk0);rw[hk0];clear hk0;have fH:=hR.O _ h1;go_wp2_with (refine dU (.tmp 12) (.tmp 36) dV dV rfl fH rfl rfl (λw9 dS jg=>?_))
   have eF:=Below.gV hB1 jg;go_wp2_with fail;exact jl results76 dS rfl rfl (jJ dw.O eF)
  have hkq:(dD s.aA o k b==0)=false:=by simpa using hk0
  cases g1:dM n 0 (dD s.aA o k b)
  ·have dw:=ah (QX hc'.O hk0 (by have:=mY.1 g1;omega))
   clear hk0;go_wp2_with fail;refine(F9 g1 _).mono ?_
   rintro e w' ⟨rfl,rfl⟩;clear g1;have fH:=hR.O _ h1;go_wp2_with (refine dU (.tmp 12) (.tmp 41) dV dV rfl fH rfl rfl (λw9 dS jg=>?_))
   have eF:=Below.gV hB1 jg;go_wp2_with fail;exact jl results76 dS rfl rfl (jJ dw.O eF)
  have g1':=dZ.1 g1;obtain⟨i,j,c,rfl,rfl,rfl,hi,hj,hcb,hh1,hh2,hpk⟩:=jfV hc'.O hk0 g1';have hpk':=ah hpk;have hg0:=(hsn.O.aK hi hj).1;obtain⟨g,hg⟩:∃g:Nat,(s.aK i j).dW=(g:Int):=⟨(s.aK i j).dW.toNat,by omega⟩
  have hgt:(s.aK i j).dW.toNat=g:=by omega
  have hgp:g<p.aW.length:=by omega
  have hgo:g<s.O.length:=by rw[hsn.O.O.1];exact hgp
  have juG:(g:Int)<(s.O.length:Int):=by omega
  have o1:=hsn.O.O.2 hgp;have hwo:IntKind.i64.wrap (aZ s.O g+n)=aZ s.O g+n:=aP _ (by omega)
  have hi':(i:Int)<s.ak.length:=by omega
  have hj':(j:Int)<((s.aC i).aH.length:Int):=by omega
  obtain⟨Al,cl,ol,ll,d0,d1,hsl⟩:=(hO.O W1 hB1).aC hi;obtain⟨ok2,l2,e0,e1,e2,e3⟩:=hsl.at_.aK hj;change W1.cell? _=some (Value.int .i64 (s.aK i j).dW)at e0
  change W1.cell? _=some (Value.slice Al (s.aC i).aH.length cl)at d1
  rw[hg]at e0
  obtain⟨oi,li,ri⟩:=(hU.O W1 hB1).at_.int (i:=g) hgo;rw[hgt]at hpk'
  clear hk0 hpk d0 e1 e2 e3;by_cases hm:1048576<aZ s.O g+n
  ·have dw:=ah (show pick p s i j c n=(kF,2)by rw[hpk'.O,aB hm])
   go_wp2_with fail;refine(F9 g1 _).mono ?_
   rintro e w' ⟨rfl,rfl⟩;clear g1 g1';have fH:=hR.O _ h1;go_wp2_with (refine dU (.tmp 12) (.tmp 60) dV dV rfl fH rfl rfl (λw9 dS jg=>?_))
   have eF:=Below.gV hB1 jg;go_wp2_with fail;exact jl results76 dS rfl rfl (jJ dw.O eF)
  have dw:=ah (show pick p s i j c n=(BF p s i j c n,0)by rw[hpk'.O,au hm])
  have hF:=ah (show GY p s i j c n from⟨hi,hj,hcb,hh1,g1'.1,g1'.2,by rw[hgt];omega⟩)
  go_wp2_with fail;refine(F9 g1 _).mono ?_
  rintro e w' ⟨rfl,rfl⟩;clear g1;go_wp2_with fail;clear y0 y1 x0 x1 x2 x3 x4 x5 x6 fB fC;clear d1 e0 hsl oi li ri ok2 l2 ol ll hkq hpk' hm;refine(FM _ _ p s (hV.O _ hB1) hsn.O).mono ?_
  rintro e W5 ⟨_,rfl,⟨V5,rfl,DC⟩,h5⟩;have rU:=(DC).one;have zV:=Dj (W5);go_wp2_with (refine dU (.tmp 17) (.tmp 62) dV V5 rfl zV rfl rU (λw6 nK Jv=>?_);refine bD ?_)
  unfold Hid;have vG:=xg Jv;have x9:=nK.lt;clear rU zV Jv;have hx6:=ah (Bx.of nK (DC.below vG));have h06:=h1.trans ((fD h5 vG).mono h1.size);have hle:w.heap.size<=W1.heap.size:=hB1.size;have hle0:W0.heap.size<=W1.heap.size:=h1.size;have Bl:W1.heap.size<=W5.heap.size:=h5.size;clear nK DC vG h5 x9 h1 hB1;generalize W1.heap.size=aT at hx6 hle hle0 Bl
  generalize W5.heap.size=bx at hx6 Bl ⊢
  have hco:c<s.on.length:=by rw[hsn.O.sO];exact hcb
  have hci:(c:Int)<(s.on.length:Int):=by omega
  have hgr:g<(fO s.on c).length:=by rw[hsn.O.rowLen hcb];exact hgp
  have jl0:(g:Int)<((fO s.on c).length:Int):=by omega
  have juR:=hsn.O.cell hcb hgp;have hw1:IntKind.i64.wrap (cell s.on c g - n)=cell s.on c g - n:=aP _ (by omega)
  obtain⟨Jw,con,RS,gr,cr,cur,RJ,XB,OX,r0,er,XA,hbr,rc⟩:=hx6.O.own.QZ hco hgr;obtain⟨c0,c1,c2,c3,c4,c5,c6⟩:=hx6.O.cells;rw[RJ]at c0
  have er':=ah er;clear RJ er OX hbr;go_wp2_with fail;go_still_tail 17,(by kernel_rfl)
  change wpList _ _ _ _ _ w6.drew;refine Ir rfl (.tmp 79) (.tmp 78) rfl rfl (i:=c) (g:=g) (q:=cell s.on c g - n) hx6.O.drew hco hgr er'.O rfl rfl (λw7 hx7 Dy=>?_)
  refine eP ?_
  have h07:=h06.drew.trans (Dy.below (B:=W0.heap.size) (λq hq=>by omega) h06.drew.size)
  have zT:=ah (show Bx w7 aT bx 40 [] V5 (pk1 s c g n)from hx7)
  clear hx7 Dy c0 c1 c2 c3 c4 c5 c6 r0 rc hw1 hx6 h06 er';obtain⟨gu,cu,jvI,eu,hgu,hbu,ru⟩:=dX.CU zT.O.own.O (g:=g) hgo;change w7.cell? _=some (.int .i64 (aZ s.O g))at ru
  change V5.O=.slice _ s.O.length _ at eu
  obtain⟨c0,c1,c2,c3,c4,c5,c6⟩:=zT.O.cells;rw[eu]at c5
  have eu':=ah eu;clear eu hbu;go_wp2_with fail;go_still_tail 11,(by kernel_rfl)
  change wpList _ _ _ _ _ w7.drew;refine Y8 rfl (.tmp 90) (.tmp 89) rfl rfl (g:=g) (q:=aZ s.O g+n) zT.O.drew hgo eu'.O rfl rfl (λw8 MC BX=>?_)
  refine eP ?_
  have BG:=h07.drew.trans (BX.below (B:=W0.heap.size) (λq hq=>by omega) h07.drew.size)
  have wJ:=ah (show Bx w8 aT bx 40 [] V5 (pk2 s c g n)from MC)
  clear MC BX c0 c1 c2 c3 c4 c5 c6 ru zT h07 eu';have lZ:=qH hsn.O.aA;have hs8:=ah (wJ.O.own.aA.sl (by change s.aA.length<=_;omega))
  obtain⟨c0,c1,c2,c3,c4,c5,c6⟩:=wJ.O.cells;go_wp2_with fail;clear c0 c1 c2 c3 c4 c5 c6;refine(jin _ _ s.aA i j c 0 hs8.O hsn.O.aA (J6 hsn.O hi hj hcb)).mono ?_
  rintro e W9 ⟨u,rfl,hu,h9⟩;obtain⟨A7,c7,rfl⟩:=hu.isSlice;have jfa:aT<=w8.heap.size:=aU Bl (iQ wJ.O.lt);have hu9:=ah (hu.from_ jfa);have Gq:=ah (wJ.O.below h9);have h09:=fD BG h9;clear hu h9 wJ BG hs8;go_wp2_with (refine Iu rfl (.tmp 97) (.tmp 96) rfl rfl A7 _ c7 _ Gq.O rfl rfl hu9.O (λw10 AX Ai=>?_);refine bD ?_)
  unfold Hid;have h010:=h09.trans (Ai.below (B:=W0.heap.size) (λq hq=>by omega) h09.size)
  have sQ:=ah (show Bx w10 aT bx 40 [] {V5 with aA:=.slice A7 (jE s.aA ⟨i,j,c,0⟩).length c7} (preS s i j c n)by rw[<- jiG hgt];exact AX)
  clear AX Ai Gq hu9 h09;generalize ({V5 with aA:=.slice A7 (jE s.aA ⟨i,j,c,0⟩).length c7}:SV)=V9 at sQ
  obtain⟨go,co,jkD,eo,juH,OY,z0,z1⟩:=sQ.O.own.bK (o:=i) hi;obtain⟨gl,cl,curl,e1,hgl,Dz,f0,f1,f2,f3⟩:=sQ.O.own.fG (o:=i) (k:=j) hi hj;obtain⟨c0,c1,c2,c3,c4,c5,c6⟩:=sQ.O.cells;change w10.cell? _=some (.int .i64 (s.aK i j).dW)at f0
  change w10.cell? _=some (.int .i64 (s.aK i j).jk)at f1
  change w10.cell? _=some (.int .i64 (s.aK i j).qI)at f2
  change w10.cell? _=some (.int .i64 (s.aK i j).eU)at f3
  change V9.ak=.slice _ s.ak.length _ at eo
  change V9.aK i=.slice _ (s.aC i).aH.length _ at e1
  rw[eo]at c1
  rw[e1]at z1
  have e1':=ah e1;have YR:=Dz.lt;have jhf:=OY.lt;have XH:bx<w10.heap.size:=sQ.O.lt;obtain⟨gd,wt,gt,bk,hxl⟩:∃gd wt gt bk,s.aK i j=⟨gd,wt,gt,bk⟩:=⟨_,_,_,_,rfl⟩;have hln:=ah (hsn.O.aK hi hj).2;rw[hxl]at f0 f1 f2 f3 hg
  have Qp:=ah hxl;simp only at hg f0 f1 f2 f3
  subst hg;have jlW:(1<=wt/\wt<=200)/\(0<=gt/\gt<=wt)/\0<=bk/\bk<=wt:=by have:=hln.O;rwa [hxl]at this
  have hbl:=ah (iJ.new w10 106 #[g,wt,gt,bk]);have hxa:=ah (sQ.O.below ((aj _ w10).alloc (ay _) (.cells #[g,wt,gt,bk] 106)));have Qu:=h010.alloc h010.size (.cells #[g,wt,gt,bk] 106);have eo':=ah eo;clear e1 eo Dz OY hxl hln sQ h010;go_wp2_with fail;clear c0 c1 c2 c3 c4 c5 c6 z0 z1 f0 f1 f2 f3 YR jhf XH;generalize w10.heap.size=wl at hbl ⊢
  generalize w10.alloc (.cells #[g,wt,gt,bk] 106)=w11 at hxa Qu hbl ⊢
  obtain⟨_,_,_,z1⟩:=hxa.O.own.oQ (o:=i) hi eo'.O;rw[e1'.O]at z1
  obtain⟨_,c1,_⟩:=hxa.O.cells;rw[eo'.O]at c1
  have l1:=hbl.O.cell (j:=1) rfl;have l2:=hbl.O.cell (j:=2) rfl;have l3:=hbl.O.cell (j:=3) rfl;obtain⟨held,Td⟩:∃x,dD s.aA i j c=x:=⟨_,rfl⟩;rw[Td]at hh1 hh2 g1'
  have Ro:=ah Td;have hw2:IntKind.i64.wrap (gt+n)=gt+n:=aP _ (by omega)
  have hw3:IntKind.i64.wrap (bk+held)=bk+held:=aP _ (by omega)
  have hw4:IntKind.i64.wrap (bk+held - n)=bk+held - n:=aP _ (by omega)
  have hw5:IntKind.i64.wrap (held - n)=held - n:=aP _ (by omega)
  rw[Td];clear Td;go_wp2_with fail;go_still_tail 22,(by kernel_rfl)
  change wpList _ _ _ _ _ w11.drew;refine jbJ rfl (.tmp 128) (.tmp 127) rfl rfl (i:=i) (k:=j) (y:=⟨g,wt,gt+n,bk+held - n⟩) hxa.O.drew hi hj e1'.O rfl rfl (λw12 ji5 hst12=>?_)
  refine eP ?_
  have h012:=Qu.drew.trans (hst12.below (B:=W0.heap.size) (λq hq=>by omega) Qu.drew.size)
  have OM:=ah (show Bx w12 aT bx 40 [] V9 (qh s i j c held n)by rw[Zu,Qp.O];exact ji5)
  clear ji5 hst12 hxa Qu hbl z1 c1 l1 l2 l3 hw2 hw3 hw4;have jjg:=ah (show lu p (qh s i j c held n)by rw[<- Ro.O];exact Gi (jm hc'.O) hF.O)
  have jju:=ah (show May (qh s i j c held n) i j (held - n)by rw[<- Ro.O];exact JV (jm hc'.O) hF.O)
  have jki:=fD hb0 h012;obtain⟨⟨y0,y1⟩,x0,x1,x2,x3,x4,x5,x6,fB,fC⟩:=hK.O w12 (h012);obtain⟨c0,c1,c2,c3,c4,c5,c6⟩:=OM.O.cells;have hbs:aT<=w12.heap.size:=aU Bl (iQ OM.O.lt);go_wp2_with fail;clear y0 y1 x0 x1 x2 x3 x4 x5 x6 fB fC;clear c0 c1 c2 c3 c4 c5 c6 hw5;refine(jip _ _ p _ i j (held - n) c (hP'.O _ jki) jjg.O jju.O OM.O.own hbs).mono ?_
  rintro e W13 ⟨V',hsb,rfl,jrM,jna⟩;have hkp:=jgZ OM.O.own (show i<(qh s i j c held n).ak.length by rw[oZ];exact hi) jna hbs
  have je8:=ah (hkp.2.1 rfl _ _ OM.O.vw);have h013:=h012.trans (hkp.1.mono hle0);have jjp:=ah jrM;clear hkp jna hsb OM jjg jju h012 jki jrM;go_wp2_with (refine dU (.tmp 17) (.tmp 139) V9 V' rfl je8.O rfl jjp.O.one (λw14 jjU joP=>?_);refine bD ?_)
  unfold Hid;have jmg:=sV h013 joP h013.size (λk hk=>by injection hk with hk;omega)
  have ji4:=Bx.of jjU (jjp.O.keptBy joP je8.O.blk);have OL:=ah (show Bx w14 aT bx 40 [] V' (EI p s i j c n)by unfold EI;rw[Ro.O];exact ji4)
  clear ji4 jjU joP h013 je8 jjp;have hTh:=(JW (jm hc'.O) hF.O).1;have hTi:i<(EI p s i j c n).ak.length:=by rw[hTh.ak,oZ];exact hi
  have hTs:=ah hTh.right.sane;have OT:=ah (show pick p s i j c n=(close (EI p s i j c n) i,0)from dw.O)
  clear hTh hF dw;generalize EI p s i j c n=T at OL hTi hTs OT
  have l13:=hTs.O.rE hTi;have hTi':(i:Int)<(T.ak.length:Int):=by omega
  obtain⟨go2,co2,_,eo2,hgo2,-⟩:=OL.O.own.bK hTi;have jkq:=ah eo2;obtain⟨gl2,cl2,e2,jr2⟩:=OL.O.own.Ey hTi (by omega)
  have e2':=ah e2;clear eo2 e2;go_wp2_with fail;go_loopw[19,20] (λa k' wr=>∃q:Nat,q<=(T.aC i).aH.length/\k'=.int .i64 q/\a=.bool (Lh (T.aC i) q)/\Below w14.heap.size w14 wr) (λ_ k' _=>(T.aC i).aH.length - (RowKit.intOf k').toNat)
  case atStart=>exact⟨0,aN _,rfl,rfl,aj _ _⟩
  case round=>
   obtain⟨q,hq,rfl,rfl,h4⟩:=hrel;have hx:=ah (OL.O.below h4);obtain⟨_,_,z0,z1⟩:=hx.O.own.oQ hTi jkq.O;rw[e2'.O]at z1
   obtain⟨c0,c1,c2,c3,c4,c5,c6⟩:=hx.O.cells;rw[jkq.O]at c1
   by_cases hq1:q<(T.aC i).aH.length
   ·have hqi:(q:Int)<((T.aC i).aH.length:Int):=by omega
    obtain⟨_,f0,f1,f2,f3⟩:=hx.O.own.tJ hTi hq1 e2'.O;have hsu:=ah (XM hq1);change Hid (Lh (T.aC i) (q+1)=(Lh (T.aC i) q&&decide ((T.aK i q).qI=(T.aK i q).jk)))at hsu
    cases hgq:Lh (T.aC i) q
    ·have hn:=ah (show Lh (T.aC i) (q+1)=false by rw[hsu.O,hgq];rfl)
     clear hgq hsu;go_wp2_with fail;go_quiet (fail)
     go_wp2_with fail;go_roundw
     case rel=>exact⟨q+1,by omega,by go_num,by rw[hn.O],below_drewN h4 _⟩
     case measure=>simp[dY];omega
    ·by_cases hgw:(T.aK i q).qI=(T.aK i q).jk
     ·have hgb:((T.aK i q).qI==(T.aK i q).jk)=true:=by simpa using hgw
      have hn:=ah (show Lh (T.aC i) (q+1)=true by rw[hsu.O,hgq,hgw];simp)
      clear hgq hsu hgw;go_wp2_with fail;go_quiet (fail)
      go_wp2_with fail;go_roundw
      case rel=>exact⟨q+1,by omega,by go_num,by rw[hn.O],below_drewN h4 _⟩
      case measure=>simp[dY];omega
     ·have hgb:((T.aK i q).qI==(T.aK i q).jk)=false:=by simpa using hgw
      have hn:=ah (show Lh (T.aC i) (q+1)=false by rw[hsu.O,hgq,iE hgw];rfl)
      clear hgq hsu hgw;go_wp2_with fail;go_quiet (fail)
      go_wp2_with fail;go_roundw
      case rel=>exact⟨q+1,by omega,by go_num,by rw[hn.O],below_drewN h4 _⟩
      case measure=>simp[dY];omega
   ·obtain rfl:q=(T.aC i).aH.length:=by omega
    rw[ZR];have h0r:=fD jmg h4;have jpl:=fD hb0 h0r;cases hag:pq (T.aC i)
    ·have dw:=ah (show pick p s i j c n=(T,0)by rw[OT.O];unfold close;rw[hag];rfl)
     have hvv:=jkq.O;clear hag OT z0 c0 c1 c2 c3 c4 c5 c6 OL jkq e2';obtain⟨a0,a1,a2,a3,a4,a5,a6,a7,a8⟩:=V';obtain rfl:a1=.slice (some go2) T.ak.length co2:=hvv;have fH:=hR.O _ h0r;obtain⟨b0,b1,b2,b3,b4,b5,b6⟩:=jB.cells hx.O.vw;have lT:=dX.one hx.O.own;go_wp2_with (refine dU (.tmp 12) (.tmp 182) dV (⟨a0,.slice (some go2) T.ak.length co2,a2,a3,a4,a5,a6,a7,a8⟩:SV) rfl fH rfl lT (λw9 dS jg=>?_))
     have wO:=dX.keptBy hx.O.own jg fH;have eF:=Below.gV jpl jg;clear b0 b1 b2 b3 b4 b5 b6;go_wp2_with fail;exact jl results76 dS rfl rfl (F7 dw.O (wO.from_ hle) eF)
    ·have dw:=ah (show pick p s i j c n=({T with ak:=T.ak.set i {T.aC i with eH:=2}},0)by rw[OT.O];unfold close;rw[hag];rfl)
     clear hag OT c0 c2 c3 c4 c5 c6;go_wp2_with (refine Hf rfl (.tmp 181) (.const (.int .i64 2)) rfl rfl (i:=i) (q:=2) hx.O hTi jkq.O rfl rfl (λw15 jro jm8=>?_);refine bD ?_)
     unfold Hid;have js0:=h0r.trans (jm8.below (B:=W0.heap.size) (λq hq=>by omega) h0r.size)
     have jvm:=fD hb0 js0;have ji3:=ah jro;clear jro jm8 z0 z1 c1;have fH:=hR.O _ js0;obtain⟨b0,b1,b2,b3,b4,b5,b6⟩:=jB.cells ji3.O.vw;have lT:=dX.one ji3.O.own;go_wp2_with (refine dU (.tmp 12) (.tmp 182) dV V' rfl fH rfl lT (λw9 dS jg=>?_))
     have wO:=dX.keptBy ji3.O.own jg fH;have eF:=Below.gV jvm jg;clear b0 b1 b2 b3 b4 b5 b6;go_wp2_with fail;exact jl results76 dS rfl rfl (F7 dw.O (wO.from_ hle) eF)
 ·have hne:(aO p s !=0)=true:=by simpa using hc
  have dw:=ah (jcf (o:=o) (k:=k) (b:=b) (n:=n) hc);clear hc;have fH:=hR.O _ h1;go_wp2_with (refine dU (.tmp 12) (.tmp 26) dV dV rfl fH rfl rfl (λw9 dS jg=>?_))
  have eF:=Below.gV hB1 jg;go_wp2_with fail;exact jl results76 dS rfl rfl (jJ dw.O eF)
end
section
attribute [local go_sem] aV jF iY jI
theorem drop_zero{l:List eX}{o k b:Int}(hok:iI l=true)(h:dD l o k b=0):drop l o k b=([],0,4):=by
 unfold drop;rw[hok,au (by simp),aB h]
theorem jhr{l:List eX}{o k b:Int}(hok:iI l=true)(h:dD l o k b≠0):drop l o k b=(jE l ⟨o,k,b,0⟩,dD l o k b,0):=by
 unfold drop;rw[hok,au (by simp),au h]
theorem jcZ{l x:List eX}{o ln b m c:Int}(h:drop l o ln b=(x,m,c))(w:World)(v:Value)(hv:Sl iD w w v l):
  Calls prog 102 #[v,o,ln,b] w λe w'=>∃u,e=.returned (.tuple #[u,m,c])/\Own iD 4 116 w' w u x/\Below w w w':=by
 have:=joT w v l o ln b hv;unfold jdU at this
 rw[h]at this
 exact this
theorem YF(s:aI)(i j:Nat)(y z:Line)(hi:i<s.ak.length):(s.mD i j y).mD i j z=s.mD i j z:=by
 unfold aI.mD;simp only;have h:aI.aC {s with ak:=s.ak.set i {s.aC i with aH:=(s.aC i).aH.set j y}} i={s.aC i with aH:=(s.aC i).aH.set j y}:=by
  unfold aI.aC;rw[FT hi,aB rfl]
 rw[h];simp only[EN]
theorem jaD{s:aI}{i j c:Nat}{n held:Int}(hi:i<s.ak.length)(y:Line):
  ((preS s i j c n).mD i j y).mD i j {s.aK i j with qI:=(s.aK i j).qI+n,eU:=(s.aK i j).eU+(held - n)}=qh s i j c held n:=by
 rw[YF (preS s i j c n) i j _ _ hi,Zu,show(s.aK i j).eU+(held - n)=(s.aK i j).eU+held - n by omega]
theorem jlv(x:Line)(W:World):Calls prog 103 #[JQ x] W λe W'=>e=.returned (.bool (decide (x.qI<x.jk)))/\Below W W W':=by
 have hb0:Below W W (W.alloc (xZ x)):=(aj _ _).alloc (ay _) _;unfold JQ;go_enter func103,ntmps103
 go_wp2_with fail;go_ret
 exact⟨rfl,hb0⟩
theorem YZ:Enters prog 103:=enters_of func103 (by kernel_rfl) rfl
theorem jnX(w:World)(v vs:Value)(p:dG)(s:aI)(o k b n:Int)(hp:kK w w v p)(hv:kG w w vs s):
  Calls prog 65 #[v,vs,o,k,b,n] w (nN (pick p s o k b n) w):=by
 obtain⟨Ab,cb,As,cs,rfl,hP',hBn,hSz,hlb,hls⟩:=o9 hp;obtain⟨A0,c0,A1,c1,A2,c2,A3,c3,A4,c4,A5,c5,A6,c6,rfl,hV,hN,hO,hH,hM,hI,hU,hX,hl0,hl1,hl2,hl3,hl4,hl5,Jb⟩:=lY hv;go_enter func65,ntmps65
 go_wp2_with fail;obtain⟨W0,hW0,hb0,kX,um,hsE,hK,hR⟩:=yS w p s Ab cb As cs A0 c0 A1 c1 A2 c2 A3 c3 A4 c4 A5 c5 A6 c6;rw[hW0];clear hW0;obtain⟨⟨y0,y1⟩,x0,x1,x2,x3,x4,x5,x6,fB,fC⟩:=hK.O W0 (aj W0 W0);go_wp2_with fail;clear y0 y1 x0 x1 x2 x3 x4 x5 x6 fB fC;refine(Nh _ _ _ p s (hP'.O _ hb0) (hV.O _ hb0)).mono ?_
 rintro e W1 ⟨rfl,h1⟩;have hB1:=fD hb0 h1;obtain⟨⟨y0,y1⟩,x0,x1,x2,x3,x4,x5,x6,fB,fC⟩:=hK.O W1 (h1);by_cases hc:aO p s=0
 ·have hc':=ah hc;have hsn:=ah (gB.1 hc).1;rw[hc];clear hc;by_cases hk0:dD s.aA o k b=0
  ·have dw:=ah (Zv (n:=n) hc'.O hk0);have hdr:=ah (drop_zero hsn.O.aA hk0);clear hk0;go_wp2_with fail;clear y0 y1 x0 x1 x2 x3 x4 x5 x6 fB fC;refine(jcZ hdr.O _ _ (hH.O _ hB1)).mono ?_
   rintro e W2 ⟨u,rfl,hu,h2⟩;have h02:=fD h1 h2;have hB2:=fD hb0 h02;have fH:=hR.O _ h02;go_wp2_with (refine dU (.tmp 12) (.tmp 40) dV dV rfl fH rfl rfl (λw9 dS jg=>?_))
   have eF:=Below.gV hB2 jg;go_wp2_with fail;exact jl results65 dS rfl rfl (jJ dw.O eF)
  have hdr:=ah (jhr hsn.O.aA hk0);have hk0':=ah hk0;have wU:=Gn (gI.1 hsn.O.aA).1 (gI.1 hsn.O.aA).2 o k b;clear hk0;go_wp2_with fail;clear y0 y1 x0 x1 x2 x3 x4 x5 x6 fB fC;refine(jcZ hdr.O _ _ (hH.O _ hB1)).mono ?_
  rintro e W2 ⟨u,rfl,hu,h2⟩;have h02:=fD h1 h2;have hB2:=fD hb0 h02;have hle:w.heap.size<=W1.heap.size:=hB1.size;obtain⟨A7,c7,rfl⟩:=hu.isSlice;have hu2:=ah hu;have hle0:W0.heap.size<=W1.heap.size:=h1.size;have hle2:W1.heap.size<=W2.heap.size:=h2.size;clear hu h2 h1 hB1;obtain⟨⟨y0,y1⟩,x0,x1,x2,x3,x4,x5,x6,fB,fC⟩:=hK.O W2 (h02);by_cases g1:n<0
  ·have dw:=ah (QX hc'.O hk0'.O (.inl g1));clear hu2;have fH:=hR.O _ h02;go_wp2_with (refine dU (.tmp 12) (.tmp 49) dV dV rfl fH rfl rfl (λw9 dS jg=>?_))
   have eF:=Below.gV hB2 jg;go_wp2_with fail;exact jl results65 dS rfl rfl (jJ dw.O eF)
  by_cases g2:dD s.aA o k b<n
  ·have dw:=ah (QX hc'.O hk0'.O (.inr g2));clear hu2;have fH:=hR.O _ h02;go_wp2_with (refine dU (.tmp 12) (.tmp 49) dV dV rfl fH rfl rfl (λw9 dS jg=>?_))
   have eF:=Below.gV hB2 jg;go_wp2_with fail;exact jl results65 dS rfl rfl (jJ dw.O eF)
  obtain⟨i,j,c,rfl,rfl,rfl,hi,hj,hcb,hh1,hh2,hpk⟩:=jfV hc'.O hk0'.O (n:=n) ⟨by omega,by omega⟩
  have hpk':=ah hpk;have hn0:0<=n/\n<=dD s.aA i j c:=⟨by omega,by omega⟩
  clear hpk hk0' hdr wU;go_wp2_with fail;clear y0 y1 x0 x1 x2 x3 x4 x5 x6 fB fC;refine(jbV _ _ p s (hV.O _ hB2) hsn.O).mono ?_
  rintro e W5 ⟨_,rfl,⟨V5,rfl,DC⟩,h5⟩;have rU:=(DC).one;have zV:=Dj (W5);go_wp2_with (refine dU (.tmp 18) (.tmp 51) dV V5 rfl zV rfl rU (λw6 nK Jv=>?_);refine bD ?_)
  unfold Hid;have vG:=xg Jv;have x9:=nK.lt;clear rU zV Jv;have h26:=fD h5 vG;have hx6:=ah ((Bx.of nK (DC.below vG)).from_ hle2);have hu6:=ah (hu2.O.below h26);have h06:=fD h02 h26;have Bl:W1.heap.size<=W5.heap.size:=aU hle2 h5.size;clear nK DC vG h5 x9 h02 hB2 h26 hu2 hle2;generalize W1.heap.size=aT at hx6 hle hle0 Bl hu6
  generalize W5.heap.size=bx at hx6 Bl ⊢
  have hg0:=(hsn.O.aK hi hj).1;obtain⟨g,hg⟩:∃g:Nat,(s.aK i j).dW=(g:Int):=⟨(s.aK i j).dW.toNat,by omega⟩
  have hgt:(s.aK i j).dW.toNat=g:=by omega
  have hgp:g<p.aW.length:=by omega
  have hgo:g<s.O.length:=by rw[hsn.O.O.1];exact hgp
  have juG:(g:Int)<(s.O.length:Int):=by omega
  have o1:=hsn.O.O.2 hgp;have hwo:IntKind.i64.wrap (aZ s.O g+n)=aZ s.O g+n:=aP _ (by omega)
  have hi':(i:Int)<s.ak.length:=by omega
  have hj':(j:Int)<((s.aC i).aH.length:Int):=by omega
  rw[hgt]at hpk'
  obtain⟨go,co,jkD,eo,juH,OY,z0,z1⟩:=hx6.O.own.bK (o:=i) hi;obtain⟨gl,cl,curl,e1,hgl,Dz,f0,f1,f2,f3⟩:=hx6.O.own.fG (o:=i) (k:=j) hi hj;obtain⟨gu,cu,jvI,eu,hgu,hbu,ru⟩:=dX.CU hx6.O.own.O (g:=g) hgo;obtain⟨c0,c1,c2,c3,c4,c5,c6⟩:=hx6.O.cells;rw[eo]at c1
  rw[e1]at z1
  rw[eu]at c5
  rw[hg]at f0
  have e1':=ah e1;have eo':=ah eo;have eu':=ah eu;clear e1 eo eu Dz OY hbu z0 f1 f2 f3;by_cases hm:1048576<aZ s.O g+n
  ·have dw:=ah (show pick p s i j c n=(kF,2)by rw[hpk'.O,aB hm])
   go_wp2_with fail;go_quiet (fail)
   have Rz:=below_drewN h06 nq;have hBd:=fD hb0 Rz;clear c0 c1 c2 c3 c4 c5 c6 z1 f0 ru hx6 hu6;generalize w6.drewN nq=w7 at Rz hBd ⊢
   have fH:=hR.O _ Rz;go_wp2_with (refine dU (.tmp 12) (.tmp 73) dV dV rfl fH rfl rfl (λw9 dS jg=>?_))
   have eF:=Below.gV hBd jg;go_wp2_with fail;exact jl results65 dS rfl rfl (jJ dw.O eF)
  have hmd:=iE hm;have dw:=ah (show pick p s i j c n=(BF p s i j c n,0)by rw[hpk'.O,au hm])
  have hF:=ah (show GY p s i j c n from⟨hi,hj,hcb,hh1,hn0.1,hn0.2,by rw[hgt];omega⟩)
  go_wp2_with fail;go_quiet (fail)
  have hd7:=below_drewN (aj w6 w6) nq;have hx7:=ah (hx6.O.below hd7);have hu7:=ah (hu6.O.below hd7);have h07:=fD h06 hd7;clear c0 c1 c2 c3 c4 c5 c6 z1 f0 ru hx6 hu6 hd7 h06 hpk' hmd hm;generalize w6.drewN nq=w7 at hx7 hu7 h07 ⊢
  go_wp2_with (refine Iu rfl (.tmp 75) (.tmp 74) rfl rfl A7 _ c7 _ hx7.O rfl rfl hu7.O (λw8 MC BX=>?_);refine bD ?_)
  unfold Hid;have BG:=h07.trans (BX.below (B:=W0.heap.size) (λq hq=>by omega) h07.size)
  have wJ:=ah MC;have e19:=ah (show({V5 with aA:=.slice A7 (jE s.aA ⟨i,j,c,0⟩).length c7}:SV).aK i=.slice (some gl) (s.aC i).aH.length cl from e1'.O)
  have eo9:=ah (show({V5 with aA:=.slice A7 (jE s.aA ⟨i,j,c,0⟩).length c7}:SV).ak=.slice (some go) s.ak.length co from eo'.O)
  clear MC BX hx7 hu7 h07 e1' eo' eu';generalize ({V5 with aA:=.slice A7 (jE s.aA ⟨i,j,c,0⟩).length c7}:SV)=V9 at wJ e19 eo9
  have hco:c<s.on.length:=by rw[hsn.O.sO];exact hcb
  have hci:(c:Int)<(s.on.length:Int):=by omega
  have hgr:g<(fO s.on c).length:=by rw[hsn.O.rowLen hcb];exact hgp
  have jl0:(g:Int)<((fO s.on c).length:Int):=by omega
  have juR:=hsn.O.cell hcb hgp;have hw1:IntKind.i64.wrap (cell s.on c g - n)=cell s.on c g - n:=aP _ (by omega)
  obtain⟨Jw,con,RS,gr,cr,cur,RJ,XB,OX,r0,er,XA,hbr,rc⟩:=wJ.O.own.QZ hco hgr;change w8.cell? _=some (.int .i64 (cell s.on c g))at rc
  change w8.cell? _=some (.slice _ (fO s.on c).length _)at r0
  change V9.on=.slice _ s.on.length _ at RJ
  obtain⟨_,f0,_⟩:=wJ.O.own.tJ (o:=i) (k:=j) hi hj e19.O;change w8.cell? _=some (.int .i64 (s.aK i j).dW)at f0
  rw[hg]at f0
  obtain⟨c0,_⟩:=wJ.O.cells;rw[RJ]at c0
  have er':=ah er;clear RJ er OX hbr;go_wp2_with fail;go_still_tail 14,(by kernel_rfl)
  change wpList _ _ _ _ _ w8.drew;refine Ir rfl (.tmp 89) (.tmp 88) rfl rfl (i:=c) (g:=g) (q:=cell s.on c g - n) wJ.O.drew hco hgr er'.O rfl rfl (λw9 Gq uQ=>?_)
  refine eP ?_
  have h09:=BG.drew.trans (uQ.below (B:=W0.heap.size) (λq hq=>by omega) BG.drew.size)
  have Eh:=ah (show Bx w9 aT bx 40 [] V9 {pk1 s c g n with aA:=jE s.aA ⟨i,j,c,0⟩}from Gq)
  clear Gq uQ c0 f0 r0 rc hw1 wJ BG er';obtain⟨gu2,cu2,curu2,eu2,hgu2,juU,ru⟩:=dX.CU Eh.O.own.O (g:=g) hgo;change w9.cell? _=some (.int .i64 (aZ s.O g))at ru
  change V9.O=.slice _ s.O.length _ at eu2
  obtain⟨_,f0,_⟩:=Eh.O.own.tJ (o:=i) (k:=j) hi hj e19.O;change w9.cell? _=some (.int .i64 (s.aK i j).dW)at f0
  rw[hg]at f0
  obtain⟨_,_,_,_,_,c5,_⟩:=Eh.O.cells;rw[eu2]at c5
  have eu':=ah eu2;clear eu2 juU;go_wp2_with fail;go_still_tail 11,(by kernel_rfl)
  change wpList _ _ _ _ _ w9.drew;refine Y8 rfl (.tmp 100) (.tmp 99) rfl rfl (g:=g) (q:=aZ s.O g+n) Eh.O.drew hgo eu'.O rfl rfl (λw10 AX Ai=>?_)
  refine eP ?_
  have h010:=h09.drew.trans (Ai.below (B:=W0.heap.size) (λq hq=>by omega) h09.drew.size)
  have sQ:=ah (show Bx w10 aT bx 40 [] V9 (preS s i j c n)by rw[<- jiG hgt];exact AX)
  clear AX Ai c5 f0 ru Eh h09 eu';have hln:=(hsn.O.aK hi hj).2;obtain⟨gd,wt,gt,bk,hxl⟩:∃gd wt gt bk,s.aK i j=⟨gd,wt,gt,bk⟩:=⟨_,_,_,_,rfl⟩;rw[hxl]at hln hg
  have Qp:=ah hxl;simp only at hln hg
  subst hg;obtain⟨held,Td⟩:∃x,dD s.aA i j c=x:=⟨_,rfl⟩;rw[Td]at hh1 hh2 hn0
  have Ro:=ah Td;have hw2:IntKind.i64.wrap (gt+n)=gt+n:=aP _ (by omega)
  have hw5:IntKind.i64.wrap (held - n)=held - n:=aP _ (by omega)
  have hw4:IntKind.i64.wrap (bk+(held - n))=bk+(held - n):=aP _ (by omega)
  obtain⟨_,f0,f1,f2,f3⟩:=sQ.O.own.tJ (o:=i) (k:=j) hi hj e19.O;change w10.cell? _=some (.int .i64 (s.aK i j).qI)at f2
  rw[hxl]at f2
  rw[Td];clear Td f0 f1 f3 hxl;go_wp2_with (refine BO rfl (.tmp 108) (.tmp 106) rfl rfl (i:=i) (k:=j) (j:=2) (y:=⟨g,wt,gt+n,bk⟩) sQ.O hi hj e19.O (by decide) (show mX ⟨g,wt,gt+n,bk⟩=(mX (s.aK i j)).set 2 (.int .i64 (gt+n))by rw[Qp.O];rfl) rfl rfl (λw11 YO SY=>?_);refine bD ?_)
  unfold Hid;have h011:=h010.trans (SY.below (B:=W0.heap.size) (λq hq=>by omega) h010.size)
  have ji6:=ah YO;have joC:=ah (show((preS s i j c n).mD i j ⟨g,wt,gt+n,bk⟩).aK i j=⟨g,wt,gt+n,bk⟩by rw[Nu (s:=preS s i j c n) hi hj,aB ⟨rfl,rfl⟩])
  have joL:i<((preS s i j c n).mD i j ⟨g,wt,gt+n,bk⟩).ak.length:=by rw[JY];exact hi
  have joI:j<(((preS s i j c n).mD i j ⟨g,wt,gt+n,bk⟩).aC i).aH.length:=by rw[LM (s:=preS s i j c n) hi];exact hj
  clear YO SY f2 sQ h010 hw2;obtain⟨_,f0,f1,f2,f3⟩:=ji6.O.own.tJ joL joI e19.O;rw[joC.O]at f3
  clear f0 f1 f2;go_wp2_with (refine BO rfl (.tmp 118) (.tmp 116) rfl rfl (i:=i) (k:=j) (j:=3) (y:=⟨g,wt,gt+n,bk+(held - n)⟩) ji6.O joL joI e19.O (by decide) (by rw[joC.O];rfl) rfl rfl (λw12 ji5 hst12=>?_);refine bD ?_)
  unfold Hid;have h012:=h011.trans (hst12.below (B:=W0.heap.size) (λq hq=>by omega) h011.size)
  have OM:=ah (show Bx w12 aT bx 40 [] V9 (qh s i j c held n)by rw[<- jaD (s:=s) (n:=n) (held:=held) (c:=c) (j:=j) hi ⟨g,wt,gt+n,bk⟩,Qp.O];exact ji5)
  clear ji5 hst12 f3 ji6 h011 hw4 joC joL joI;have jjg:=ah (show lu p (qh s i j c held n)by rw[<- Ro.O];exact Gi (jm hc'.O) hF.O)
  have jju:=ah (show May (qh s i j c held n) i j (held - n)by rw[<- Ro.O];exact JV (jm hc'.O) hF.O)
  have jki:=fD hb0 h012;obtain⟨⟨y0,y1⟩,x0,x1,x2,x3,x4,x5,x6,fB,fC⟩:=hK.O w12 (h012);have hbs:aT<=w12.heap.size:=aU Bl (iQ OM.O.lt);go_wp2_with fail;clear y0 y1 x0 x1 x2 x3 x4 x5 x6 fB fC;clear hw5;refine(jfG _ _ p _ i j (held - n) c (hP'.O _ jki) jjg.O jju.O OM.O hbs).mono ?_
  rintro e w14 ⟨rfl,V7,jrE,ji4,jm9⟩;have hge:∀q,(q=bx\/(V9.aK i).ownBlock=some q)->aT<=q:=λq hq=>by
   rcases hq with rfl|hq
   ·exact Bl
   ·exact((OM.O.own.aK i (show i<(qh s i j c held n).ak.length by rw[oZ];exact hi)).size q hq).1
  have jmg:=h012.trans (jm9.below (B:=W0.heap.size) (λq hq=>aU hle0 (hge q hq)) h012.size)
  have OL:=ah (show Bx w14 aT bx 40 [] V7 (EI p s i j c n)by unfold EI;rw[Ro.O];exact ji4)
  have eo7:=ah (show V7.ak=.slice (some go) s.ak.length co by rw[jrE];exact eo9.O)
  clear ji4 jm9 jrE hge OM h012 jki jjg jju eo9 e19;have hTh:=(JW (jm hc'.O) hF.O).1;have hTi:i<(EI p s i j c n).ak.length:=by rw[hTh.ak,oZ];exact hi
  have hTs:=ah hTh.right.sane;have OT:=ah (show pick p s i j c n=(close (EI p s i j c n) i,0)from dw.O)
  clear hTh hF dw;generalize EI p s i j c n=T at OL hTi hTs OT
  have l13:=hTs.O.rE hTi;obtain⟨_,_,_,z1⟩:=OL.O.own.oQ hTi eo7.O;have hsl:=ah ((OL.O.own.aK i hTi).sl (by omega))
  go_wp2_with fail;clear z1;refine(yB _ _ (T.aC i).aH 103 #[] (λx=>decide (x.qI<x.jk)) YZ hsl.O (λj _ W hW=>jlv _ W)).mono ?_
  rintro e W15 ⟨rfl,h15⟩;rw[Yk hTs.O hTi];have hx:=ah (OL.O.below h15);have h0r:=fD jmg h15;have jpl:=fD hb0 h0r;clear hsl OL jmg h15;cases hag:pq (T.aC i)
  ·have dw:=ah (show pick p s i j c n=(T,0)by rw[OT.O];unfold close;rw[hag];rfl)
   clear hag OT;have fH:=hR.O _ h0r;obtain⟨b0,b1,b2,b3,b4,b5,b6⟩:=jB.cells hx.O.vw;have lT:=dX.one hx.O.own;go_wp2_with (refine dU (.tmp 12) (.tmp 136) dV V7 rfl fH rfl lT (λw9 dS jg=>?_))
   have wO:=dX.keptBy hx.O.own jg fH;have eF:=Below.gV jpl jg;clear b0 b1 b2 b3 b4 b5 b6;go_wp2_with fail;exact jl results65 dS rfl rfl (F7 dw.O (wO.from_ hle) eF)
  ·have dw:=ah (show pick p s i j c n=({T with ak:=T.ak.set i {T.aC i with eH:=2}},0)by rw[OT.O];unfold close;rw[hag];rfl)
   clear hag OT;obtain⟨_,_,z0,_⟩:=hx.O.own.oQ hTi eo7.O;go_wp2_with (refine Hf rfl (.tmp 135) (.const (.int .i64 2)) rfl rfl (i:=i) (q:=2) hx.O hTi eo7.O rfl rfl (λw16 hx16 jm7=>?_);refine bD ?_)
   unfold Hid;have jsZ:=h0r.trans (jm7.below (B:=W0.heap.size) (λq hq=>by omega) h0r.size)
   have jvl:=fD hb0 jsZ;have ji2:=ah hx16;clear hx16 jm7 z0;have fH:=hR.O _ jsZ;obtain⟨b0,b1,b2,b3,b4,b5,b6⟩:=jB.cells ji2.O.vw;have lT:=dX.one ji2.O.own;go_wp2_with (refine dU (.tmp 12) (.tmp 136) dV V7 rfl fH rfl lT (λw9 dS jg=>?_))
   have wO:=dX.keptBy ji2.O.own jg fH;have eF:=Below.gV jvl jg;clear b0 b1 b2 b3 b4 b5 b6;go_wp2_with fail;exact jl results65 dS rfl rfl (F7 dw.O (wO.from_ hle) eF)
 ·have hne:(aO p s !=0)=true:=by simpa using hc
  have dw:=ah (jcf (o:=o) (k:=k) (b:=b) (n:=n) hc);clear hc;have fH:=hR.O _ h1;go_wp2_with (refine dU (.tmp 12) (.tmp 26) dV dV rfl fH rfl rfl (λw9 dS jg=>?_))
  have eF:=Below.gV hB1 jg;go_wp2_with fail;exact jl results65 dS rfl rfl (jJ dw.O eF)
end
section
attribute [local go_sem] aV jF iY jI
def mv2(s:aI)(a d g:Nat)(n:Int):aI:={pk1 s a g n with on:=setCell (pk1 s a g n).on d g (cell (pk1 s a g n).on d g+n)}
theorem Xb{s:aI}{i a d g:Nat}{m n:Int}(h:bZ s.aF i=⟨g,a,d,m⟩):({mv2 s a d g n with aF:=s.aF.eraseIdx i}:aI)=BR s i n:=by
 unfold BR;rw[h];rfl
theorem jmk(w:World)(v vs:Value)(p:dG)(s:aI)(k n:Int)(hp:kK w w v p)(hv:kG w w vs s):
  Calls prog 67 #[v,vs,k,n] w (nN (D6 p s k n) w):=by
 obtain⟨Ab,cb,As,cs,rfl,hP',hBn,hSz,hlb,hls⟩:=o9 hp;obtain⟨A0,c0,A1,c1,A2,c2,A3,c3,A4,c4,A5,c5,A6,c6,rfl,hV,hN,hO,hH,hM,hI,hU,hX,hl0,hl1,hl2,hl3,hl4,hl5,Jb⟩:=lY hv;go_enter func67,ntmps67
 go_wp2_with fail;obtain⟨W0,hW0,hb0,kX,um,hsE,hK,hR⟩:=yS w p s Ab cb As cs A0 c0 A1 c1 A2 c2 A3 c3 A4 c4 A5 c5 A6 c6;rw[hW0];clear hW0;obtain⟨⟨y0,y1⟩,x0,x1,x2,x3,x4,x5,x6,fB,fC⟩:=hK.O W0 (aj W0 W0);go_wp2_with fail;clear y0 y1 x0 x1 x2 x3 x4 x5 x6 fB fC;refine(Nh _ _ _ p s (hP'.O _ hb0) (hV.O _ hb0)).mono ?_
 rintro e W1 ⟨rfl,h1⟩;have hB1:=fD hb0 h1;obtain⟨⟨y0,y1⟩,x0,x1,x2,x3,x4,x5,x6,fB,fC⟩:=hK.O W1 (h1);by_cases hc:aO p s=0
 ·have hc':=ah hc;have hsn:=ah (gB.1 hc).1;rw[hc];clear hc;by_cases g1:k<0
  ·have dw:=ah (Q8 (n:=n) hc'.O (.inl g1));have fH:=hR.O _ h1;go_wp2_with (refine dU (.tmp 8) (.tmp 29) dV dV rfl fH rfl rfl (λw9 dS jg=>?_))
   have eF:=Below.gV hB1 jg;go_wp2_with fail;exact jl results67 dS rfl rfl (jJ dw.O eF)
  by_cases g2:(s.aF.length:Int)<=k
  ·have dw:=ah (Q8 (n:=n) hc'.O (.inr g2));have fH:=hR.O _ h1;go_wp2_with (refine dU (.tmp 8) (.tmp 29) dV dV rfl fH rfl rfl (λw9 dS jg=>?_))
   have eF:=Below.gV hB1 jg;go_wp2_with fail;exact jl results67 dS rfl rfl (jJ dw.O eF)
  obtain⟨i,rfl⟩:∃i:Nat,k=i:=⟨k.toNat,by omega⟩
  have hk:i<s.aF.length:=by omega
  have hki:(i:Int)<(s.aF.length:Int):=by omega
  have h8:=hsn.O.uf;obtain⟨gd,sr,ds,mn,hxm⟩:∃gd sr ds mn,bZ s.aF i=⟨gd,sr,ds,mn⟩:=⟨_,_,_,_,rfl⟩;have hmv:=hsn.O.bZ hk;rw[hxm]at hmv
  simp only at hmv
  obtain⟨g,rfl⟩:∃g:Nat,gd=g:=⟨gd.toNat,by omega⟩
  obtain⟨a,rfl⟩:∃a:Nat,sr=a:=⟨sr.toNat,by omega⟩
  obtain⟨d,rfl⟩:∃d:Nat,ds=d:=⟨ds.toNat,by omega⟩
  have hgp:g<p.aW.length:=by omega
  have hap:a<p.dP.length:=by omega
  have hdp:d<p.dP.length:=by omega
  have had:a≠d:=by omega
  have hao:a<s.on.length:=by rw[hsn.O.sO];exact hap
  have hdo:d<s.on.length:=by rw[hsn.O.sO];exact hdp
  have hga:g<(fO s.on a).length:=by rw[hsn.O.rowLen hap];exact hgp
  have hgd:g<(fO s.on d).length:=by rw[hsn.O.rowLen hdp];exact hgp
  have hai:(a:Int)<(s.on.length:Int):=by omega
  have hdi:(d:Int)<(s.on.length:Int):=by omega
  have juM:(g:Int)<((fO s.on a).length:Int):=by omega
  have juK:(g:Int)<((fO s.on d).length:Int):=by omega
  have hca:=hsn.O.cell hap hgp;have hcd:=hsn.O.cell hdp hgp;have SS:=ah hxm;obtain⟨okm,lm,e0,e1,e2,e3⟩:=(hM.O W1 hB1).at_.move hk;rw[hxm]at e0 e1 e2 e3
  simp only at e0 e1 e2 e3
  have h1a:=h1.alloc h1.size (.cells #[g,a,d,mn] 118);have Vs:=hB1.alloc hB1.size (.cells #[g,a,d,mn] 118);clear hxm;by_cases g3:n<0
  ·have dw:=ah (OB (n:=n) hc'.O hk (.inl g3));have fH:=hR.O _ h1a;go_wp2_with (refine dU (.tmp 8) (.tmp 43) dV dV rfl fH rfl rfl (λw9 dS jg=>?_))
   have eF:=Below.gV Vs jg;go_wp2_with fail;exact jl results67 dS rfl rfl (jJ dw.O eF)
  by_cases g4:mn<n
  ·have dw:=ah (OB (n:=n) hc'.O hk (.inr (by rw[SS.O];exact g4)))
   have fH:=hR.O _ h1a;go_wp2_with (refine dU (.tmp 8) (.tmp 43) dV dV rfl fH rfl rfl (λw9 dS jg=>?_))
   have eF:=Below.gV Vs jg;go_wp2_with fail;exact jl results67 dS rfl rfl (jJ dw.O eF)
  have Rw:=ah (iJ.new W1 118 #[g,a,d,mn]);obtain⟨Ar,cr,or0,UN,Zp,wK⟩:=(hN.O W1 hB1).row hdo;obtain⟨or1,lr1,RZ⟩:=wK.at_.int hgd;change W1.cell? _=some (.int .i64 (cell s.on d g))at RZ
  have hw0:IntKind.i64.wrap (cell s.on d g+n)=cell s.on d g+n:=aP _ (by omega)
  by_cases hm:200<cell s.on d g+n
  ·have dw:=ah (Xc (n:=n) hc'.O hk (by rw[SS.O];exact⟨by omega,by simp only;omega⟩) (by rw[SS.O];simp only[dn];exact hm))
   go_wp2_with fail;go_quiet (fail)
   have Rz:=below_drewN h1a nq;have hBd:=below_drewN Vs nq;clear y0 y1 x0 x1 x2 x3 x4 x5 x6 fB fC;clear e0 e1 e2 e3 okm lm or0 UN Zp wK or1 lr1 RZ Rw h1a Vs;generalize (W1.alloc (.cells #[g,a,d,mn] 118)).drewN nq=W4 at Rz hBd ⊢
   have fH:=hR.O _ Rz;go_wp2_with (refine dU (.tmp 8) (.tmp 57) dV dV rfl fH rfl rfl (λw9 dS jg=>?_))
   have eF:=Below.gV hBd jg;go_wp2_with fail;exact jl results67 dS rfl rfl (jJ dw.O eF)
  have hmd:=iE hm;have dw:=ah (jcs (n:=n) hc'.O ⟨hk,by omega,by rw[SS.O];simp only;omega,by rw[SS.O];simp only[dn];omega⟩)
  go_wp2_with fail;go_quiet (fail)
  have Rz:=below_drewN h1a nq;have hBd:=below_drewN Vs nq;have KG:=ah (Rw.O.below (below_drewN (aj _ _) nq) Rw.O.lt);clear y0 y1 x0 x1 x2 x3 x4 x5 x6 fB fC;clear e0 e1 e2 e3 okm lm or0 UN Zp wK or1 lr1 RZ Rw h1a Vs hw0 hmd;generalize W1.heap.size=wl at KG ⊢
  generalize (W1.alloc (.cells #[g,a,d,mn] 118)).drewN nq=W4 at Rz hBd KG ⊢
  obtain⟨⟨y0,y1⟩,x0,x1,x2,x3,x4,x5,x6,fB,fC⟩:=hK.O W4 (Rz);go_wp2_with fail;clear y0 y1 x0 x1 x2 x3 x4 x5 x6 fB fC;refine(jbV _ _ p s (hV.O _ hBd) hsn.O).mono ?_
  rintro e W5 ⟨_,rfl,⟨V5,rfl,DC⟩,h5⟩;have rU:=(DC).one;have zV:=Dj (W5);go_wp2_with (refine dU (.tmp 12) (.tmp 59) dV V5 rfl zV rfl rU (λw6 nK Jv=>?_);refine bD ?_)
  unfold Hid;have vG:=xg Jv;have x9:=nK.lt;clear rU zV Jv;have h56:=fD h5 vG;have hx6:=ah (Bx.of nK (DC.below vG));have h06:=fD Rz h56;have x9:=ah (KG.O.below h56 KG.O.lt);have hlw:wl<W4.heap.size:=KG.O.lt;have hle:w.heap.size<=W4.heap.size:=hBd.size;have hle0:W0.heap.size<=W4.heap.size:=Rz.size;have Bl:W4.heap.size<=W5.heap.size:=h5.size;clear nK DC vG h5 KG Rz hBd h56;have juq:wl<w6.heap.size:=x9.O.lt;generalize W4.heap.size=aT at hx6 hle hle0 Bl hlw
  generalize W5.heap.size=bx at hx6 Bl ⊢
  have jfa:aT<=bx:=Bl;have hcd1:cell (pk1 s a g n).on d g=cell s.on d g:=by
   show cell (setCell s.on a g _) d g=_;rw[pU hao hga,au (by omega)]
  have hw1:IntKind.i64.wrap (cell s.on a g - n)=cell s.on a g - n:=aP _ (by omega)
  have hw2:IntKind.i64.wrap (cell s.on d g+n)=cell s.on d g+n:=aP _ (by omega)
  obtain⟨Jw,con,RS,gr,cr,cur,RJ,XB,OX,r0,er,XA,hbr,rc⟩:=hx6.O.own.QZ hao hga;have c0:=hx6.O.cells.1;rw[RJ]at c0
  have er':=ah er;clear RJ er OX hbr;have m0:=x9.O.cell (j:=0) rfl;have m1:=x9.O.cell (j:=1) rfl;go_wp2_with fail;go_still_tail 13,(by kernel_rfl)
  change wpList _ _ _ _ _ w6.drew;refine Ir rfl (.tmp 72) (.tmp 71) rfl rfl (i:=a) (g:=g) (q:=cell s.on a g - n) hx6.O.drew hao hga er'.O rfl rfl (λw7 hx7 Dy=>?_)
  refine eP ?_
  have h07:=h06.drew.trans (Dy.below (B:=W0.heap.size) (λq hq=>by omega) h06.drew.size)
  have zT:=ah (show Bx w7 aT bx 40 [] V5 (pk1 s a g n)from hx7)
  have Vr:=ah (Dy.blk (show iJ w6.drew wl 118 _ from x9.O) (by omega))
  clear hx7 Dy c0 r0 rc m0 m1 hw1 hx6 h06 er' x9;have je3:d<(pk1 s a g n).on.length:=by show d<(setCell _ _ _ _).length;rw[qj];exact hdo
  have hgd1:g<(fO (pk1 s a g n).on d).length:=by show g<(fO (setCell _ _ _ _) d).length;rw[uN];exact hgd
  obtain⟨Jw,con,RS,gr,cr,cur,RJ,XB,OX,r0,er,XA,hbr,rc⟩:=zT.O.own.QZ je3 hgd1;rw[hcd1]at rc
  have c0:=zT.O.cells.1;rw[RJ]at c0
  have hl1:(pk1 s a g n).on.length=s.on.length:=qj;have hl2:(fO (pk1 s a g n).on d).length=(fO s.on d).length:=uN;rw[hl1]at c0
  rw[hl2]at r0
  have er':=ah er;clear RJ er OX hbr hl1 hl2;have m0:=Vr.O.cell (j:=0) rfl;have m2:=Vr.O.cell (j:=2) rfl;go_wp2_with fail;go_still_tail 13,(by kernel_rfl)
  change wpList _ _ _ _ _ w7.drew;refine Ir rfl (.tmp 85) (.tmp 84) rfl rfl (i:=d) (g:=g) (q:=cell s.on d g+n) zT.O.drew je3 hgd1 er'.O rfl rfl (λw8 MC BX=>?_)
  refine eP ?_
  have BG:=h07.drew.trans (BX.below (B:=W0.heap.size) (λq hq=>by omega) h07.drew.size)
  have wJ:=ah (show Bx w8 aT bx 40 [] V5 (mv2 s a d g n)by unfold mv2;rw[hcd1];exact MC)
  clear MC BX c0 r0 rc m0 m2 hw2 zT h07 er' Vr je3 hgd1;have hmo:=ah wJ.O.own.aF;have c3:=wJ.O.cells.2.2.2.1;go_wp2_with fail;clear c3;refine(jmn _ aT _ s.aF i hmo.O hk (by omega)).mono ?_
  rintro e w9 ⟨u,rfl,hu,jg,hub⟩;obtain⟨A9,c9,rfl⟩:=hu.isSlice;have wO:=wJ.O.own.JI jg hu;have J9:some bx≠V5.aF.ownBlock:=λhe=>by
   rcases wJ.O.own.aF.qy wJ.O.vw.blk (by decide)with h|h
   ·rw[h]at he;cases he
   ·exact h he.symm
  have AA:=wJ.O.vw.grown jg J9;have h09:=BG.grown jg BG.size (λr hr=>by have:=(hmo.O.size r hr).1;omega)
  have jbb:=ah AA;have YT:=ah wO;clear hu jg hub wO AA hmo wJ BG J9;go_wp2_with (refine MX rfl (.tmp 92) (.tmp 91) rfl rfl A9 (s.aF.eraseIdx i).length c9 (V:=V5) (cs:=[]) (b:=bx) (by rw[jd];exact jbb.O.blk) YT.O Yi rfl rfl rfl (λw10 AX Ai=>?_);refine bD ?_)
  unfold Hid;have sQ:=ah (show Bx w10 aT bx 40 [] {V5 with aF:=.slice A9 (s.aF.eraseIdx i).length c9} (BR s i n)by rw[<- Xb SS.O];exact AX)
  have h010:=h09.trans (Ai.below (B:=W0.heap.size) (λq hq=>by omega) h09.size)
  have Oi:=fD hb0 h010;clear AX Ai jbb YT h09;generalize ({V5 with aF:=.slice A9 (s.aF.eraseIdx i).length c9}:SV)=V9 at sQ
  have fH:=hR.O _ h010;obtain⟨b0,b1,b2,b3,b4,b5,b6⟩:=jB.cells sQ.O.vw;have lT:=dX.one sQ.O.own;go_wp2_with (refine dU (.tmp 8) (.tmp 93) dV V9 rfl fH rfl lT (λw9 dS jg=>?_))
  have wO:=dX.keptBy sQ.O.own jg fH;have eF:=Below.gV Oi jg;clear b0 b1 b2 b3 b4 b5 b6;go_wp2_with fail;exact jl results67 dS rfl rfl (F7 dw.O (wO.from_ hle) eF)
 ·have hne:(aO p s !=0)=true:=by simpa using hc
  have dw:=ah (ZA (k:=k) (n:=n) hc);clear hc;have fH:=hR.O _ h1;go_wp2_with (refine dU (.tmp 8) (.tmp 18) dV dV rfl fH rfl rfl (λw9 dS jg=>?_))
  have eF:=Below.gV hB1 jg;go_wp2_with fail;exact jl results67 dS rfl rfl (jJ dw.O eF)
end
section
attribute [local go_sem] aV jF iY jI
theorem dX.onCells{w:World}{aT:Nat}{V:SV}{s:aI}(h:dX w aT V s){b g:Nat}(hb:b<s.on.length)(hg:g<(fO s.on b).length){Jw n c:Nat}(hv:V.on=.slice (some Jw) n c):
  ∃gr cr,Jw<w.heap.size/\gr<w.heap.size/\w.cell? ⟨Jw,b,none⟩=some (.slice (some ⟨gr,0,none⟩) (fO s.on b).length cr)/\w.cell? ⟨gr,g,none⟩=some (.int .i64 (cell s.on b g)):=by
 obtain⟨go,co,RS,gr,cr,cur,e0,_,h0,r0,_,_,h1,rc⟩:=h.QZ hb hg;rw[hv]at e0
 injection e0 with e0
 injection e0 with e0
 injection e0 with e0
 subst e0;exact⟨gr,cr,h0.lt,h1.lt,r0,rc⟩
theorem xA.on{p:dG}{s t:aI}(h:xA p s t):t.on=s.on:=by rw[h.rest]
theorem jhU{x z N:Int}(h: -N<=x/\x<=N): -N<=x.tdiv z/\x.tdiv z<=N:=by
 have h1:(x.tdiv z).natAbs<=x.natAbs:=by rw[Int.natAbs_tdiv];exact Nat.div_le_self _ _
 omega
theorem ZU{p:dG}{t:aI}{b g:Nat}(hs:pz p t)(hb:b<p.dP.length):wrap64 ((free p t b).tdiv (aZ p.aW g))=(free p t b).tdiv (aZ p.aW g):=by
 have h1:=Tm hs (b:=b) ⟨by omega,by omega⟩ (ay p.aW.length)
 rw[XV]at h1
 have h2:=jhU (x:=free p t b) (z:=aZ p.aW g) (N:=60000) (by omega)
 exact IntWalk.wrap64_in _ (by omega)
theorem jdp(p:dG)(t:aI)(b g f:Nat):(if(free p t b).tdiv (aZ p.aW g)<if lW t f g<(p.bin b).high - cell t.on b g - iC t b g then lW t f g else(p.bin b).high - cell t.on b g - iC t b g then(free p t b).tdiv (aZ p.aW g)
  else if lW t f g<(p.bin b).high - cell t.on b g - iC t b g then lW t f g else(p.bin b).high - cell t.on b g - iC t b g)=IQ p t b g f:=by
 unfold IQ;generalize (free p t b).tdiv (aZ p.aW g)=x;generalize lW t f g=y;generalize (p.bin b).high - cell t.on b g - iC t b g=z;rw[Int.min_def,Int.min_def];split<;>split<;>split<;>(try split)<;>omega
theorem jli(w:World)(v vs:Value)(p:dG)(s:aI)(hp:kK w w v p)(hv:kG w w vs s):
  Calls prog 77 #[v,vs] w (nN (fill p s) w):=by
 obtain⟨Ab,cb,As,cs,rfl,hP',hBn,hSz,hlb,hls⟩:=o9 hp;obtain⟨A0,c0,A1,c1,A2,c2,A3,c3,A4,c4,A5,c5,A6,c6,rfl,hV,hN,hO,hH,hM,hI,hU,hX,hl0,hl1,hl2,hl3,hl4,hl5,Jb⟩:=lY hv;go_enter func77,ntmps77
 go_wp2_with fail;obtain⟨W0,hW0,hb0,kX,um,hsE,hK,hR⟩:=yS w p s Ab cb As cs A0 c0 A1 c1 A2 c2 A3 c3 A4 c4 A5 c5 A6 c6;rw[hW0];clear hW0;obtain⟨⟨y0,y1⟩,x0,x1,x2,x3,x4,x5,x6,fB,fC⟩:=hK.O W0 (aj W0 W0);go_wp2_with fail;clear y0 y1 x0 x1 x2 x3 x4 x5 x6 fB fC;refine(BD _ _ _ p s (hP'.O _ hb0) (hV.O _ hb0)).mono ?_
 rintro e W1 ⟨rfl,h1⟩;have hB1:=fD hb0 h1;obtain⟨⟨y0,y1⟩,x0,x1,x2,x3,x4,x5,x6,fB,fC⟩:=hK.O W1 (h1);by_cases hc:aO p s=0
 ·have hc':=ah hc;have hsn:=ah (gB.1 hc).1;have dw:=ah (jgo hc);rw[hc];clear hc;have hcnt:=hsn.O.counts;go_wp2_with fail;clear y0 y1 x0 x1 x2 x3 x4 x5 x6 fB fC;refine(FM _ _ p s (hV.O _ hB1) hsn.O).mono ?_
  rintro e W5 ⟨_,rfl,⟨V5,rfl,DC⟩,h5⟩;obtain⟨Jw,con,_,_,_,_,RJ,_⟩:=DC.QZ (b:=0) (g:=0) (by rw[hsn.O.sO];omega) (by rw[hsn.O.rowLen (by omega)];omega)
  obtain⟨k0,k1,k2,k3,k4,k5,k6,k7,k8⟩:=V5;obtain rfl:k0=.slice (some Jw) s.on.length con:=RJ;have rU:=(DC).one;have zV:=Dj (W5);go_wp2_with (refine dU (.tmp 7) (.tmp 20) dV (⟨.slice (some Jw) s.on.length con,k1,k2,k3,k4,k5,k6,k7,k8⟩:SV) rfl zV rfl rU (λw6 nK Jv=>?_);refine bD ?_)
  unfold Hid;have vG:=xg Jv;have x9:=nK.lt;clear rU zV Jv;have hx6:=ah (Bx.of nK (DC.below vG));have h06:=h1.trans ((fD h5 vG).mono h1.size);have hle:w.heap.size<=W1.heap.size:=hB1.size;have hle0:W0.heap.size<=W1.heap.size:=h1.size;have Bl:W1.heap.size<=W5.heap.size:=h5.size;clear nK DC vG h5 x9 h1 hB1;generalize W1.heap.size=aT at hx6 hle hle0 Bl
  generalize W5.heap.size=bx at hx6 Bl ⊢
  go_wp2_with fail;go_loopw[8,9,10,11] (λb' _ _ _ wr=>∃(b:Nat) (u:Value),b<=p.dP.length/\b'=.int .i64 b/\Bx wr aT bx 40 [] ⟨.slice (some ⟨Jw,0,none⟩) s.on.length con,k1,k2,u,k4,k5,k6,k7,k8⟩ (fb p s b)/\Below W0.heap.size W0 wr) (λb' _ _ _ _=>p.dP.length - (RowKit.intOf b').toNat)
  case atStart=>exact⟨0,k3,aN _,rfl,hx6.O,h06⟩
  case round=>
   clear hx6 h06;obtain⟨b,u,hb,rfl,hx,h0⟩:=hrel;have hx':=ah hx;clear hx;have hB0:=fD hb0 h0;obtain⟨⟨y0,y1⟩,x0,x1,x2,x3,x4,x5,x6,fB,fC⟩:=hK.O wr (h0);by_cases hb1:b<p.dP.length
   ·have hbi:(b:Int)<(p.dP.length:Int):=by omega
    go_wp2_with fail;clear y0 y1 x0 x1 x2 x3 x4 x5 x6 fB fC;have h0':=h0;clear h0 hB0;go_loopw[9,10,11] (λg' _ _ wr=>∃(g:Nat) (u:Value),g<=p.aW.length/\((p.bin b).front=false->g=0)/\g'=.int .i64 g/\Bx wr aT bx 40 [] ⟨.slice (some ⟨Jw,0,none⟩) s.on.length con,k1,k2,u,k4,k5,k6,k7,k8⟩ (fg p s b g)/\Below W0.heap.size W0 wr) (λg' _ _ _=>p.aW.length - (RowKit.intOf g').toNat)
    case atStart=>exact⟨0,u,aN _,λ_=>rfl,rfl,hx'.O,h0'⟩
    case round=>
     clear hx' h0' u;obtain⟨g,u,hg,hfg,rfl,hx,h0⟩:=hrel;have hx':=ah hx;clear hx;have hB0:=fD hb0 h0;obtain⟨⟨y0,y1⟩,x0,x1,x2,x3,x4,x5,x6,fB,fC⟩:=hK.O wr (h0);obtain⟨ob,lb,e0,e1,e2,e3⟩:=(hBn.O wr hB0).at_.bin hb1;change wr.cell? _=some (.bool (p.bin b).front)at e0
     change wr.cell? _=some (.int .i64 (p.bin b).low)at e2
     change wr.cell? _=some (.int .i64 (p.bin b).high)at e3
     by_cases hg1:g<p.aW.length
     ·have hgi:(g:Int)<(p.aW.length:Int):=by omega
      cases hfr:(p.bin b).front
      ·rw[hfr]at e0
       have hz:=hfg hfr;have hx2:=ah (show Bx wr aT bx 40 [] ⟨.slice (some Jw) s.on.length con,k1,k2,u,k4,k5,k6,k7,k8⟩ (fb p s (b+1))by rw[jnD hfr];rw[hz]at hx';exact hx'.O)
       clear hz hfr hfg;go_wp2_with fail;clear y0 y1 x0 x1 x2 x3 x4 x5 x6 fB fC;clear e0 e1 e2 e3;go_roundw
       case rel=>exact⟨b+1,u,by omega,by go_num,hx2.O,h0⟩
       case measure=>simp[dY];omega
      ·rw[hfr]at e0
       have hFl:=ah (Us hc'.O hb1 hfr g hg);have juP:=ah hfr;have hTs:=ah hFl.O.right.sane;have hon:=ah hFl.O.on;obtain⟨T,hT⟩:∃T,fg p s b g=T:=⟨_,rfl⟩;have hT':=ah hT;rw[hT]at hx' hFl hTs hon
       clear hT hfr hfg;have N9:b<T.on.length:=by rw[hTs.O.sO];exact hb1
       have hgr:g<(fO T.on b).length:=by rw[hTs.O.rowLen hb1];exact hg1
       have jse:(b:Int)<(s.on.length:Int):=by rw[hon.O]at N9;omega
       have jl0:(g:Int)<((fO T.on b).length:Int):=by omega
       obtain⟨gr,cr,lon,lgr,r0,rc⟩:=hx'.O.own.onCells N9 hgr rfl;have lbx:=hx'.O.lt;have q1:=λo d os=>cZ (w:=wr) (b:=bx) lbx o d os
       have q2:=λo d os=>cZ (w:=wr) (b:=Jw) lon o d os
       have q3:=λo d os=>cZ (w:=wr) (b:=gr) lgr o d os
       have q4:=λo d os=>cZ (w:=wr) (b:=w.heap.size) fC o d os
       have q5:=λo d os=>cZ (w:=wr) (b:=iH Ab) lb o d os
       have hV2:=ah (λd os=>(hx'.O.own.view hTs.O).up (kH wr d os) (kH wr d os).size)
       obtain⟨c0,c1,c2,c3,c4,c5,c6⟩:=hx'.O.cells;simp only at c0 c1 c2 c3 c4 c5 c6
       have v1:=hTs.O.cell hb1 hg1;have v2:=yh hTs.O b g;have hw1:IntKind.i64.wrap (cell T.on b g+iC T b g)=cell T.on b g+iC T b g:=aP _ (by omega)
       by_cases hl:cell T.on b g+iC T b g<(p.bin b).low
       ·have hld:decide ((p.bin b).low<=cell T.on b g+iC T b g)=false:=iE (by omega)
        go_wp2_with fail;refine dO (by kernel_rfl) (by kernel_rfl) ?_
        repeat(go_big_quiet_step ((go_at_call 117;refine fV (Nl _ _ p T b g (hV2.O _ _) hTs.O))))
        refine wpQuiet_nil ?_
        intro W2 hw';have hb2:=dN hw';clear hw';have h02:=fD h0 hb2;have hx2:=ah (hx'.O.below hb2);have hlk:=ah hl;clear q1 q2 q3 q4 q5 hV2 c0 c1 c2 c3 c4 c5 c6 r0 rc hw1 hld e0 e1 e2 e3 ob lb hl lon lgr lbx hb2;clear y0 y1 x0 x1 x2 x3 x4 x5 x6 fB fC;clear h0 hB0 hx';go_wp2_with fail;go_loopw[10,11] (λf' _ wr=>∃(f:Nat) (u:Value),f<=p.dP.length/\f'=.int .i64 f/\Bx wr aT bx 40 [] ⟨.slice (some ⟨Jw,0,none⟩) s.on.length con,k1,k2,u,k4,k5,k6,k7,k8⟩ (ff p s b g f)/\Below W0.heap.size W0 wr) (λf' _ _=>p.dP.length - (RowKit.intOf f').toNat)
        case atStart=>exact⟨0,u,aN _,rfl,by rw[jml,hT'.O];exact hx2.O,h02⟩
        case round=>
         clear hx2 h02;obtain⟨f,u,hf,rfl,hx,h0⟩:=hrel;have hx':=ah hx;clear hx;have hB0:=fD hb0 h0;obtain⟨⟨y0,y1⟩,x0,x1,x2,x3,x4,x5,x6,fB,fC⟩:=hK.O wr (h0);by_cases hf1:f<p.dP.length
         ·have hfi:(f:Int)<(p.dP.length:Int):=by omega
          obtain⟨ob,lb,e0,_,_,_⟩:=(hBn.O wr hB0).at_.bin hf1;change wr.cell? _=some (.bool (p.bin f).front)at e0
          cases Yq:(p.bin f).front
          ·rw[Yq]at e0
           have jfg:=ah (ZX hc'.O hb1 juP.O hg1 f hf);have KH:=ah jfg.O.right.sane;have jlP:=ah jfg.O.on;have hnx:=ah (ZY (s:=s) (b:=b) (g:=g) Yq);obtain⟨U,hU⟩:∃U,ff p s b g f=U:=⟨_,rfl⟩;rw[hU]at hx' jfg KH jlP hnx
           clear hU Yq;obtain⟨Am,cm,hum⟩:=hx'.O.own.aF.isSlice;obtain rfl:u=.slice Am U.aF.length cm:=hum;obtain⟨c0,c1,c2,c3,c4,c5,c6⟩:=hx'.O.cells;simp only at c0 c1 c2 c3 c4 c5 c6
           have hm8:=KH.O.uf;by_cases h8:8<=U.aF.length
           ·have h8i:(8:Int)<=(U.aF.length:Int):=by omega
            have hx3:=ah (show Bx wr aT bx 40 [] ⟨.slice (some Jw) s.on.length con,k1,k2,.slice Am U.aF.length cm,k4,k5,k6,k7,k8⟩ (ff p s b g (f+1))by rw[hnx.O,RI h8];exact hx'.O)
            go_wp2_with fail;clear y0 y1 x0 x1 x2 x3 x4 x5 x6 fB fC;clear c0 c1 c2 c3 c4 c5 c6 e0;go_roundw
            case rel=>exact⟨f+1,_,by omega,by go_num,hx3.O,h0⟩
            case measure=>simp[dY];omega
           ·have h8i:¬(8:Int)<=(U.aF.length:Int):=by omega
            go_wp2_with fail;clear e0 ob lb;obtain⟨ob,lb,_,_,_,e3⟩:=(hBn.O wr hB0).at_.bin hb1;change wr.cell? _=some (.int .i64 (p.bin b).high)at e3
            obtain⟨os,ls,rs⟩:=(hSz.O wr hB0).at_.int hg1;have N9:b<U.on.length:=by rw[KH.O.sO];exact hb1
            have hgr:g<(fO U.on b).length:=by rw[KH.O.rowLen hb1];exact hg1
            have jse:(b:Int)<(s.on.length:Int):=by rw[jlP.O]at N9;omega
            have jl0:(g:Int)<((fO U.on b).length:Int):=by omega
            obtain⟨gr,cr,lon,lgr,r0,rc⟩:=hx'.O.own.onCells N9 hgr rfl;have lbx:=hx'.O.lt;have q1:=λo d os=>cZ (w:=wr) (b:=bx) lbx o d os
            have q2:=λo d os=>cZ (w:=wr) (b:=Jw) lon o d os
            have q3:=λo d os=>cZ (w:=wr) (b:=gr) lgr o d os
            have q4:=λo d os=>cZ (w:=wr) (b:=w.heap.size) fC o d os
            have q5:=λo d os=>cZ (w:=wr) (b:=iH Ab) lb o d os
            have q6:=λo d os=>cZ (w:=wr) (b:=iH As) ls o d os
            have hV2:=ah (λd os=>(hx'.O.own.view KH.O).up (kH wr d os) (kH wr d os).size)
            have hP2:=ah (λd os=>hP'.O _ (hB0.trans ((kH wr d os).mono hB0.size)))
            have v1:=KH.O.cell hb1 hg1;have v2:=yh KH.O b g;have v3:0<=(p.bin b).high/\(p.bin b).high<=200:=(JC hsn.O.plan hb1).2.2;have v4:=Ac hsn.O.plan hg1;have hw1:IntKind.i64.wrap ((p.bin b).high - cell U.on b g)=(p.bin b).high - cell U.on b g:=aP _ (by omega)
            have hw2:IntKind.i64.wrap ((p.bin b).high - cell U.on b g - iC U b g)=(p.bin b).high - cell U.on b g - iC U b g:=aP _ (by omega)
            have hz:(aZ p.aW g==0)=false:=kL.2 (by omega)
            have hbb:0<=(b:Int)/\(b:Int)<p.dP.length:=by omega
            have hgg:0<=(g:Int)/\(g:Int)<p.aW.length:=by omega
            have joR:0<=(f:Int)/\(f:Int)<p.dP.length:=by omega
            clear c3 hm8;have c3:=hx'.O.cells.2.2.2.1;simp only at c3
            refine dO (by kernel_rfl) (by kernel_rfl) ?_
            repeat(go_big_quiet_step (first|(go_at_call 117;refine fV (Nl _ _ p U b g (hV2.O _ _) KH.O))|(go_at_call 122;refine fV (jcd _ _ p U f g (hV2.O _ _) KH.O joR hgg))|(go_at_call 116;refine fV (jay _ _ _ p U b (hP2.O _ _) (hV2.O _ _) KH.O hbb))))
            refine wpQuiet_nil ?_
            intro W3 hw';have hb3:=dN hw';clear hw';rw[ZU KH.O hb1,jdp];have h03:=fD h0 hb3;have hx3:=ah (hx'.O.below hb3);clear q1 q2 q3 q4 q5 q6 hV2 hP2 c0 c1 c2 c3 c4 c5 c6 r0 rc hw1 hw2 e3 ob lb os ls rs lon lgr lbx hz hb3 N9 jse jl0 v1 v2 v3 v4;clear y0 y1 x0 x1 x2 x3 x4 x5 x6 fB fC;clear h0 hB0 hx';by_cases wU:0<IQ p U b g f
            ·have hsm:=ah (show ff p s b g (f+1)=zY U ⟨g,f,b,IQ p U b g f⟩by rw[hnx.O,XZ h8 wU])
             obtain⟨N,hN⟩:∃N,IQ p U b g f=N:=⟨_,rfl⟩;rw[hN]at hsm wU
             rw[hN];clear hN;have hmo:=ah hx3.O.own.aF;have c3:W3.cell? ⟨bx,3,none⟩=some (.slice Am U.aF.length cm):=hx3.O.cells.2.2.2.1;have lbx:=hx3.O.lt;have juW:aT<=W3.heap.size:=by omega
             go_wp2_with (refine jV _ rfl (.tmp 120) (.tmp 126) 38 118 rfl aT _ 4 32 underlying38 Me rfl (by decide) (by decide) _ U.aF ⟨g,f,b,N⟩ rfl (hmo.O.alloc _) W3 1 rfl rfl (Dc _ _ _) (P6 _) (by omega) (by simp;omega) ?_;refine bD ?_)
             unfold Hid;intro v' w9 C9 jg _ AA;obtain⟨A9,c9,Oe⟩:=C9.isSlice;rw[aX,pX]at Oe
             subst Oe;have hxa:=hx3.O.below ((aj _ W3).alloc (ay _) (.cells #[g,f,b,N] 118));have wO:=hxa.own.JI jg C9;have J9:some bx≠(Value.slice Am U.aF.length cm).ownBlock:=λhe=>by
              rcases hxa.own.aF.qy hxa.vw.blk (by decide)with h|h
              ·simp only at h;rw[h]at he;cases he
              ·exact h he.symm
             have jbb:=ah (hxa.vw.grown jg J9);have YT:=ah wO;have h09:=(h03.alloc h03.size (.cells #[g,f,b,N] 118)).trans (AA.mono hle0);clear c3 hxa wO J9 jg C9 hmo hx3 AA h03;go_wp2_with (refine MX rfl (.tmp 128) (.tmp 127) rfl rfl A9 (U.aF.length+1) c9 (V:=⟨.slice (some Jw) s.on.length con,k1,k2,.slice Am U.aF.length cm,k4,k5,k6,k7,k8⟩) (V':=⟨.slice (some Jw) s.on.length con,k1,k2,.slice A9 (U.aF.length+1) c9,k4,k5,k6,k7,k8⟩) (s':={U with aF:=U.aF++[⟨g,f,b,N⟩]}) (cs:=[]) (b:=bx) (by rw[jd];exact jbb.O.blk) YT.O Yi rfl rfl rfl (λw10 AX Ai=>?_);refine bD ?_)
             unfold Hid;have h010:=h09.trans (Ai.below (B:=W0.heap.size) (λq hq=>by omega) h09.size)
             have sQ:=ah (show Bx w10 aT bx 40 [] ⟨.slice (some Jw) s.on.length con,k1,k2,.slice A9 (U.aF.length+1) c9,k4,k5,k6,k7,k8⟩ (ff p s b g (f+1))by rw[hsm.O];exact AX)
             clear AX Ai h09 jbb YT;go_wp2_with fail;go_roundw
             case rel=>exact⟨f+1,_,by omega,by go_num,sQ.O,h010⟩
             case measure=>simp[dY];omega
            ·have hx4:=ah (show Bx W3 aT bx 40 [] ⟨.slice (some Jw) s.on.length con,k1,k2,.slice Am U.aF.length cm,k4,k5,k6,k7,k8⟩ (ff p s b g (f+1))by rw[hnx.O,X0 h8 wU];exact hx3.O)
             clear hx3;go_wp2_with fail;go_roundw
             case rel=>exact⟨f+1,_,by omega,by go_num,hx4.O,h03⟩
             case measure=>simp[dY];omega
          ·rw[Yq]at e0
           have hx3:=ah (show Bx wr aT bx 40 [] ⟨.slice (some Jw) s.on.length con,k1,k2,u,k4,k5,k6,k7,k8⟩ (ff p s b g (f+1))by rw[jdq Yq];exact hx'.O)
           clear Yq;go_wp2_with fail;clear y0 y1 x0 x1 x2 x3 x4 x5 x6 fB fC;clear e0;go_roundw
           case rel=>exact⟨f+1,u,by omega,by go_num,hx3.O,h0⟩
           case measure=>simp[dY];omega
         ·obtain rfl:f=p.dP.length:=by omega
          have hx3:=ah (show Bx wr aT bx 40 [] ⟨.slice (some Jw) s.on.length con,k1,k2,u,k4,k5,k6,k7,k8⟩ (fg p s b (g+1))by rw[jkn (by rw[hT'.O];exact hlk.O)];exact hx'.O)
          go_wp2_with fail;clear y0 y1 x0 x1 x2 x3 x4 x5 x6 fB fC;go_roundw
          case rel=>exact⟨g+1,u,by omega,(λhh=>absurd hh (by decide)),by go_num,hx3.O,h0⟩
          case measure=>simp[dY];omega
       ·have hld:decide ((p.bin b).low<=cell T.on b g+iC T b g)=true:=oD (by omega)
        have hno:=ah (show fg p s b (g+1)=T by rw[<- hT'.O];exact jpu (by rw[hT'.O];exact hl))
        clear hl;go_wp2_with fail;refine dO (by kernel_rfl) (by kernel_rfl) ?_
        repeat(go_big_quiet_step ((go_at_call 117;refine fV (Nl _ _ p T b g (hV2.O _ _) hTs.O))))
        refine wpQuiet_nil ?_
        intro W2 hw';have hb2:=dN hw';clear hw';have h02:=fD h0 hb2;have hx2:=ah (show Bx W2 aT bx 40 [] ⟨.slice (some Jw) s.on.length con,k1,k2,u,k4,k5,k6,k7,k8⟩ (fg p s b (g+1))by rw[hno.O];exact hx'.O.below hb2)
        clear q1 q2 q3 q4 q5 hV2 c0 c1 c2 c3 c4 c5 c6 r0 rc hw1 hld e0 e1 e2 e3 ob lb;clear y0 y1 x0 x1 x2 x3 x4 x5 x6 fB fC;go_wp2_with fail;go_roundw
        case rel=>exact⟨g+1,u,by omega,(λhh=>absurd hh (by decide)),by go_num,hx2.O,h02⟩
        case measure=>simp[dY];omega
     ·obtain rfl:g=p.aW.length:=by omega
      have hfr:(p.bin b).front=true:=by
       cases hh:(p.bin b).front
       ·have:=hfg hh;omega
       ·rfl
      have hx2:=ah (show Bx wr aT bx 40 [] ⟨.slice (some Jw) s.on.length con,k1,k2,u,k4,k5,k6,k7,k8⟩ (fb p s (b+1))by rw[jko hfr];exact hx'.O)
      clear hfr hfg;go_wp2_with fail;clear y0 y1 x0 x1 x2 x3 x4 x5 x6 fB fC;clear e0 e1 e2 e3;go_roundw
      case rel=>exact⟨b+1,u,by omega,by go_num,hx2.O,h0⟩
      case measure=>simp[dY];omega
   ·obtain rfl:b=p.dP.length:=by omega
    have hx2:=ah (show Bx wr aT bx 40 [] ⟨.slice (some Jw) s.on.length con,k1,k2,u,k4,k5,k6,k7,k8⟩ (Ph p s)by rw[<- jpv];exact hx'.O)
    clear hx';have fH:=hR.O _ h0;obtain⟨b0,b1,b2,b3,b4,b5,b6⟩:=jB.cells hx2.O.vw;have lT:=dX.one hx2.O.own;go_wp2_with (refine dU (.tmp 4) (.tmp 129) dV (⟨.slice (some Jw) s.on.length con,k1,k2,u,k4,k5,k6,k7,k8⟩:SV) rfl fH rfl lT (λw9 dS jg=>?_))
    have wO:=dX.keptBy hx2.O.own jg fH;have eF:=Below.gV hB0 jg;clear b0 b1 b2 b3 b4 b5 b6;go_wp2_with fail;exact jl results77 dS rfl rfl (F7 dw.O (wO.from_ hle) eF)
 ·have hne:(aO p s !=0)=true:=by simpa using hc
  have dw:=ah (jdo hc);clear hc;have fH:=hR.O _ h1;go_wp2_with (refine dU (.tmp 4) (.tmp 17) dV dV rfl fH rfl rfl (λw9 dS jg=>?_))
  have eF:=Below.gV hB1 jg;go_wp2_with fail;exact jl results77 dS rfl rfl (jJ dw.O eF)
end
end Wh
