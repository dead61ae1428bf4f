/- Texts of the claim, joined. -/
import Derived.Deep.LoopGhost
import Derived.Test.YtniaecolikhmeaaGreatDoorQ32
set_option maxHeartbeats 20000000
set_option maxRecDepth 100000
set_option linter.all false
namespace Wh
open Go Go.RowKit Go.Shelf Go.Proofs Tryz
section
attribute [local go_sem] aV jF iY jI
def ctT(W:World)(aT bx:Nat)(V:SV)(s s1:aI)(kb:Nat)(cells:List Value)(ph:Nat)(w:World):Prop:=WI W aT bx V s s1 ph w/\iJ w kb 161 cells
theorem jhx{W w1 w2:World}{aT bx ph kb:Nat}{V:SV}{s s1:aI}{cells:List Value}(h:ctT W aT bx V s s1 kb cells ph w1)(hb:Below w1 w1 w2):ctT W aT bx V s s1 kb cells ph w2:=
 ⟨WH h.1 hb,h.2.below hb h.2.lt⟩
theorem jiu(w:World)(v vs:Value)(p:dG)(s:aI)(b g n:Int)(hp:kK w w v p)(hv:kG w w vs s):
  Calls prog 79 #[v,vs,b,g,n] w (nN (count p s b g n) w):=by
 obtain⟨Ab,cb,As,cs,rfl,hP',hBn,hSz,hlb,hls⟩:=o9 hp;obtain⟨A0,c0,A1,c1,A2,c2,A3,c3,A4,c4,A5,c5,A6,c6,rfl,hV,hN,hO,hH,hM,hI,hU,hX,hl0,hl1,hl2,hl3,hl4,hl5,Jb⟩:=lY hv;go_enter func79,ntmps79
 go_wp2_with fail;obtain⟨W0,hW0,hb0,kX,um,hsE,hK,hR⟩:=yS w p s Ab cb As cs A0 c0 A1 c1 A2 c2 A3 c3 A4 c4 A5 c5 A6 c6;rw[hW0];clear hW0;obtain⟨⟨y0,y1⟩,x0,x1,x2,x3,x4,x5,x6,fB,fC⟩:=hK.O W0 (aj W0 W0);go_wp2_with fail;clear y0 y1 x0 x1 x2 x3 x4 x5 x6 fB fC;refine(BD _ _ _ p s (hP'.O _ hb0) (hV.O _ hb0)).mono ?_
 rintro e W1 ⟨rfl,h1⟩;have hB1:=fD hb0 h1;obtain⟨⟨y0,y1⟩,x0,x1,x2,x3,x4,x5,x6,fB,fC⟩:=hK.O W1 (h1);by_cases hc:aO p s=0
 ·have hc':=ah hc;have hsn:=ah (gB.1 hc).1;rw[hc];clear hc;go_wp2_with fail;clear y0 y1 x0 x1 x2 x3 x4 x5 x6 fB fC;have hcnt:=hsn.O.counts;refine(DX _ _ p b (hP'.O _ hB1) (by omega)).mono ?_
  rintro e W2 ⟨rfl,h2⟩;have h02:=fD h1 h2;have hB2:=fD hb0 h02;obtain⟨⟨y0,y1⟩,x0,x1,x2,x3,x4,x5,x6,fB,fC⟩:=hK.O W2 (h02);cases hth:lK p b
  ·have dw:=ah (FZ (g:=g) (n:=n) hc'.O (by rw[hth];rfl))
   clear hth;have fH:=hR.O _ h02;go_wp2_with (refine dU (.tmp 10) (.tmp 41) dV dV rfl fH rfl rfl (λw9 dS jg=>?_))
   have eF:=Below.gV hB2 jg;go_wp2_with fail;exact jl results79 dS rfl rfl (jJ dw.O eF)
  have jg5:=ah hth;clear hth;go_wp2_with fail;clear y0 y1 x0 x1 x2 x3 x4 x5 x6 fB fC;refine(Fe _ _ p g (hP'.O _ hB2) (by omega)).mono ?_
  rintro e W8 ⟨rfl,h8⟩;have BG:=fD h02 h8;have NJ:=fD hb0 BG;obtain⟨⟨y0,y1⟩,x0,x1,x2,x3,x4,x5,x6,fB,fC⟩:=hK.O W8 (BG);cases hth:iO p g
  ·have dw:=ah (FZ (n:=n) hc'.O (by rw[jg5.O,hth];rfl))
   clear hth;have fH:=hR.O _ BG;go_wp2_with (refine dU (.tmp 10) (.tmp 41) dV dV rfl fH rfl rfl (λw9 dS jg=>?_))
   have eF:=Below.gV NJ jg;go_wp2_with fail;exact jl results79 dS rfl rfl (jJ dw.O eF)
  have jru:=ah hth;clear hth;go_wp2_with fail;clear y0 y1 x0 x1 x2 x3 x4 x5 x6 fB fC;refine(oz n 0 200 _).mono ?_
  rintro e w' ⟨rfl,rfl⟩;obtain⟨⟨y0,y1⟩,x0,x1,x2,x3,x4,x5,x6,fB,fC⟩:=hK.O W8 (BG);cases hwn:dM n 0 200
  ·have dw:=ah (FZ (b:=b) (g:=g) (n:=n) hc'.O (by rw[hwn,Dh]))
   clear hwn;have fH:=hR.O _ BG;go_wp2_with (refine dU (.tmp 10) (.tmp 41) dV dV rfl fH rfl rfl (λw9 dS jg=>?_))
   have eF:=Below.gV NJ jg;go_wp2_with fail;exact jl results79 dS rfl rfl (jJ dw.O eF)
  obtain⟨hn1,hn2⟩:=dZ.1 hwn;clear hwn;obtain⟨i,rfl,hi⟩:=jbs jg5.O;obtain⟨j,rfl,hj⟩:=XO jru.O;clear jg5 jru;have hil:i<s.on.length:=by rw[hsn.O.sO];exact hi
  have hjl:j<(fO s.on i).length:=by rw[hsn.O.rowLen hi];exact hj
  have hfl:j<s.dB.length:=by rw[hsn.O.dB.1];exact hj
  have hii:(i:Int)<(s.on.length:Int):=by omega
  have hji:(j:Int)<((fO s.on i).length:Int):=by omega
  have hfi:(j:Int)<(s.dB.length:Int):=by omega
  have hcl:=hsn.O.cell hi hj;have hfx:=hsn.O.dB.2 hj;have hw1:IntKind.i64.wrap (aZ s.dB j+n)=aZ s.dB j+n:=aP _ (by omega)
  have hw2:IntKind.i64.wrap (aZ s.dB j+n - cell s.on i j)=aZ s.dB j+n - cell s.on i j:=aP _ (by omega)
  obtain⟨Ar,cr,or0,UN,Zp,wK⟩:=(hN.O W8 NJ).row hil;obtain⟨or1,lr1,RZ⟩:=wK.at_.int hjl;obtain⟨ox,lx,rx⟩:=(hX.O W8 NJ).at_.int (i:=j) hfl;change W8.cell? _=some (.int .i64 (cell s.on i j))at RZ
  change W8.cell? _=some (.int .i64 (aZ s.dB j))at rx
  have q1:=λo d os=>cZ (w:=W8) (b:=w.heap.size+1) fB o d os
  have q2:=λo d os=>cZ (w:=W8) (b:=iH A0) UN o d os
  have q3:=λo d os=>cZ (w:=W8) (b:=iH Ar) lr1 o d os
  have q4:=λo d os=>cZ (w:=W8) (b:=iH A6) lx o d os
  go_wp2_with fail;refine dO (by kernel_rfl) (by kernel_rfl) ?_
  repeat(go_big_quiet_step ((go_at_call 43;refine yR (oz _ _ _ _))))
  refine wpQuiet_nil ?_
  intro W9 hw';have AA:=dN hw';clear hw';clear q1 q2 q3 q4 Zp RZ rx;clear y0 y1 x0 x1 x2 x3 x4 x5 x6 fB fC;have h09:=fD BG AA;have Bj:=fD hb0 h09;obtain⟨⟨y0,y1⟩,x0,x1,x2,x3,x4,x5,x6,fB,fC⟩:=hK.O W9 (h09);cases hwf:dM (aZ s.dB j+n - cell s.on i j) (-1048576) 1048576
  ·have dw:=ah (RU (n:=n) hc'.O hi hj ⟨hn1,hn2⟩ (mY.1 hwf));clear hwf;have fH:=hR.O _ h09;go_wp2_with (refine dU (.tmp 10) (.tmp 60) dV dV rfl fH rfl rfl (λw9 dS jg=>?_))
   have eF:=Below.gV Bj jg;go_wp2_with fail;exact jl results79 dS rfl rfl (jJ dw.O eF)
  have hf:=ah (show Bh p s i j n from⟨hi,hj,hn1,hn2,(dZ.1 hwf).1,(dZ.1 hwf).2⟩)
  clear hwf;go_wp2_with fail;clear y0 y1 x0 x1 x2 x3 x4 x5 x6 fB fC;refine(FM _ _ p s (hV.O _ Bj) hsn.O).mono ?_
  rintro e W5 ⟨_,rfl,⟨V5,rfl,DC⟩,h5⟩;have rU:=(DC).one;have zV:=Dj (W5);go_wp2_with (refine dU (.tmp 13) (.tmp 62) dV V5 rfl zV rfl rU (λw6 nK Jv=>?_);refine bD ?_)
  unfold Hid;have vG:=xg Jv;have x9:=nK.lt;clear rU zV Jv;have hx6:=ah (Bx.of nK (DC.below vG));have h06:=h09.trans ((fD h5 vG).mono h09.size);have hle:w.heap.size<=W9.heap.size:=Bj.size;have hle0:W0.heap.size<=W9.heap.size:=h09.size;have Bl:W9.heap.size<=W5.heap.size:=h5.size;clear nK DC vG h5 x9 h1 hB1 h02 hB2 BG NJ h8 h2 h09 Bj AA;generalize W5.heap.size=bx at hx6 Bl ⊢
  generalize W9.heap.size=aT at hx6 hle hle0 Bl
  obtain⟨gf,cf,jvK,ef,joO,hbf,rf⟩:=dX.CU hx6.O.own.dB (g:=j) hfl;obtain⟨Jw,con,RS,gr,cr',cur,RJ,XB,OX,r0,er,XA,hbr,rc⟩:=hx6.O.own.QZ hil hjl;have c0:=hx6.O.cells.1;have c6:=hx6.O.cells.2.2.2.2.2.2;rw[ef]at c6
  rw[RJ]at c0
  have ef':=ah ef;clear ef RJ er;go_wp2_with fail;go_still_tail 20,(by kernel_rfl)
  change wpList _ _ _ _ _ w6.drew;refine UA rfl (.tmp 82) (.tmp 81) rfl rfl (g:=j) (q:=aZ s.dB j+n - cell s.on i j) hx6.O.drew hfl ef'.O rfl rfl (λw7 hx7 Dy=>?_)
  refine eP ?_
  have h07:=h06.drew.trans (Dy.below (B:=W0.heap.size) (λq hq=>by omega) h06.drew.size)
  have zT:=ah hx7;clear hx7 Dy c0 c6 rf hbf ef' joO XB OX r0 XA hbr rc hx6 h06;obtain⟨Jw,con,RS,gr,cr',cur,RJ,XB,OX,r0,er,XA,hbr,rc⟩:=zT.O.own.QZ (b:=i) (g:=j) hil hjl;have c0:=zT.O.cells.1;rw[RJ]at c0
  have er':=ah er;clear RJ er rc;go_wp2_with (refine Ir rfl (.tmp 90) (.tmp 89) rfl rfl (i:=i) (g:=j) (q:=n) zT.O hil hjl er'.O rfl rfl (λw8 MC BX=>?_);refine bD ?_)
  unfold Hid;have BG:=h07.trans (BX.below (B:=W0.heap.size) (λq hq=>by omega) h07.size)
  have wJ:=ah MC;clear MC BX c0 r0 OX XB XA hbr er' zT h07;go_wp2_with fail;have e0:xk s i j n 0={{s with dB:=s.dB.set j (aZ s.dB j+n - cell s.on i j)}with on:=setCell s.on i j n}:=by
   unfold xk;rw[Yb hsn.O,jft hsn.O,X9 hsn.O]
  have Gq:=wJ.O;rw[<- e0]at Gq
  clear e0;have jgj:=ah (iJ.new w8 161 #[zI,zI,zI,zI,zI,zI,zI,zI,zI,zI,zI,zI]);have ha9:Below w8 w8 (w8.alloc (.cells #[zI,zI,zI,zI,zI,zI,zI,zI,zI,zI,zI,zI] 161)):=(aj _ _).alloc (ay _) _;have hxa:=ah (Gq.below ha9);have Qu:=fD BG ha9;have juu:aT<=w8.heap.size:=by have:=Gq.box.lt;omega
  clear Gq wJ ha9 BG;generalize w8.heap.size=kb at jgj juu ⊢
  generalize w8.alloc (.cells #[zI,zI,zI,zI,zI,zI,zI,zI,zI,zI,zI,zI] 161)=w9 at jgj hxa Qu ⊢
  have hr:=ah (jm hc'.O);have hbd:=F6 hsn.O i j;have hov:0<=over s i j n/\over s i j n<=bound s i j:=by unfold over;omega
  have hx0:=jgj.O;rw[<- Y2 (b:=i) (g:=j) hsn.O]at hx0
  have Dz:=ah hx0;clear hx0 jgj;go_loopg[15,16] (over s i j n).toNat (λgk _ _ wr=>∃(t:Int) (V:SV),gk=(over s i j n - t).toNat/\0<=t/\t<=over s i j n/\Bx wr aT bx 40 [] V (xk s i j n t)/\iJ wr kb 161 (yQ s i j t)/\Below W0.heap.size W0 wr)
  case atStart=>exact⟨0,_,by rw[qx],iT _,hov.1,hxa.O,Dz.O,Qu⟩
  case round=>
   obtain⟨t,V,hgk,ht0,ht1,hx,hbk,h0r⟩:=hrel;have hxr:=ah hx;have jhh:=ah hbk;have jjD:=ah hgk;clear hx hbk hgk hxa Dz Qu;have hst:=ah (jkC hr.O hf.O t);have hBr:=fD hb0 h0r;obtain⟨p0,p1,p2,p3,p4,p5,p6⟩:=hxr.O.cells;have tbx:=hxr.O.lt;go_wp2_with fail;clear p0 p1 p2 p3 p4 p5 p6;refine(jaz _ _ p _ i j (hxr.O.own.view hst.O) hst.O).mono ?_
   rintro e W1 ⟨rfl,h1⟩;rw[jbn hr.O ht0 (by omega)]
   by_cases hlt:n<bound s i j - t
   ·have hlt':=oD hlt;have hx1:=ah (hxr.O.below h1);have hbk1:=ah (jhh.O.below h1 jhh.O.lt);have h01:=fD h0r h1;clear hxr jhh h1 hBr h0r tbx;obtain⟨p0,p1,p2,p3,p4,p5,p6⟩:=hx1.O.cells;have tbx:=hx1.O.lt;go_wp2_with fail;clear p0 p1 p2 p3 p4 p5 p6;refine(jgK _ _ p _ i j (hx1.O.own.view hst.O) hst.O).mono ?_
    rintro e W2 ⟨rfl,h2⟩;have hx2:=ah (hx1.O.below h2);have hbk2:=ah (hbk1.O.below h2 hbk1.O.lt);have h02:=fD h01 h2;clear hx1 hbk1 h2 h01 tbx hlt';generalize hsT:xk s i j n t=sT at hst hx2 ⊢
    have jeW:zl s i j t=sT.aF:=by rw[<- hsT];rfl
    have ja5:pW s i j t=sT.aA:=by rw[<- hsT];rfl
    have hsp:(Q9 sT.aF i j= -1/\∀q,q<sT.aF.length->¬((bZ sT.aF q).src=(i:Int)/\(bZ sT.aF q).dW=(j:Int)))\/∃k:Nat,k<sT.aF.length/\Q9 sT.aF i j=k/\((bZ sT.aF k).src=(i:Int)/\(bZ sT.aF k).dW=(j:Int))/\∀q,k<q->q<sT.aF.length->¬((bZ sT.aF q).src=(i:Int)/\(bZ sT.aF q).dW=(j:Int)):=QB sT.aF i j sT.aF.length;have hmeas:t<over s i j n:=by unfold over;omega
    have htb:t<bound s i j:=by omega
    clear hlt;rcases hsp with⟨he,hno⟩|⟨k,hk,he,hat,hlast⟩
    ·rw[he];clear he;have h0:∀x∈zl s i j t,¬(x.src=(i:Int)/\x.dW=(j:Int)):=λx hx=>by
      rw[jeW]at hx
      obtain⟨q,hq,rfl⟩:=bg hx;rw[<- pJ hq];exact hno q hq
     have hany:=jen hsn.O ht0 htb h0;rw[ja5]at hany
     have hkk:∀q,q<sT.aA.length->∃a c:Nat,(hold sT.aA q).aC=a/\(hold sT.aA q).aK=c/\a<s.ak.length/\c<(s.aC a).aH.length:=λq hq=>by
      have h1:=hst.O.yL hq;have h2:sT.ak.length=s.ak.length:=by rw[<- hsT,uS]
      have h3:(hold sT.aA q).aC.toNat<s.ak.length:=by omega
      have h4:(sT.aC (hold sT.aA q).aC.toNat).aH.length=(s.aC (hold sT.aA q).aC.toNat).aH.length:=by rw[<- hsT,rX _ (by rw[hsT];exact h3)]
      exact⟨(hold sT.aA q).aC.toNat,(hold sT.aA q).aK.toNat,by omega,by omega,h3,by omega⟩
     have jlY:∀q,q<sT.aA.length->(yM sT i j).is (hold sT.aA q)=(yM s i j).is (hold sT.aA q):=λq hq=>by
      obtain⟨a,c,h1,h2,h3,h4⟩:=hkk q hq;rw[<- hsT];refine ER (by rw[hsT,h1];exact h3) (by rw[hsT,h1,h2];exact h4)
     have hsp2:(Rf sT i j= -1/\∀q,q<sT.aA.length->(yM sT i j).is (hold sT.aA q)=false)\/∃k:Nat,k<sT.aA.length/\Rf sT i j=k/\(yM sT i j).is (hold sT.aA k)=true/\∀q,k<q->q<sT.aA.length->(yM sT i j).is (hold sT.aA q)=false:=QC sT i j sT.aA.length;rcases hsp2 with⟨_,hn⟩|⟨k,hk,he,hat,hlast⟩
     ·obtain⟨x,hx,hxi⟩:=kU.1 hany;obtain⟨q,hq,rfl⟩:=bg hx;rw[<- iZ hq,<- jlY q hq,hn q hq]at hxi
      cases hxi
     obtain⟨a,c,ha,hc2,hao,hcl⟩:=hkk k hk;have hph:=jep (jy:=n) hsn.O ht0 h0 (k:=k) (by rw[ja5];exact hk) (by rw[ja5,<- jlY k hk];exact hat) (λq hkq hq=>by rw[ja5]at hq ⊢;rw[<- jlY q hq];exact hlast q hkq hq) (by rw[ja5];exact ha) (by rw[ja5];exact hc2) hao hcl
     rw[ja5,hsT]at hph
     have hmr:=hst.O.yL hk;have yg:=I5 hst.O.aA hk;obtain⟨a0,c0,bi,m,hxh⟩:∃a0 c0 bi m,hold sT.aA k=⟨a0,c0,bi,m⟩:=⟨_,_,_,_,rfl⟩;obtain⟨gh,ch,curh,eh,juJ,hbh,z0,z1,z2,z3⟩:=hx2.O.own.yL hk;rw[hxh]at ha hc2 hph hmr yg z0 z1 z2 z3
     simp only at ha hc2 hph hmr yg z0 z1 z2 z3
     subst ha hc2;have haT:a<sT.ak.length:=by rw[<- hsT,uS];exact hao
     have hcT:c<(sT.aC a).aH.length:=by rw[<- hsT,rX a hao];exact hcl
     have ha4:a<4:=by have:=hsn.O.nX;omega
     have hc3:c<3:=by have:=(hsn.O.rE hao).2;omega
     have hm1:1<=m/\m<=200:=by omega
     have xK:=hst.O.aK haT hcT;have hbr:0<=(sT.aK a c).eU/\(sT.aK a c).eU<=200:=by omega
     have hcn:=Eo hsn.O i j t a c;have hkr:=wH hsn.O.aA a c;have hcn2:0<=rF s i j t a c/\rF s i j t a c<=1200:=by omega
     have jjk:=ah hph.1;have jjj:=ah hph.2;have he':=ah he;have eh':=ah eh;have lgh:=hbh.lt;have tbx:=hx2.O.lt;have hki:(k:Int)<(sT.aA.length:Int):=by omega
     have hwn:IntKind.i64.wrap (m - 1)=m - 1:=aP _ (by omega)
     have hwb:IntKind.i64.wrap ((sT.aK a c).eU+1)=(sT.aK a c).eU+1:=aP _ (by omega)
     have hwc:IntKind.i64.wrap (rF s i j t a c+1)=rF s i j t a c+1:=aP _ (by omega)
     clear hno h0 hany hkk jlY he hat hlast hph hmr xK hcn hkr eh jeW ja5 hsT;go_wp2_with fail;refine IX 9 [rV 132 (.pointer (some ⟨bx,2,none⟩)),rV 133 (.slice (some gh) sT.aA.length ch),rV 134 (.agg #[V.on,V.ak,V.aA,V.aF,V.jf,V.O,V.dB]),rV 135 (i),rV 136 (j),λgq w'=>(λv w'=>v=.int .i64 k) (gq 137) w',rV 138 (.pointer (some ⟨gh,k*4,none⟩)),rV 139 (.agg #[a,c,bi,m]),λgq w'=>(λv w'=>∃hh,v=.pointer (some ⟨hh,0,none⟩)/\W2.heap.size<=hh/\iJ w' hh 116 [zI,zI,zI,zI]) (gq 16) w'] ?_ (λf W3 hb3 hR=>?_)
     simp only[aG,aS];refine bT.v (λgq w' hb ho hd=>?_) ?_
     ·have e13:=ho 13 rfl;go_simp
     refine bT.v (λgq w' hb ho hd=>?_) ?_
     ·have jvD:_=_:=hd.d 0;have x2:=(hx2.O.below hb).cells.2.2.1;rw[eh'.O]at x2
      go_simp
     refine bT.v (λgq w' hb ho hd=>?_) ?_
     ·have e13:=ho 13 rfl;obtain⟨x0,x1,x2,x3,x4,x5,x6⟩:=(hx2.O.below hb).cells;go_simp
     refine bT.v (λgq w' hb ho hd=>?_) ?_
     ·have e2:=ho 2 rfl;go_simp
     refine bT.v (λgq w' hb ho hd=>?_) ?_
     ·have e3:=ho 3 rfl;go_simp
     refine bT.cons (sN.one (d:=137) (p:=(λv w'=>v=.int .i64 k)) rfl rfl (λv w1 w2 h hb=>h) (λgq w' hb ho hd=>?_)) ?_
     ·have jvB:_=_:=hd.d 2;have jvA:_=_:=hd.d 3;have e136:_=_:=hd.d 4;unfold iq;go_simp
      refine(jgL w' _ p sT i j ((hx2.O.below hb).own.view hst.O) hst.O).mono ?_
      rintro e w2 ⟨rfl,h⟩;exact⟨_,rfl,by rw[he'.O],h⟩
     refine bT.v (λgq w' hb ho hd=>?_) ?_
     ·have jvC:_=_:=hd.d 1;have e137:(gq 137)=k:=hd.d 5;go_simp
     refine bT.v (λgq w' hb ho hd=>?_) ?_
     ·have e138:_=_:=hd.d 6;have u0:=(hb.cell (p:=⟨gh,k*4,none⟩) lgh).trans z0;have u1:=(hb.cell (p:=⟨gh,k*4+1,none⟩) lgh).trans z1;have u2:=(hb.cell (p:=⟨gh,k*4+2,none⟩) lgh).trans z2;have u3:=(hb.cell (p:=⟨gh,k*4+3,none⟩) lgh).trans z3;go_simp
     refine bT.cons (sN.one (d:=16) (p:=(λv w'=>∃hh,v=.pointer (some ⟨hh,0,none⟩)/\W2.heap.size<=hh/\iJ w' hh 116 [zI,zI,zI,zI])) rfl rfl (λv w1 w2 h hb=>let ⟨hh,h1,h2,h3⟩:=h;⟨hh,h1,h2,h3.below hb h3.lt⟩) (λgq w' hb ho hd=>?_)) ?_
     ·unfold iq;go_simp
      exact⟨⟨hb.size,iJ.new _ _ _⟩,(aj _ _).alloc (ay _) _⟩
     exact bT.nil;obtain⟨jiE,jiD,jiC,jiB,jaB,jlr,jqE,jqD,r16,_⟩:=hR;replace jlr:(f 137)=k:=jlr;replace r16:∃hh,(f 16)=.pointer (some ⟨hh,0,none⟩)/\W2.heap.size<=hh/\iJ W3 hh 116 [zI,zI,zI,zI]:=r16;simp only[kP,qJ,aG,aS,bU,dH,bY,cO,dA,dL,aQ,bG,bH,jiE,jiD,jiC,jiB,jaB,jlr,jqE,jqD];clear jiE jiD jiC jiB jaB jlr jqE jqD;obtain⟨hh,r16,juE,hbl⟩:=r16;simp only[r16];clear r16;refine jP rfl 116 (.tmp 16) (.tmp 139) rfl hh #[a,c,bi,m] rfl rfl 116 _ hbl (by kernel_rfl) rfl (by simp[Value.oneCell']) ?_
     refine eP ?_
     have hb4:=tV hb3 juE #[a,c,bi,m];have KG:=ah (show iJ (W3.setRow hh #[a,c,bi,m]) hh 116 [a,c,bi,m]from iJ.row hbl [a,c,bi,m])
     generalize W3.setRow hh #[a,c,bi,m]=W4 at hb4 KG ⊢
     have hx4:=ah (hx2.O.below hb4);have jo2:=ah (hbk2.O.below hb4 hbk2.O.lt);have h04:=fD h02 hb4;clear hb3 hbl hb4 hbk2 hx2 z0 z1 z2 z3 hbh h02 lgh tbx;have tbx:=hx4.O.lt;have Ug:=qH hst.O.aA;have u0:=KG.O.cell (j:=0) rfl;have u1:=KG.O.cell (j:=1) rfl;have u2:=KG.O.cell (j:=2) rfl;have u3:=KG.O.cell (j:=3) rfl;have lhh:=KG.O.lt;have x2:=hx4.O.cells.2.2.1;rw[eh'.O]at x2
     have hsl:=hx4.O.own.aA.sl (by omega)
     rw[eh'.O]at hsl
     go_wp2_with fail;clear u0 u1 u2 u3 x2;refine(jin _ _ sT.aA a c bi (m - 1) hsl hst.O.aA yg).mono ?_
     rintro e W5 ⟨u,rfl,hu,h5⟩;obtain⟨A7,c7,rfl⟩:=hu.isSlice;have hx5:=ah (hx4.O.below h5);have hu5:=ah (hu.from_ (show aT<=W4.heap.size by omega))
     have jo1:=ah (jo2.O.below h5 jo2.O.lt);have joZ:=ah (KG.O.below h5 lhh);have h05:=fD h04 h5;clear hx4 hu jo2 KG h5 h04 hsl;go_wp2_with (refine Iu rfl (.tmp 152) (.tmp 151) rfl rfl A7 _ c7 _ hx5.O rfl rfl hu5.O (λw6 hx6 OO=>?_);refine bD ?_)
     unfold Hid;have jo0:=ah (OO.blk jo1.O (jo1.O.ne hx5.O.box (by decide)))
     have x9:=ah (OO.blk joZ.O (joZ.O.ne hx5.O.box (by decide)))
     have h06:=h05.trans (OO.below (B:=W0.heap.size) (λq hq=>by omega) h05.size)
     have Xq:=ah hx6;clear hx6 OO hx5 hu5 jo1 joZ h05;obtain⟨gl,cl,curl,el,hgl,jjV,f0,f1,f2,f3⟩:=Xq.O.own.fG (o:=a) (k:=c) haT hcT;obtain⟨go,co,jkD,eo,hgo,juX,d0,d1⟩:=Xq.O.own.bK (o:=a) haT;change _=Value.slice (some gl) (sT.aC a).aH.length cl at el
     have c1:=Xq.O.cells.2.1;rw[eo]at c1
     rw[el]at d1
     have el':=ah el;change w6.cell? _=some (.int .i64 (sT.aK a c).eU)at f3
     have u0:=x9.O.cell (j:=0) rfl;have u1:=x9.O.cell (j:=1) rfl;have u2:=x9.O.cell (j:=2) rfl;have u3:=x9.O.cell (j:=3) rfl;have lhh:=x9.O.lt;have tbx:=Xq.O.lt;have hai:(a:Int)<(sT.ak.length:Int):=by omega
     have hci:(c:Int)<((sT.aC a).aH.length:Int):=by omega
     clear f0 f1 f2 d0 el eo;go_wp2_with fail;go_still_tail 15,(by kernel_rfl)
     change wpList _ _ _ _ _ w6.drew;refine BO rfl (.tmp 167) (.tmp 165) rfl rfl (i:=a) (k:=c) (j:=3) (y:={sT.aK a c with eU:=(sT.aK a c).eU+1}) Xq.O.drew haT hcT el'.O (by decide) rfl rfl rfl (λw7 hx7 Dy=>?_)
     refine eP ?_
     have jfb:=ah (Dy.blk jo0.O.drew (jo0.O.drew.ne jjV.drew (by decide)))
     have Vr:=ah (Dy.blk x9.O.drew (x9.O.drew.ne jjV.drew (by decide)))
     have h07:=h06.drew.trans (Dy.below (B:=W0.heap.size) (λq hq=>by omega) h06.drew.size)
     have zT:=ah hx7;clear hx7 Dy Xq jo0 x9 h06 u0 u1 u2 u3 lhh tbx f3 d1 c1 jjV juX;have u0:=Vr.O.cell (j:=0) rfl;have u1:=Vr.O.cell (j:=1) rfl;have lhh:=Vr.O.lt;have lcb:=jfb.O.lt;have hcc:=jfb.O.cell (Pv (s:=s) (b:=i) (g:=j) (t:=t) ha4 hc3);have ha4i:(a:Int)<4:=by omega
     have hc3i:(c:Int)<3:=by omega
     go_wp2_with fail;go_still_tail 10,(by kernel_rfl)
     change wpList _ _ _ _ _ w7.drew;refine tC rfl (.tmp 177) (.tmp 175) rfl rfl kb (a*3+c) _ (rF s i j t a c+1) rfl rfl hcc (jfb.O.frozen _) (λw8 hw8=>?_)
     refine eP ?_
     obtain⟨jl6,Qq⟩:=Az jfb.O.drew (a*3+c) (.int .i64 (rF s i j t a c+1));rw[hw8]at jl6 Qq
     have MC:Bx w8 aT bx 40 [] _ _:=⟨zT.O.drew.box.grown Qq (λhe=>by injection he with he;exact(jfb.O.ne zT.O.box (by decide)) he.symm),zT.O.drew.own.keptBy Qq jfb.O.drew,zT.O.ty⟩
     rw[<- Y3 hc3 jjj.O]at jl6
     have wJ:=ah (show Bx w8 aT bx 40 [] _ (xk s i j n (t+1))by rw[jjk.O];exact MC)
     have jsi:=ah jl6;have BG:=h07.drew.grown Qq h07.drew.size (λq hq=>by injection hq with hq;omega)
     clear u0 u1 lhh lcb hcc MC jl6 Qq hw8 zT jfb Vr h07;go_wp2_with fail;go_roundg (over s i j n - (t+1)).toNat
     case rel=>exact⟨t+1,_,rfl,by omega,by omega,wJ.O,jsi.O,BG⟩
     case measure=>rw[jjD.O];omega
    ·rw[he];clear he;have jji:=jeo (jy:=n) hsn.O ht0 (k:=k) (by rw[jeW];exact hk) (by rw[jeW];exact hat) (by rw[jeW];exact hlast)
     rw[jeW,hsT]at jji
     have hmr:=hst.O.bZ hk;obtain⟨gm,cm,curm,em,hgm,hbm,f0,f1,f2,f3⟩:=hx2.O.own.bZ hk;obtain⟨mm,hmm⟩:∃mm,(bZ sT.aF k).n=mm:=⟨_,rfl⟩;rw[hmm]at hmr f3 jji
     obtain⟨m0,hm0⟩:∃m0,m0=mm - 1:=⟨_,rfl⟩;rw[<- hm0]at jji
     have hm1:1<=mm/\mm<=200:=by omega
     have hwn:IntKind.i64.wrap (mm - 1)=m0:=by rw[hm0];exact aP _ (by omega)
     have hmc:sT.aF.length<=cm:=Own.cap (by have:=hx2.O.own.aF;rw[em]at this;exact this)
     have p3:=hx2.O.cells.2.2.2.1;rw[em]at p3
     have em':=ah em;have hkn:(k:Int)<(sT.aF.length:Int):=by omega
     have hml8:=hst.O.uf;have lgm:=hbm.lt;have tbx:=hx2.O.lt;have hpm:=ah jji;have jrQ:=ah hm0;clear hmr f0 f1 f2 em hat hlast hmm hsT jeW ja5 jji hm0;go_wp2_with (refine jbI rfl (.tmp 111) (.tmp 109) rfl rfl (k:=k) (q:=m0) hx2.O hk em'.O (by decide) rfl rfl (λw3 hx3 hst3=>?_);refine bD ?_)
     unfold Hid;obtain⟨L,hL⟩:∃L:List Move,L=sT.aF.set k {bZ sT.aF k with n:=m0}:=⟨_,rfl⟩
     rw[<- hL]at hx3 hpm
     have hLl:L.length=sT.aF.length:=by rw[hL,jL]
     have hLk:(bZ L k).n=m0:=by rw[hL,Vl hk]
     have hLe:L.eraseIdx k=sT.aF.eraseIdx k:=by rw[hL,Lr]
     have jjY:=ah (hst3.blk hbk2.O (hbk2.O.ne hbm (by decide)))
     have h03:=h02.trans (hst3.below (B:=W0.heap.size) (λq hq=>by omega) h02.size)
     have YN:=ah hx3;clear hx3 hst3 hx2 hbk2 h02 p3 f3 hbm hL lgm tbx;obtain⟨gm',cm',curm',em2,_,hbm,f0,f1,f2,f3⟩:=YN.O.own.bZ (k:=k) (show k<L.length by omega)
     rw[em'.O]at em2
     injection em2 with e1 e2 e3
     injection e1 with e1
     injection e1 with e1
     subst e1;clear e2 e3 f0 f1 f2;change w3.cell? _=some (.int .i64 (bZ L k).n)at f3
     rw[hLk]at f3
     have p3:=YN.O.cells.2.2.2.1;rw[em'.O]at p3
     have lgm:=hbm.lt;have tbx:=YN.O.lt;have jsL:=ah hLl;have jsM:=ah hLe;clear hbm hLk hLl hLe;by_cases hz:mm=1
     ·obtain rfl:m0=0:=by have:=jrQ.O;omega
      have hz':=ah hz;have hMv:=ah (show ∀W,Below w3 w3 W->At W W.heap.size (some ⟨gm,0,none⟩) (L.flatMap oC)from λW hW=>by
       have h:=(YN.O.below hW).own.aF.sl (by show L.length<=_;have:=jsL.O;omega)
       rw[em'.O]at h
       exact h.at_)
      have hLn:=jsL.O;have hlt:(L.take k).length=k:=by rw[bC];omega
      have hld:(L.drop (k+1)).length=sT.aF.length - (k+1):=by rw[jv,hLn]
      have hba:Below w3 w3 (w3.alloc (.cells #[] 118)).drew:=((aj _ _).alloc (ay _) _).drew;have hown0:Own oC 4 118 (w3.alloc (.cells #[] 118)).drew w3 (.slice (some w3) 0 0) []:=(Own.Xg w3 _ (ay _):Own oC 4 118 (w3.alloc (.cells #[] 118)) w3 (.slice (some w3) 0 0) []);obtain⟨v1,w1,hr1,yK,hg1,hb1⟩:=Ij _ w3.heap.size _ [] (L.take k) hown0 gm 0 cm _ (At.head (ys:=(L.drop k).flatMap oC) (by rw[<- gQ,jW];exact hMv.O _ hba)) (by rw[hlt];simp only[dQ];omega) hba.size
      rw[hlt]at hr1
      rw[fJ]at yK
      have h81:=hba.trans hb1;obtain⟨A1',c1',rfl⟩:=yK.isSlice;rw[hlt]at hr1 yK
      have I9:∃o7,At w1 w1 (some ⟨gm,o7,none⟩) ((L.drop (k+1)).flatMap oC)/\(cm=k+1/\o7=0\/¬cm=k+1/\o7=(k+1)*4):=by
       by_cases hcq:cm=k+1
       ·refine⟨0,?_,.inl ⟨hcq,rfl⟩⟩
        have:L.drop (k+1)=[]:=Bz (by omega)
        rw[this];exact At.nil
       ·refine⟨(k+1)*4,?_,.inr ⟨hcq,rfl⟩⟩
        have h2:=hMv.O _ h81;rw[<- jW (k+1) L,gQ]at h2
        have h3:=h2.tail;rwa [lU oC 4 (λ_=>rfl),bC,jK (by omega),fM]at h3
      obtain⟨o7,hA7,I9⟩:=I9;obtain⟨v2,w2,hr2,AZ,hg2,hb2⟩:=Ij w1 w3 (.slice A1' k c1') (L.take k) (L.drop (k+1)) yK gm o7 (cm - (k+1)) _ hA7 (by rw[hlt,hld];omega) h81.size
      rw[hld]at hr2
      try rw[hlt]at hr2
      rw[<- nV]at AZ
      obtain⟨Uz,c2',rfl⟩:=AZ.isSlice;have h82:=h81.trans hb2;have h02:=fD h03 h82;have hx2:=YN.O.below h82;have hO2:=ah (show dX w2 aT {V with aF:=.slice Uz (L.eraseIdx k).length c2'} {sT with aF:=L.eraseIdx k}from hx2.own.Xa (zo w2 _) (AZ.from_ (by have:=YN.O.lt;omega)))
      have XI:=ah hx2.vw;have hbk2:=ah (jjY.O.below h82 jjY.O.lt);have p3a:=((YN.O.below h81).cells.2.2.2.1).trans (nO some em'.O);have b3:=hx2.cells.2.2.2.1.trans (nO some em'.O);have b3f:w2.frozen? ⟨bx,3,none⟩=false:=hx2.vw.blk.frozen 3;have l81:=h81.size;have l82:=h82.size;have hr1':=ah hr1;have hr2':=ah hr2;have q1:k<=cm:=by omega
      have q2:(k:Int)<=(cm:Int):=by omega
      have q3:(0:Int)<=(k:Int)+1:=by omega
      have q4:(k:Int)+1<=(sT.aF.length:Int):=by omega
      have q5:((k:Int)+1).toNat=k+1:=by omega
      have q6:¬(cm=0):=by omega
      have q7:IntKind.i64.wrap ((k:Int)+1)=(k:Int)+1:=aP _ (by omega)
      have jvp:=ah h82;clear hown0 yK AZ hr1 hr2 hA7 hx2 hg1 hg2 hb1 hb2 hba h81 h82 hlt hld YN jjY h03 hLn hz;rcases I9 with⟨hcq,I9⟩|⟨hcq,I9⟩
      ·subst I9;have je6:(cm=k+1)=True:=eq_true hcq;clear hcq;go_wp2_with fail;clear f3;go_region_law (first|refine sH _ rfl (.tmp 119) (.tmp 123) 38 38 rfl (.slice (some w3) 0 0) (.slice (some gm) k cm) (by simp[Act.eval,Act.put]) (by simp[Act.eval,Act.put]) hr1'.O ?_|refine sH _ rfl (.tmp 124) (.tmp 129) 38 38 rfl (.slice A1' k c1') (.slice (some gm) (sT.aF.length - (k+1)) (cm - (k+1))) (by simp[Act.eval,Act.put]) (by simp[Act.eval,Act.put]) hr2'.O ?_)
       all_goals
        clear p3 p3a b3 b3f q1 q2 q3 q4 q5 q6 q7 je6;obtain⟨AX,IK⟩:=Bx.set' (V:=V) (V':={V with aF:=.slice Uz (L.eraseIdx k).length c2'}) (s':={sT with aF:=L.eraseIdx k}) (rest:=[]) (by rw[jd];exact XI.O.blk) hO2.O Yi 3 (.slice Uz (L.eraseIdx k).length c2') rfl
        have sQ:=ah (show Bx (w2.setCell ⟨bx,3,none⟩ (.slice Uz (L.eraseIdx k).length c2')) aT bx 40 [] {V with aF:=.slice Uz (L.eraseIdx k).length c2'} (xk s i j n (t+1))by rw[hpm.O.1,aB hz'.O,<- jsM.O];exact AX)
        have jc3:=ah (show iJ (w2.setCell ⟨bx,3,none⟩ (.slice Uz (L.eraseIdx k).length c2')) kb 161 (yQ s i j (t+1))by rw[LV hpm.O.2];exact hbk2.O.grown IK (λhe=>by injection he with he;exact(hbk2.O.ne XI.O.blk (by decide)) he))
        have h010:=sV h02 IK h02.size (λk hk=>by injection hk with hk;omega)
        clear AX IK XI hO2 hr1' hr2' hbk2 l81 l82 h02;generalize w2.setCell ⟨bx,3,none⟩ (.slice Uz (L.eraseIdx k).length c2')=w10 at sQ jc3 h010 ⊢
        go_wp2_with fail;go_roundg (over s i j n - (t+1)).toNat
        case rel=>exact⟨t+1,_,rfl,by omega,by omega,sQ.O,jc3.O,h010⟩
        case measure=>rw[jjD.O];omega
      ·subst I9;have je6:=hcq;clear hcq;go_wp2_with fail;clear f3;go_region_law (first|refine sH _ rfl (.tmp 119) (.tmp 123) 38 38 rfl (.slice (some w3) 0 0) (.slice (some gm) k cm) (by simp[Act.eval,Act.put]) (by simp[Act.eval,Act.put]) hr1'.O ?_|refine sH _ rfl (.tmp 124) (.tmp 129) 38 38 rfl (.slice A1' k c1') (.slice (some ⟨gm,(k+1)*4,none⟩) (sT.aF.length - (k+1)) (cm - (k+1))) (by simp[Act.eval,Act.put]) (by simp[Act.eval,Act.put]) hr2'.O ?_)
       all_goals
        clear p3 p3a b3 b3f q1 q2 q3 q4 q5 q6 q7 je6;obtain⟨AX,IK⟩:=Bx.set' (V:=V) (V':={V with aF:=.slice Uz (L.eraseIdx k).length c2'}) (s':={sT with aF:=L.eraseIdx k}) (rest:=[]) (by rw[jd];exact XI.O.blk) hO2.O Yi 3 (.slice Uz (L.eraseIdx k).length c2') rfl
        have sQ:=ah (show Bx (w2.setCell ⟨bx,3,none⟩ (.slice Uz (L.eraseIdx k).length c2')) aT bx 40 [] {V with aF:=.slice Uz (L.eraseIdx k).length c2'} (xk s i j n (t+1))by rw[hpm.O.1,aB hz'.O,<- jsM.O];exact AX)
        have jc3:=ah (show iJ (w2.setCell ⟨bx,3,none⟩ (.slice Uz (L.eraseIdx k).length c2')) kb 161 (yQ s i j (t+1))by rw[LV hpm.O.2];exact hbk2.O.grown IK (λhe=>by injection he with he;exact(hbk2.O.ne XI.O.blk (by decide)) he))
        have h010:=sV h02 IK h02.size (λk hk=>by injection hk with hk;omega)
        clear AX IK XI hO2 hr1' hr2' hbk2 l81 l82 h02;generalize w2.setCell ⟨bx,3,none⟩ (.slice Uz (L.eraseIdx k).length c2')=w10 at sQ jc3 h010 ⊢
        go_wp2_with fail;go_roundg (over s i j n - (t+1)).toNat
        case rel=>exact⟨t+1,_,rfl,by omega,by omega,sQ.O,jc3.O,h010⟩
        case measure=>rw[jjD.O];omega
     ·have hz0:(m0==0)=false:=by
       have h:=jrQ.O;simp
       omega
      have hxn:=ah (show Bx w3 aT bx 40 [] V (xk s i j n (t+1))by rw[hpm.O.1,au hz];exact YN.O)
      have hbn:=ah (show iJ w3 kb 161 (yQ s i j (t+1))by rw[LV hpm.O.2];exact jjY.O)
      clear YN jjY;go_wp2_with fail;clear p3 f3;go_roundg (over s i j n - (t+1)).toNat
      case rel=>exact⟨t+1,V,rfl,by omega,by omega,hxn.O,hbn.O,h03⟩
      case measure=>rw[jjD.O];omega
   ·have hlt':=iE hlt;obtain rfl:t=over s i j n:=by unfold over at ht1 ⊢;omega
    have hx1:=ah (show Bx W1 aT bx 40 [] V (ctO p s i j n 0)from hxr.O.below h1)
    have hbk1:=ah (jhh.O.below h1 jhh.O.lt);have h01:=fD h0r h1;obtain⟨Ao,co,TM⟩:=hx1.O.own.IB;rw[(Qj hc'.O hf.O (aN _)).2.1]at TM
    have H7:=ah TM;have dw:=ah (jdC hc'.O hf.O);have h4:=hsn.O.nX;obtain⟨cells,hcells⟩:∃cells,cells=yQ s i j (over s i j n):=⟨_,rfl⟩;rw[<- hcells]at hbk1
    have hcells':=ah hcells;clear hxr jhh h1 hBr h0r tbx TM hst jjD hr hcells;go_wp2_with fail;clear hlt' hlt;go_loopw[17,18] (λo _ wr=>∃(q:Nat) (V':SV),V'={V with aA:=V'.aA}/\q<=s.ak.length/\o=.int .i64 q/\Bx wr aT bx 40 [] V' (ctO p s i j n q)/\iJ wr kb 161 cells/\Below W0.heap.size W0 wr) (λo _ _=>s.ak.length - (RowKit.intOf o).toNat)
    case atStart=>exact⟨0,V,rfl,aN _,rfl,hx1.O,hbk1.O,h01⟩
    case round=>
     clear hx1 hbk1 h01;obtain⟨q,V',hV,hq,rfl,hx,hbk,h0⟩:=hrel;have hx':=ah hx;have hbk':=ah hbk;have Qe:=ah (show V'.ak=.slice Ao s.ak.length co by rw[hV];exact H7.O)
     have hV':=ah hV;have c1:=hx.cells.2.1;rw[Qe.O]at c1
     have tbx:=hx.lt;clear hx hbk hV;by_cases hlt:q<s.ak.length
     ·have hqi:(q:Int)<(s.ak.length:Int):=by omega
      have hq4:q<4:=by omega
      have hq4i:(q:Int)<4:=by omega
      have l13:=hsn.O.rE hlt;have hx0:=ah (show Bx wr aT bx 40 [] V' (VQ p s i j n q 0)from hx'.O)
      clear hx';go_wp2_with fail;clear c1 tbx;go_loopw[18] (λkv wr=>∃(k:Nat) (V':SV),V'={V with aA:=V'.aA}/\k<=(s.aC q).aH.length/\kv=.int .i64 k/\Bx wr aT bx 40 [] V' (VQ p s i j n q k)/\iJ wr kb 161 cells/\Below W0.heap.size W0 wr) (λkv _=>(s.aC q).aH.length - (RowKit.intOf kv).toNat)
      case atStart=>exact⟨0,V',hV'.O,aN _,rfl,hx0.O,hbk'.O,h0⟩
      case round=>
       clear hx0 hbk' h0 Qe hV' V';obtain⟨k,V',hV,hkl,rfl,hx,hbk,h0⟩:=hrel;have hx':=ah hx;have hbk':=ah hbk;have Qe:=ah (show V'.ak=.slice Ao s.ak.length co by rw[hV];exact H7.O)
       have hV':=ah hV;obtain⟨hrt,lZ,Ja⟩:=jhy hc'.O hf.O hlt hkl;have jcP:=ah hrt;have hoq:q<(VQ p s i j n q k).ak.length:=by rw[lZ];exact hlt
       have jlV:=Ja q hlt;obtain⟨go,_,_,eo,_,_,_,z1⟩:=hx'.O.own.bK hoq;obtain⟨gl,cl,curl,el,hgl,jjV,_⟩:=hx'.O.own.fG (o:=q) (k:=0) hoq (by rw[jlV];omega)
       rw[Qe.O]at eo
       injection eo with eo e2 e3
       subst eo;clear e2 e3;rw[el,jlV]at z1
       rw[jlV]at el
       have c1:=hx'.O.cells.2.1;rw[Qe.O]at c1
       have tbx:=hx'.O.lt;have el':=ah el;have jrI:=ah hoq;clear hx hbk hV hrt lZ Ja hoq jlV el jjV;by_cases hkt:k<(s.aC q).aH.length
       ·have hki:(k:Int)<((s.aC q).aH.length:Int):=by omega
        have hk3:k<3:=by omega
        have hk3i:(k:Int)<3:=by omega
        have hcc:=hbk'.O.cell (j:=q*3+k) (v:=.int .i64 (rF s i j (over s i j n) q k)) (by rw[hcells'.O];exact Pv hq4 hk3)
        have lcb:=hbk'.O.lt;by_cases wU:0<rF s i j (over s i j n) q k
        ·have hmay:=ah (jmv hc'.O hf.O hlt hkt wU);obtain⟨s1,x,hs1,hxx⟩:∃s1 x,(qM p (VQ p s i j n q k) q k (rF s i j (over s i j n) q k) i).1=s1/\(qM p (VQ p s i j n q k) q k (rF s i j (over s i j n) q k) i).2=x:=⟨_,_,rfl,rfl⟩;have jrG:=ah (show VQ p s i j n q (k+1)=s1 from hs1)
         have hs1':=ah hs1;have jg3:=ah hxx;have jr8:=ah (show cells[q*3+k]?=some (.int .i64 (rF s i j (over s i j n) q k))by rw[hcells'.O];exact Pv hq4 hk3)
         clear hs1 hxx;generalize rF s i j (over s i j n) q k=nv at hmay jg3 hs1' hcc jr8 wU
         have hpos':=oD wU;have wu:aT<=wr.drew.heap.size:=by show aT<=wr.heap.size;omega
         have hT0:ctT W0 aT bx V' (VQ p s i j n q k) s1 kb cells 0 wr.drew:=⟨⟨h0.drew,wu,hx'.O.drew⟩,hbk'.O.drew⟩;have jj7:=ah hT0;clear wu hT0;go_wp2_with fail;clear z1 c1 hcc lcb tbx wU hpos';refine JJ 15 (ctT W0 aT bx V' (VQ p s i j n q k) s1 kb cells) (λk' w1 w2=>ctT W0 aT bx V' (VQ p s i j n q k) s1 kb cells k' w1->ctT W0 aT bx V' (VQ p s i j n q k) s1 kb cells (k'+1) w2) 10 14 (by decide) (by decide) (by decide) (λo ho=>by injection ho with ho;subst ho;exact⟨⟨10,.chain⟩,by simp,rfl,rfl⟩)
          [λ_ gq _=>gq 203=.agg (xu p Ab cb As cs),λph gq w'=>(λ(ph:Nat) (v:Value) (_:World)=>∃Vq:SV,v=Vq.val/\(ph=0->Vq=V')) ph (gq 204) w',λ_ gq _=>gq 205=q,λ_ gq _=>gq 206=k,λ_ gq _=>gq 207=q,λ_ gq _=>gq 208=k,λ_ gq _=>gq 209=.pointer (some ⟨kb,q*3,none⟩),λ_ gq _=>gq 210=.pointer (some ⟨kb,q*3+k,none⟩),λ_ gq _=>gq 211=nv,λ_ gq _=>gq 212=i,λph gq w'=>Jp aT V' s1 (λv=>.tuple #[v,x]) ph (gq 213) w',λph gq w'=>Jp aT V' s1 (λv=>.tuple #[v,x]) ph (gq 202) w',λph gq w'=>Jp aT V' s1 id ph (gq 214) w',λ_ gq _=>gq 215=x,λph gq w'=>ph=2/\True] (by kernel_rfl) (by kernel_rfl) rfl (by kernel_rfl)
          (λph w1 w2 h h'=>jhx h h') (λk w1 w2 _ h h'=>h' h) jj7.O ?_ (λf w2 hb2 hR=>?_)
         simp only[aG,aS];refine xw.v (λph gq w' hb ho hd=>?_) ?_
         ·have e5:=ho 5 rfl;obtain⟨⟨y0,y1⟩,x0,x1,x2,x3,x4,x5,x6,fB,fC⟩:=hK.O w' (hb.1.1);go_simp
         refine xw.cons (TI.one (d:=204) (p:=λ(ph:Nat) (v:Value) (_:World)=>∃Vq:SV,v=Vq.val/\(ph=0->Vq=V')) rfl rfl (by decide) (by decide) (λph v w1 w2 h hb=>h) (λk v w1 w2 _ h hb=>by
           obtain⟨Vq,h1,h2⟩:=h;exact⟨Vq,h1,λh=>by omega⟩) (λph gq w' hb ho hd=>?_)) ?_
         ·have e13:=ho 13 rfl;obtain⟨Vb,hvb,jeM,hvv⟩:=jb0 hb.1;clear jeM;obtain⟨b0,b1,b2,b3,b4,b5,b6⟩:=hvb.cells;have ji8:=ah hvv;clear hvv hvb;unfold iq;go_simp
          exact⟨⟨Vb,rfl,ji8.O⟩,aj _ _⟩
         refine xw.v (λph gq w' hb ho hd=>?_) ?_
         ·have e17:=ho 17 rfl;go_simp
         refine xw.v (λph gq w' hb ho hd=>?_) ?_
         ·have e18:=ho 18 rfl;go_simp
         refine xw.v (λph gq w' hb ho hd=>?_) ?_
         ·have e17:=ho 17 rfl;go_simp
         refine xw.v (λph gq w' hb ho hd=>?_) ?_
         ·have e18:=ho 18 rfl;go_simp
         refine xw.v (λph gq w' hb ho hd=>?_) ?_
         ·have e14:=ho 14 rfl;have e207:_=_:=hd.d 4;go_simp
         refine xw.v (λph gq w' hb ho hd=>?_) ?_
         ·have e209:_=_:=hd.d 6;have e208:_=_:=hd.d 5;go_simp
         refine xw.v (λph gq w' hb ho hd=>?_) ?_
         ·have e210:_=_:=hd.d 7;have hcc:=hb.2.cell jr8.O;go_simp
         refine xw.v (λph gq w' hb ho hd=>?_) ?_
         ·have e2:=ho 2 rfl;go_simp
         refine xw.cons (TI.first (d:=213) (p:=Jp aT V' s1 (λv=>.tuple #[v,x])) rfl rfl (λph v w1 w2 h hb=>Ho h hb) (λv w1 w2 h hb=>JB (ay _) h) (λgq w' hb ho hd=>?_)) ?_
         ·have e203:_=_:=hd.d 0;have e204:∃Vq:SV,gq 204=Vq.val/\((0:Nat)=0->Vq=V'):=hd.d 1;have e205:_=_:=hd.d 2;have e206:_=_:=hd.d 3;have e211:_=_:=hd.d 8;have e212:_=_:=hd.d 9;obtain⟨Vq,e204,hVV⟩:=e204;obtain rfl:=(hVV rfl).symm;have hb':=ah hb;clear hb hVV;unfold iq;go_simp
          refine(jip w' _ p (VQ p s i j n q k) q k nv i (hP'.O _ (hb0.trans (hb'.O.1.1.mono hb0.size))) jcP.O hmay.O (Bx.own hb'.O.1.2.2) hb'.O.1.2.1).mono ?_
          rintro e w9 ⟨V9,hV9,rfl,C9,uQ⟩;have Gs:dX w9 aT V9 s1:=by rw[<- hs1'.O];exact C9
          rw[jg3.O];refine⟨_,rfl,⟨V9,hV9,rfl,Gs⟩,λ_=>⟨⟨hb'.O.1.1.trans (uQ.below (B:=W0.heap.size) (λr hr=>by
           rw[el'.O]at hr
           change some gl=some r at hr
           injection hr with hr
           omega) hb'.O.1.1.size),aU hb'.O.1.2.1 uQ.size,uQ.blk (Bx.vw hb'.O.1.2.2).blk ?_,V9,hV9,Gs⟩,uQ.blk hb'.O.2 ?_⟩⟩
          ·rcases Own.qy ((Bx.own hb'.O.1.2.2).aK q jrI.O) (Bx.vw hb'.O.1.2.2).blk (by decide)with h|h
           ·rw[h];simp
           ·exact h
          ·rcases Own.qy ((Bx.own hb'.O.1.2.2).aK q jrI.O) hb'.O.2 (by decide)with h|h
           ·rw[h];simp
           ·exact h
         refine xw.cons (TI.one (d:=202) (p:=Jp aT V' s1 (λv=>.tuple #[v,x])) rfl rfl (by decide) (by decide) (λph v w1 w2 h hb=>Ho h hb) (λk v w1 w2 hk h hb=>JB hk h) (λph gq w' hb ho hd=>?_)) ?_
         ·have e213:Jp aT V' s1 (λv=>.tuple #[v,x]) ph (gq 213) w':=hd.d 10
          have js7:=ah e213;clear e213;unfold iq;go_simp
          exact⟨js7.O,aj _ _⟩
         refine xw.cons (TI.one (d:=214) (p:=Jp aT V' s1 id) rfl rfl (by decide) (by decide) (λph v w1 w2 h hb=>Ho h hb) (λk v w1 w2 hk h hb=>JB hk h) (λph gq w' hb ho hd=>?_)) ?_
         ·have X6:Jp aT V' s1 (λv=>.tuple #[v,x]) ph (gq 202) w':=hd.d 11
          rcases ph with _|_|ph
          ·exact X6.elim
          ·obtain⟨V7,hV7,X6,I9⟩:=X6;have ja2:=ah I9;have jpc:=ah hV7;clear I9 hV7;unfold iq;go_simp
           exact⟨⟨V7,jpc.O,rfl,ja2.O⟩,aj _ _⟩
          ·obtain⟨V7,X6⟩:=X6;unfold iq;go_simp
           exact⟨⟨V7,rfl⟩,aj _ _⟩
         refine xw.v (λph gq w' hb ho hd=>?_) ?_
         ·have X6:Jp aT V' s1 (λv=>.tuple #[v,x]) ph (gq 202) w':=hd.d 11
          have js8:∃V7:SV,gq 202=.tuple #[V7.val,x]:=by
           rcases ph with _|_|ph
           ·exact X6.elim
           ·obtain⟨V7,_,h,_⟩:=X6;exact⟨V7,h⟩
           ·exact X6
          clear X6;obtain⟨V7,X6⟩:=js8;go_simp
         refine xw.cons (TI.second (p:=λ_ _=>True) (by decide) rfl (λgq w1 w2 h hb=>trivial) (λgq gq' w1 he h=>trivial) (λgq w' hb ho hd=>?_)) ?_
         ·have e13:=ho 13 rfl;have e214:Jp aT V' s1 id 1 (gq 214) w':=hd.d 12;obtain⟨V7,hV7,e214,I9⟩:=e214;refine N7 (.tmp 13) (.tmp 214) rfl bx V' V7 hb.1.2.2.1 e13 e214 I9.one (λw8 IL Qq=>?_)
          exact⟨trivial,λ_=>⟨⟨hb.1.1.grown Qq hb.1.1.size (λr hr=>by injection hr with hr;omega),aU hb.1.2.1 Qq.size,V7,hV7,Bx.of IL (I9.keptBy Qq hb.1.2.2.1.blk)⟩,hb.2.grown Qq (λhe=>by injection he with he;exact(hb.2.ne hb.1.2.2.1.blk (by decide)) he)⟩⟩
         exact xw.nil;obtain⟨jqB,⟨Vx,jqA,_⟩,jqz,jqy,jqx,jqw,jqv,jqu,jqt,jqs,⟨V1,jqr⟩,⟨V2,jqC⟩,⟨V3,jqq⟩,jqp,_⟩:=hR;simp only[kP,qJ,aG,aS,bU,dH,bY,cO,dA,dL,aQ,bG,bH,jqB,jqA,jqz,jqy,jqx,jqw,jqv,jqu,jqt,jqs,jqr,jqC,jqq,jqp];clear jqB jqA jqz jqy jqx jqw jqv jqu jqt jqs jqr jqC jqq jqp;refine eP ?_
         obtain⟨⟨h09,_,V9,hV9,Gq⟩,jsh⟩:=hb2;have jj6:=ah (Ws hV9 hV'.O);have Eh:=ah (show Bx w2 aT bx 40 [] V9 (VQ p s i j n q (k+1))by rw[jrG.O];exact Gq)
         have jsg:=ah jsh;clear Gq jsh hV9 hx' hbk' hV' Qe hmay jcP el' hs1' jrG jg3 jj7;go_wp2_with fail;go_roundw
         case rel=>exact⟨k+1,V9,jj6.O,by omega,by go_num,Eh.O,jsg.O,h09⟩
         case measure=>simp[dY];omega
        ·have hsk:=ah (jkF (p:=p) wU);have hpos':=iE wU;have hx2:=ah (show Bx wr aT bx 40 [] V' (VQ p s i j n q (k+1))by rw[hsk.O];exact hx'.O)
         clear hx' wU;go_wp2_with fail;clear c1 z1 hcc lcb tbx;go_roundw
         case rel=>exact⟨k+1,V',hV'.O,by omega,by go_num,hx2.O,hbk'.O,h0⟩
         case measure=>simp[dY];omega
       ·obtain rfl:k=(s.aC q).aH.length:=by omega
        have hx2:=ah (show Bx wr aT bx 40 [] V' (ctO p s i j n (q+1))by rw[<- jmw hc'.O hf.O hlt];exact hx'.O)
        clear hx';go_wp2_with fail;clear c1 z1 tbx;go_roundw
        case rel=>exact⟨q+1,V',hV'.O,by omega,by go_num,hx2.O,hbk'.O,h0⟩
        case measure=>simp[dY];omega
     ·obtain rfl:q=s.ak.length:=by omega
      have hB0:=fD hb0 h0;have hx2:=ah (show Bx wr aT bx 40 [] V' (Jg p s i j n)by rw[<- jmt];exact hx'.O)
      have hvv:=Qe.O;clear hx' Qe hV';obtain⟨a0,a1,a2,a3,a4,a5,a6,a7,a8⟩:=V';obtain rfl:a1=.slice Ao s.ak.length co:=hvv;have fH:=hR.O _ h0;obtain⟨b0,b1,b2,b3,b4,b5,b6⟩:=jB.cells hx2.O.vw;have lT:=dX.one hx2.O.own;go_wp2_with (refine dU (.tmp 10) (.tmp 216) dV (⟨a0,.slice Ao s.ak.length co,a2,a3,a4,a5,a6,a7,a8⟩:SV) rfl fH rfl lT (λw9 dS jg=>?_))
      have wO:=dX.keptBy hx2.O.own jg fH;have eF:=Below.gV hB0 jg;clear b0 b1 b2 b3 b4 b5 b6;go_wp2_with fail;exact jl results79 dS rfl rfl (F7 dw.O (wO.from_ hle) eF)
 ·have hne:(aO p s !=0)=true:=by simpa using hc
  have dw:=ah (jaa (b:=b) (g:=g) (n:=n) hc);clear hc;have fH:=hR.O _ h1;go_wp2_with (refine dU (.tmp 10) (.tmp 24) dV dV rfl fH rfl rfl (λw9 dS jg=>?_))
  have eF:=Below.gV hB1 jg;go_wp2_with fail;exact jl results79 dS rfl rfl (jJ dw.O eF)
end
end Wh
