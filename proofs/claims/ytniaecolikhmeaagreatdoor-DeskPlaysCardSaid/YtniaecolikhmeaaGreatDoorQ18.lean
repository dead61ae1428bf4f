/- Texts of the claim, joined. -/
import Derived.Test.YtniaecolikhmeaaGreatDoorQ17
import Derived.Test.YtniaecolikhmeaaGreatDoorQ12
set_option maxHeartbeats 20000000
set_option maxRecDepth 100000
set_option linter.all false
namespace Wh
open Go Go.RowKit Go.Shelf Go.Proofs Tryz
section
attribute [local go_sem] aV jF iY jI
def yZ(p:dG)(x:Line):Bool:=!(iO p x.dW&&dM x.jk 1 200)
def LJ(x:Line):Bool:=!(decide (x.qI=0)&&decide (x.eU=0))
theorem Y6(p:dG)(x:Line):(iO p x.dW=false/\yZ p x=true)\/(iO p x.dW=true/\x.jk<1/\yZ p x=true)\/(iO p x.dW=true/\1<=x.jk/\200<x.jk/\yZ p x=true)\/
  (iO p x.dW=true/\1<=x.jk/\x.jk<=200/\yZ p x=false):=by
 unfold yZ;have h1:=@dZ x.jk 1 200;cases hw:dM x.jk 1 200<;>cases hg:iO p x.dW<;>simp only[hw,iV,wB,uX]at h1<;>simp<;>omega
theorem SG(x:Line):((x.qI !=0)=true/\LJ x=true)\/((x.qI !=0)=false/\(x.eU !=0)=true/\LJ x=true)\/((x.qI !=0)=false/\(x.eU !=0)=false/\LJ x=false):=by
 unfold LJ;by_cases h1:x.qI=0<;>by_cases h2:x.eU=0<;>simp[h1,h2]
section
variable {p:dG} {s:aI} {l:List Line}
theorem Z5(h:aO p s≠0):enter p s l=(kF,aO p s):=by unfold enter;rw[aB h]
theorem Ku(h:aO p s=0)(h2:4<=s.ak.length\/l.length<1\/3<l.length):enter p s l=(kF,2):=by
 unfold enter;have hw:=@dZ l.length 1 3;have h3:4<=s.ak.length\/(!dM l.length 1 3)=true:=by
  cases hh:dM l.length 1 3
  ·exact .inr rfl
  ·have:=hw.1 hh;omega
 rw[au (λhn=>hn h),aB h3]
theorem Pm(h:aO p s=0)(h2:s.ak.length<4)(h3:1<=l.length/\l.length<=3)(h4:l.any (yZ p)=true):enter p s l=(kF,3):=by
 unfold enter;have e:(!(l.all λx=>iO p x.dW&&dM x.jk 1 200))=true:=by rw[<- GR];exact h4
 have hw:dM l.length 1 3=true:=dZ.2 (by omega)
 rw[au (λhn=>hn h),hw,au (by simp;omega),aB e]
theorem RN(h:aO p s=0)(h2:s.ak.length<4)(h3:1<=l.length/\l.length<=3)(h4:l.any (yZ p)=false)(h5:l.any LJ=true):enter p s l=(kF,1):=by
 unfold enter;have e:(!(l.all λx=>iO p x.dW&&dM x.jk 1 200))=false:=by rw[<- GR];exact h4
 have e2:(!(l.all λx=>decide (x.qI=0)&&decide (x.eU=0)))=true:=by rw[<- GR];exact h5
 have hw:dM l.length 1 3=true:=dZ.2 (by omega)
 rw[au (λhn=>hn h),hw,au (by simp;omega),e,e2]
 rfl
theorem jdt(h:aO p s=0)(h2:s.ak.length<4)(h3:1<=l.length/\l.length<=3)(h4:l.any (yZ p)=false)(h5:l.any LJ=false):enter p s l=({s with ak:=s.ak++[⟨0,l⟩]},0):=by
 unfold enter;have e:(!(l.all λx=>iO p x.dW&&dM x.jk 1 200))=false:=by rw[<- GR];exact h4
 have e2:(!(l.all λx=>decide (x.qI=0)&&decide (x.eU=0)))=false:=by rw[<- GR];exact h5
 have hw:dM l.length 1 3=true:=dZ.2 (by omega)
 rw[au (λhn=>hn h),hw,au (by simp;omega),e,e2]
 rfl
end
theorem jkt(p:dG)(x:Line)(W:World)(B:Nat)(hz:fU p=0)(Ab As:Option Addr)(cb cs:Nat)(h0:W.cell? B=some (.slice Ab p.dP.length cb))(h1:W.cell? ⟨B,1,none⟩=some (.slice As p.aW.length cs))(hB:B<W.heap.size)
  (hP:kK W W (.agg (xu p Ab cb As cs)) p):
  Calls prog 96 #[JQ x,.pointer (some B)] W λe W'=>e=.returned (.bool (yZ p x))/\Below W W W':=by
 have hb1:lK p 0=true:=zA.2 (by have:=oI hz;omega)
 have hb0:Below W W (W.alloc (xZ x)):=(aj _ _).alloc (ay _) _;unfold JQ;rcases Y6 p x with⟨g1,hf⟩|⟨g1,g2,hf⟩|⟨g1,g2,g3,hf⟩|⟨g1,g2,g3,hf⟩
 all_goals
  have hth:(lK p 0&&iO p x.dW)=(iO p x.dW):=by rw[hb1];rfl
  have jaZ:=ah hth;clear hth;have hf':=ah hf;clear hf;go_enter func96,ntmps96
  go_wp2_with fail;refine(KU _ _ p 0 x.dW (hP.grow hb0)).mono ?_
  rintro e W1 ⟨rfl,hc1⟩;have hB:=fD hb0 hc1;obtain⟨ha1,hf1⟩:=yt hc1;rw[jaZ.O,g1];go_wp2_with fail;go_ret
  exact⟨gK (by rw[hf'.O]<;>first|rfl|(simp<;>omega)),hB⟩
theorem jfm:Enters prog 96:=enters_of func96 (by kernel_rfl) rfl
theorem jmm(x:Line)(W:World):Calls prog 97 #[JQ x] W λe W'=>e=.returned (.bool (LJ x))/\Below W W W':=by
 have hb0:Below W W (W.alloc (xZ x)):=(aj _ _).alloc (ay _) _;unfold JQ;rcases SG x with⟨g1,hf⟩|⟨g1,g2,hf⟩|⟨g1,g2,hf⟩
 all_goals
  have hf':=ah hf;clear hf;go_enter func97,ntmps97
  go_wp2_with fail;go_ret
  exact⟨gK (by rw[hf'.O]),hb0⟩
theorem jfl:Enters prog 97:=enters_of func97 (by kernel_rfl) rfl
theorem jgJ(w:World)(v vs vl:Value)(p:dG)(s:aI)(l:List Line)(hp:kK w w v p)(hv:kG w w vs s)(hl:Sl mX w w vl l):
  Calls prog 62 #[v,vs,vl] w (nN (enter p s l) w):=by
 have hL:=ah hl;obtain⟨Al,cl,rfl,hll,hAl⟩:=hl;clear hAl;obtain⟨Ab,cb,As,cs,rfl,hP',hBn,hSz,hlb,hls⟩:=o9 hp;obtain⟨A0,c0,A1,c1,A2,c2,A3,c3,A4,c4,A5,c5,A6,c6,rfl,hV,hN,hO,hH,hM,hI,hU,hX,hl0,hl1,hl2,hl3,hl4,hl5,Jb⟩:=lY hv;go_enter func62,ntmps62
 go_wp2_with fail;obtain⟨W0,hW0,hb0,kX,um,hsE,hK,hR⟩:=yS w p s Ab cb As cs A0 c0 A1 c1 A2 c2 A3 c3 A4 c4 A5 c5 A6 c6;rw[hW0];clear hW0;obtain⟨⟨y0,y1⟩,x0,x1,x2,x3,x4,x5,x6,fB,fC⟩:=hK.O W0 (aj W0 W0);go_wp2_with fail;clear y0 y1 x0 x1 x2 x3 x4 x5 x6 fB fC;refine(Nh _ _ _ p s (hP'.O _ hb0) (hV.O _ hb0)).mono ?_
 rintro e W1 ⟨rfl,h1⟩;have hB1:=fD hb0 h1;obtain⟨⟨y0,y1⟩,x0,x1,x2,x3,x4,x5,x6,fB,fC⟩:=hK.O W1 (h1);by_cases hc:aO p s=0
 ·have hc':=ah hc;have hsn:=ah (gB.1 hc).1;rw[hc];clear hc;have h4:=hsn.O.nX;by_cases QG:s.ak.length=4
  ·have dw:=ah (Ku (l:=l) hc'.O (.inl (by omega)))
   have jcU:(s.ak.length:Int)=4:=by omega
   clear QG h4;have fH:=hR.O _ h1;go_wp2_with (refine dU (.tmp 6) (.tmp 28) dV dV rfl fH rfl rfl (λw9 dS jg=>?_))
   have eF:=Below.gV hB1 jg;go_wp2_with fail;exact jl results62 dS rfl rfl (jJ dw.O eF)
  have jum:((s.ak.length:Int)==4)=false:=by simp;omega
  by_cases hl1:l.length<1
  ·have dw:=ah (Ku (p:=p) (s:=s) hc'.O (.inr (.inl hl1)));clear QG;have fH:=hR.O _ h1;go_wp2_with (refine dU (.tmp 6) (.tmp 28) dV dV rfl fH rfl rfl (λw9 dS jg=>?_))
   have eF:=Below.gV hB1 jg;go_wp2_with fail;exact jl results62 dS rfl rfl (jJ dw.O eF)
  by_cases hl3:3<l.length
  ·have dw:=ah (Ku (p:=p) (s:=s) hc'.O (.inr (.inr hl3)));clear QG;have fH:=hR.O _ h1;go_wp2_with (refine dU (.tmp 6) (.tmp 28) dV dV rfl fH rfl rfl (λw9 dS jg=>?_))
   have eF:=Below.gV hB1 jg;go_wp2_with fail;exact jl results62 dS rfl rfl (jJ dw.O eF)
  have ho:s.ak.length<4:=by omega
  have ja3:1<=l.length/\l.length<=3:=by omega
  clear QG;go_wp2_with fail;clear y0 y1 x0 x1 x2 x3 x4 x5 x6 fB fC;refine(yB _ _ l 96 #[.pointer (some w)] (yZ p) jfm (hL.O.grow hB1) (λj _ W hW=>by
   have hW2:=fD h1 hW;obtain⟨⟨a0,a1⟩,_,_,_,_,_,_,_,_,a2⟩:=hK.O W hW2;exact jkt p _ W w hsn.O.plan Ab As cb cs a0 a1 a2 (hP'.O W (fD hb0 hW2)))).mono ?_
  rintro e W2 ⟨rfl,h2⟩;have h02:=fD h1 h2;have hB2:=fD hb0 h02;obtain⟨⟨y0,y1⟩,x0,x1,x2,x3,x4,x5,x6,fB,fC⟩:=hK.O W2 (h02);cases ha:l.any (yZ p)
  ·have ha':=ah ha;clear ha;go_wp2_with fail;clear y0 y1 x0 x1 x2 x3 x4 x5 x6 fB fC;refine(yB _ _ l 97 #[] LJ jfl (hL.O.grow hB2) (λj _ W hW=>jmm _ W)).mono ?_
   rintro e W3 ⟨rfl,h3⟩;have h03:=fD h02 h3;have hB3:=fD hb0 h03;obtain⟨⟨y0,y1⟩,x0,x1,x2,x3,x4,x5,x6,fB,fC⟩:=hK.O W3 (h03);cases hn:l.any LJ
   ·have dw:=ah (jdt hc'.O ho ja3 ha'.O hn);clear hn;go_wp2_with fail;clear y0 y1 x0 x1 x2 x3 x4 x5 x6 fB fC;refine(jbV _ _ p s (hV.O _ hB3) hsn.O).mono ?_
    rintro e W5 ⟨_,rfl,⟨V5,rfl,DC⟩,h5⟩;have rU:=(DC).one;have zV:=Dj (W5);go_wp2_with (refine dU (.tmp 9) (.tmp 39) dV V5 rfl zV rfl rU (λw6 nK Jv=>?_);refine bD ?_)
    unfold Hid;have vG:=xg Jv;have x9:=nK.lt;clear rU zV Jv;have hx6:=ah (Bx.of nK (DC.below vG));have h06:=h03.trans ((fD h5 vG).mono h03.size);have hB6:=fD hb0 h06;have hle3:w.heap.size<=W3.heap.size:=hB3.size;have jrS:W0.heap.size<=W3.heap.size:=h03.size;have Bl:W3.heap.size<=W5.heap.size:=h5.size;have juv:W5.heap.size<w6.heap.size:=x9;clear nK DC vG h5 x9;go_wp2_with fail;refine IX 6 [rV 40 (.pointer (some ⟨W5.heap.size,1,none⟩)),rV 41 (V5.ak),rV 42 (.slice Al l.length cl),λgq w'=>(λv w'=>Own mX 4 106 w' w6 v l) (gq 43) w',λgq w'=>(λv w'=>∃u,v=.agg #[zI,u]/\Own mX 4 106 w' w6 u l) (gq 44) w',λgq w'=>(λv w'=>∃bb u,v=.slice (some ⟨bb,0,none⟩) 1 1/\w'.cell? ⟨bb,0,none⟩=some (.int .i64 0)/\w'.cell? ⟨bb,1,none⟩=some u/\bb<w'.heap.size/\Own mX 4 106 w' w6 u l) (gq 45) w'] ?_ (λf w2 hb2 hR=>?_)
    simp only[aG,aS];refine bT.v (λgq w' hb ho hd=>?_) ?_
    ·have e9:=ho 9 rfl;go_simp
    refine bT.v (λgq w' hb ho hd=>?_) ?_
    ·have e40:_=_:=hd.d 0;have x1:=(hx6.O.below hb).cells.2.1;go_simp
    refine bT.v (λgq w' hb ho hd=>?_) ?_
    ·have e2:=ho 2 rfl;go_simp
    refine bT.cons (sN.one (d:=43) (p:=(λv w'=>Own mX 4 106 w' w6 v l)) rfl rfl (λv w1 w2 h hb=>h.below hb) (λgq w' hb ho hd=>?_)) ?_
    ·have e42:_=_:=hd.d 2;have hl':=hL.O.grow (fD hB6 hb);unfold iq;go_simp
     refine(jab w' _ l hl' (by omega)).mono ?_
     rintro e w2 ⟨u,rfl,hu,hb2⟩;exact⟨u,rfl,hu.from_ hb.size,hb2⟩
    refine bT.cons (sN.one (d:=44) (p:=(λv w'=>∃u,v=.agg #[zI,u]/\Own mX 4 106 w' w6 u l)) rfl rfl (λv w1 w2 h hb=>let ⟨u,h1,h2⟩:=h;⟨u,h1,h2.below hb⟩) (λgq w' hb ho hd=>?_)) ?_
    ·have e43:Own mX 4 106 w' w6 (gq 43) l:=hd.d 3;obtain⟨E,kc,s30⟩:=e43.isSlice;rw[s30]at e43
     have e':=ah e43;clear e43;unfold iq;go_simp
     exact⟨e'.O,aj _ _⟩
    refine bT.cons (sN.one (d:=45) (p:=(λv w'=>∃bb u,v=.slice (some ⟨bb,0,none⟩) 1 1/\w'.cell? ⟨bb,0,none⟩=some (.int .i64 0)/\w'.cell? ⟨bb,1,none⟩=some u/\bb<w'.heap.size/\Own mX 4 106 w' w6 u l)) rfl rfl (λv w1 w2 h hb=>let ⟨bb,u,h1,h2,h2',h3,h4⟩:=h;⟨bb,u,h1,(hb.cell (p:=⟨bb,0,none⟩) h3).trans h2,(hb.cell (p:=⟨bb,1,none⟩) h3).trans h2',aJ h3 hb.size,h4.below hb⟩) (λgq w' hb ho hd=>?_)) ?_
    ·have e44:∃u,(gq 44)=.agg #[zI,u]/\Own mX 4 106 w' w6 u l:=hd.d 4;obtain⟨u,e44,hu⟩:=e44;obtain⟨E,kc,s30⟩:=hu.isSlice;rw[s30]at e44 hu
     have e':=ah hu;clear hu;unfold iq;go_simp
     exact⟨e'.O.alloc _,(aj _ _).alloc (ay _) _⟩
    exact bT.nil;obtain⟨r40,r41,r42,r43,r44,r45,_⟩:=hR;replace r43:Own mX 4 106 w2 w6 (f 43) l:=r43;replace r44:∃u,(f 44)=.agg #[zI,u]/\Own mX 4 106 w2 w6 u l:=r44;replace r45:∃bb u,(f 45)=.slice (some ⟨bb,0,none⟩) 1 1/\w2.cell? ⟨bb,0,none⟩=some (.int .i64 0)/\w2.cell? ⟨bb,1,none⟩=some u/\bb<w2.heap.size/\Own mX 4 106 w2 w6 u l:=r45;simp only[kP,qJ,aG,aS,bU,dH,bY,cO,dA,dL,aQ,bG,bH,r40,r41,r42];clear r40 r41 r42;obtain⟨bb,u,r4,d0,d1,l4,o4⟩:=r45;simp only[r4];clear r4 r43 r44;obtain⟨E,kc,rfl⟩:=o4.isSlice;have hx2:=hx6.O.below hb2;have QG:=vg hx2.own.llen;refine jV _ rfl (.tmp 41) (.tmp 45) 36 114 rfl W3.heap.size _ 2 32 underlying36 Qc rfl (by decide) (by decide) V5.ak (AV s.ak V5.aH) (0,.slice E l.length kc) rfl hx2.own.ak bb 1 rfl rfl (λj x hj=>by
     rw[gy,fM];match j,hj with
     |0,hj=>exact d0.trans hj
     |1,hj=>exact d1.trans hj
     |j+2,hj=>simp[Oj]at hj) (jaK _ rfl) (by omega) (by have:=hb2.size;omega) ?_
    intro v7 w7 zk UU Um FY;obtain⟨hk7,I9⟩:=hx6.O.L9 hb2 (x:=⟨0,l⟩) (o4.from_ (by omega)) (λg hg=>(o4.size g hg).1) UU zk
    obtain⟨Av,cv,hv7⟩:=zk.isSlice;simp only[aX,bP,dQ,fM]at hv7
    have h07:=h06.trans ((hb2.mono h06.size).trans (FY.mono (by omega)))
    have hT7:=hx2.ty;rw[hv7]at I9
    rw[hv7];have ja2:=ah I9;have jjA:=ah hk7;clear zk UU Um hv7 d0 d1 l4 o4 hx2 QG hk7 I9;go_wp2_with (refine Qx rfl (.tmp 47) (.tmp 46) rfl rfl Av _ cv jjA.O ja2.O hT7 rfl rfl rfl (λw8 MC BX=>?_);refine bD ?_)
    unfold Hid;have jhb:=h07.size;have BG:=h07.trans (BX.below (B:=W0.heap.size) (λk hk=>by omega) jhb)
    have NJ:=fD hb0 BG;obtain⟨V8,MC⟩:∃V8,Bx w8 W3 W5.heap.size 40 [] V8 {s with ak:=s.ak++[⟨0,l⟩]}:=⟨_,MC⟩
    have wJ:=ah MC;clear ja2 jjA MC BX jhb;have fH:=hR.O _ BG;obtain⟨b0,b1,b2,b3,b4,b5,b6⟩:=jB.cells wJ.O.vw;have lT:=dX.one wJ.O.own;go_wp2_with (refine dU (.tmp 6) (.tmp 48) dV V8 rfl fH rfl lT (λw9 dS jg=>?_))
    have wO:=dX.keptBy wJ.O.own jg fH;have eF:=Below.gV NJ jg;clear b0 b1 b2 b3 b4 b5 b6;go_wp2_with fail;exact jl results62 dS rfl rfl (F7 dw.O (wO.from_ hle3) eF)
   ·have dw:=ah (RN hc'.O ho ja3 ha'.O hn);clear hn;have fH:=hR.O _ h03;go_wp2_with (refine dU (.tmp 6) (.tmp 37) dV dV rfl fH rfl rfl (λw9 dS jg=>?_))
    have eF:=Below.gV hB3 jg;go_wp2_with fail;exact jl results62 dS rfl rfl (jJ dw.O eF)
  ·have dw:=ah (Pm hc'.O ho ja3 ha);clear ha;have fH:=hR.O _ h02;go_wp2_with (refine dU (.tmp 6) (.tmp 33) dV dV rfl fH rfl rfl (λw9 dS jg=>?_))
   have eF:=Below.gV hB2 jg;go_wp2_with fail;exact jl results62 dS rfl rfl (jJ dw.O eF)
 ·have hne:(aO p s !=0)=true:=by simpa using hc
  have dw:=ah (Z5 (l:=l) hc);clear hc;have fH:=hR.O _ h1;go_wp2_with (refine dU (.tmp 6) (.tmp 15) dV dV rfl fH rfl rfl (λw9 dS jg=>?_))
  have eF:=Below.gV hB1 jg;go_wp2_with fail;exact jl results62 dS rfl rfl (jJ dw.O eF)
end
section
attribute [local go_sem] aV jF iY jI
theorem jbx{α:Type}{P:α->Bool}{l:List α}(d:α){k:Nat}(hk:k<l.length)(h:P (l.getD k d)=true):l.any P=true:=by
 rw[kU];refine⟨l[k],dh hk,?_⟩
 simpa[hk]using h
theorem any_none{α:Type}{P:α->Bool}{l:List α}(d:α)(h:∀k,k<l.length->P (l.getD k d)=false):l.any P=false:=by
 rw[qo];intro x hx;obtain⟨k,hk,rfl⟩:=bg hx;have:=h k hk;simp[hk]at this
 simp[this]
theorem jit(w:World)(v vs vl:Value)(p:dG)(s:aI)(l:List Line)(hp:kK w w v p)(hv:kG w w vs s)(hl:Sl mX w w vl l):
  Calls prog 73 #[v,vs,vl] w (nN (enter p s l) w):=by
 have hL:=ah hl;obtain⟨Al,cl,rfl,hll,hAl⟩:=hl;clear hAl;obtain⟨Ab,cb,As,cs,rfl,hP',hBn,hSz,hlb,hls⟩:=o9 hp;obtain⟨A0,c0,A1,c1,A2,c2,A3,c3,A4,c4,A5,c5,A6,c6,rfl,hV,hN,hO,hH,hM,hI,hU,hX,hl0,hl1,hl2,hl3,hl4,hl5,Jb⟩:=lY hv;go_enter func73,ntmps73
 go_wp2_with fail;obtain⟨W0,hW0,hb0,kX,um,hsE,hK,hR⟩:=yS w p s Ab cb As cs A0 c0 A1 c1 A2 c2 A3 c3 A4 c4 A5 c5 A6 c6;rw[hW0];clear hW0;obtain⟨⟨y0,y1⟩,x0,x1,x2,x3,x4,x5,x6,fB,fC⟩:=hK.O W0 (aj W0 W0);go_wp2_with fail;clear y0 y1 x0 x1 x2 x3 x4 x5 x6 fB fC;refine(BD _ _ _ p s (hP'.O _ hb0) (hV.O _ hb0)).mono ?_
 rintro e W1 ⟨rfl,h1⟩;have hB1:=fD hb0 h1;obtain⟨⟨y0,y1⟩,x0,x1,x2,x3,x4,x5,x6,fB,fC⟩:=hK.O W1 (h1);by_cases hc:aO p s=0
 ·have hc':=ah hc;have hsn:=ah (gB.1 hc).1;rw[hc];clear hc;have hcnt:=hsn.O.counts;by_cases QG:4<=s.ak.length
  ·have dw:=ah (Ku (l:=l) hc'.O (.inl (by omega)))
   have jcU:(4:Int)<=(s.ak.length:Int):=by omega
   clear QG;have fH:=hR.O _ h1;go_wp2_with (refine dU (.tmp 6) (.tmp 29) dV dV rfl fH rfl rfl (λw9 dS jg=>?_))
   have eF:=Below.gV hB1 jg;go_wp2_with fail;exact jl results73 dS rfl rfl (jJ dw.O eF)
  have jum:(s.ak.length:Int)<4:=by omega
  have ho:s.ak.length<4:=by omega
  clear QG;go_wp2_with fail;refine(oz l.length 1 3 _).mono ?_
  rintro e w' ⟨rfl,rfl⟩;cases hw:dM l.length 1 3
  ·have dw:=ah (Ku (p:=p) (s:=s) (l:=l) hc'.O (.inr (by have:=mY.1 hw;omega)))
   clear hw;have fH:=hR.O _ h1;go_wp2_with (refine dU (.tmp 6) (.tmp 29) dV dV rfl fH rfl rfl (λw9 dS jg=>?_))
   have eF:=Below.gV hB1 jg;go_wp2_with fail;exact jl results73 dS rfl rfl (jJ dw.O eF)
  have ja3:1<=l.length/\l.length<=3:=by have:=dZ.1 hw;omega
  clear hw;go_wp2_with fail;go_loopw[9] (λi wr=>∃k:Nat,k<=l.length/\i=.int .i64 k/\(∀j,j<k->yZ p (fG l j)=false)/\Below W0.heap.size W0 wr) (λi _=>l.length - (RowKit.intOf i).toNat)
  case atStart=>exact⟨0,aN _,rfl,λj hj=>by omega,h1⟩
  case round=>
   clear y0 y1 x0 x1 x2 x3 x4 x5 x6 fB fC;obtain⟨k,hk,rfl,kQ,hbw⟩:=hrel;have hall':=ah kQ;have hB:=fD hb0 hbw;clear kQ hB1 h1;obtain⟨⟨y0,y1⟩,x0,x1,x2,x3,x4,x5,x6,fB,fC⟩:=hK.O wr (hbw);by_cases hlt:k<l.length
   ·obtain⟨hok2,Qs,e0,e1,e2,e3⟩:=(hL.O.grow hB).at_.aK hlt;have hlt':(k:Int)<(l.length:Int):=by omega
    have q0:=λo d os=>cZ (w:=wr) (b:=w.heap.size) fC o d os
    have q1:=λo d os=>cZ (w:=wr) (b:=iH Al) Qs o d os
    have hP2:=ah (λd os=>hP'.O _ (hB.trans ((kH wr d os).mono hB.size)))
    cases hg:iO p (fG l k).dW
    ·have hbad:yZ p (fG l k)=true:=by unfold yZ;rw[hg];rfl
     have dw:=ah (Pm hc'.O ho ja3 (jbx IU hlt hbad));have hrg:∀W:World,kK W W (.agg (xu p Ab cb As cs)) p->Calls prog 115 #[.agg (xu p Ab cb As cs),.int .i64 (fG l k).dW] W λe w'=>e=.returned (.bool false)/\Below W W w':=λW hW=>by
      have:=Fe W _ p (fG l k).dW hW (by omega)
      rwa [hg]at this
     have jeQ:=ah hrg;clear hg hbad hrg;go_wp2_with fail;refine dO (by kernel_rfl) (by kernel_rfl) ?_
     repeat(go_big_quiet_step ((go_at_call 115;refine fV (jeQ.O _ (hP2.O _ _)))))
     refine wpQuiet_nil ?_
     intro W2 hw';have hb2:=dN hw';clear hw';have h02:=fD hbw hb2;have hB2:=fD hb0 h02;clear q0 q1;have fH:=hR.O _ h02;go_wp2_with (refine dU (.tmp 6) (.tmp 53) dV dV rfl fH rfl rfl (λw9 dS jg=>?_))
     have eF:=Below.gV hB2 jg;go_wp2_with fail;exact jl results73 dS rfl rfl (jJ dw.O eF)
    ·have hrg:∀W:World,kK W W (.agg (xu p Ab cb As cs)) p->Calls prog 115 #[.agg (xu p Ab cb As cs),.int .i64 (fG l k).dW] W λe w'=>e=.returned (.bool true)/\Below W W w':=λW hW=>by
      have:=Fe W _ p (fG l k).dW hW (by omega)
      rwa [hg]at this
     have jeQ:=ah hrg;clear hrg;cases hw:dM (fG l k).jk 1 200
     ·have hbad:yZ p (fG l k)=true:=by unfold yZ;rw[hg,hw];rfl
      have dw:=ah (Pm hc'.O ho ja3 (jbx IU hlt hbad));have hrw:∀W:World,Calls prog 43 #[.int .i64 (fG l k).jk,.int .i64 1,.int .i64 200] W λe w'=>e=.returned (.bool false)/\W=w':=λW=>by
       have:=oz (fG l k).jk 1 200 W;rwa [hw]at this
      have joi:=ah hrw;clear hg hw hbad hrw;go_wp2_with fail;refine dO (by kernel_rfl) (by kernel_rfl) ?_
      repeat(go_big_quiet_step (first|(go_at_call 115;refine fV (jeQ.O _ (hP2.O _ _)))|(go_at_call 43;refine yR (joi.O _))))
      refine wpQuiet_nil ?_
      intro W2 hw';have hb2:=dN hw';clear hw';have h02:=fD hbw hb2;have hB2:=fD hb0 h02;clear q0 q1;have fH:=hR.O _ h02;go_wp2_with (refine dU (.tmp 6) (.tmp 53) dV dV rfl fH rfl rfl (λw9 dS jg=>?_))
      have eF:=Below.gV hB2 jg;go_wp2_with fail;exact jl results73 dS rfl rfl (jJ dw.O eF)
     ·have hok:yZ p (fG l k)=false:=by unfold yZ;rw[hg,hw];rfl
      have hok':=ah hok;have hrw:∀W:World,Calls prog 43 #[.int .i64 (fG l k).jk,.int .i64 1,.int .i64 200] W λe w'=>e=.returned (.bool true)/\W=w':=λW=>by
       have:=oz (fG l k).jk 1 200 W;rwa [hw]at this
      have joi:=ah hrw;clear hg hw hok hrw;go_wp2_with fail;refine dO (by kernel_rfl) (by kernel_rfl) ?_
      repeat(go_big_quiet_step (first|(go_at_call 115;refine fV (jeQ.O _ (hP2.O _ _)))|(go_at_call 43;refine yR (joi.O _))))
      refine wpQuiet_nil ?_
      intro W2 hw';have hb2:=dN hw';clear hw';have h02:=fD hbw hb2;clear q0 q1;go_wp2_with fail;go_roundw
      case rel=>
       refine⟨k+1,by omega,by go_num,λj hj=>?_,h02⟩
       rcases bf.1 hj with h|rfl
       ·exact hall'.O j h
       ·exact hok'.O
      case measure=>simp[dY];omega
   ·obtain rfl:k=l.length:=by omega
    have hnb:=ah (any_none IU hall'.O);clear hall';go_wp2_with fail;go_loopw[10] (λi wr=>∃k:Nat,k<=l.length/\i=.int .i64 k/\(∀j,j<k->LJ (fG l j)=false)/\Below W0.heap.size W0 wr) (λi _=>l.length - (RowKit.intOf i).toNat)
    case atStart=>exact⟨0,aN _,rfl,λj hj=>by omega,hbw⟩
    case round=>
     clear y0 y1 x0 x1 x2 x3 x4 x5 x6 fB fC;clear hbw hB;obtain⟨k,hk,rfl,kQ,hbw⟩:=hrel;have hall':=ah kQ;have hB:=fD hb0 hbw;clear kQ;obtain⟨⟨y0,y1⟩,x0,x1,x2,x3,x4,x5,x6,fB,fC⟩:=hK.O wr (hbw);by_cases hlt:k<l.length
     ·obtain⟨hok2,Qs,e0,e1,e2,e3⟩:=(hL.O.grow hB).at_.aK hlt;have hlt':(k:Int)<(l.length:Int):=by omega
      rcases SG (fG l k)with⟨g1,hf⟩|⟨g1,g2,hf⟩|⟨g1,g2,hf⟩
      ·have dw:=ah (RN hc'.O ho ja3 hnb.O (jbx IU hlt hf));clear hf;have fH:=hR.O _ hbw;go_wp2_with (refine dU (.tmp 6) (.tmp 74) dV dV rfl fH rfl rfl (λw9 dS jg=>?_))
       have eF:=Below.gV hB jg;go_wp2_with fail;exact jl results73 dS rfl rfl (jJ dw.O eF)
      ·have dw:=ah (RN hc'.O ho ja3 hnb.O (jbx IU hlt hf));clear hf;have fH:=hR.O _ hbw;go_wp2_with (refine dU (.tmp 6) (.tmp 74) dV dV rfl fH rfl rfl (λw9 dS jg=>?_))
       have eF:=Below.gV hB jg;go_wp2_with fail;exact jl results73 dS rfl rfl (jJ dw.O eF)
      ·have hf':=ah hf;clear hf;go_wp2_with fail;go_roundw
       case rel=>
        refine⟨k+1,by omega,by go_num,λj hj=>?_,hbw⟩
        rcases bf.1 hj with h|rfl
        ·exact hall'.O j h
        ·exact hf'.O
       case measure=>simp[dY];omega
     ·obtain rfl:k=l.length:=by omega
      have hnn:=any_none IU hall'.O;have dw:=ah (jdt hc'.O ho ja3 hnb.O hnn);clear hnn hall';go_wp2_with fail;clear y0 y1 x0 x1 x2 x3 x4 x5 x6 fB fC;refine(FM _ _ p s (hV.O _ hB) hsn.O).mono ?_
      rintro e W5 ⟨_,rfl,⟨V5,rfl,DC⟩,h5⟩;have rU:=(DC).one;have zV:=Dj (W5);go_wp2_with (refine dU (.tmp 11) (.tmp 76) dV V5 rfl zV rfl rU (λw6 nK Jv=>?_);refine bD ?_)
      unfold Hid;have vG:=xg Jv;have x9:=nK.lt;clear rU zV Jv;have hx6:=ah (Bx.of nK (DC.below vG));have h06:=hbw.trans ((fD h5 vG).mono hbw.size);have hB6:=fD hb0 h06;have hle3:w.heap.size<=wr.heap.size:=hB.size;have jrS:W0.heap.size<=wr.heap.size:=hbw.size;have Bl:wr.heap.size<=W5.heap.size:=h5.size;have juv:W5.heap.size<w6.heap.size:=x9;clear nK DC vG h5 x9;go_wp2_with fail;refine IX 7 [rV 77 (.pointer (some ⟨W5.heap.size,1,none⟩)),rV 78 (V5.ak),λgq w'=>(λv w'=>∃b,v=.slice (some ⟨b,0,none⟩) 0 0/\w6.heap.size<=b/\iJ w' b 106 []) (gq 79) w',rV 80 (.slice Al l.length cl),λgq w'=>(λv w'=>Own mX 4 106 w' w6 v l) (gq 81) w',λgq w'=>(λv w'=>∃u,v=.agg #[zI,u]/\Own mX 4 106 w' w6 u l) (gq 82) w',λgq w'=>(λv w'=>∃bb u,v=.slice (some ⟨bb,0,none⟩) 1 1/\w'.cell? ⟨bb,0,none⟩=some (.int .i64 0)/\w'.cell? ⟨bb,1,none⟩=some u/\bb<w'.heap.size/\Own mX 4 106 w' w6 u l) (gq 83) w'] ?_ (λf w2 hb2 hR=>?_)
      simp only[aG,aS];refine bT.v (λgq w' hb ho hd=>?_) ?_
      ·have e11:=ho 11 rfl;go_simp
      refine bT.v (λgq w' hb ho hd=>?_) ?_
      ·have e77:_=_:=hd.d 0;have x1:=(hx6.O.below hb).cells.2.1;go_simp
      refine bT.cons (sN.one (d:=79) (p:=(λv w'=>∃b,v=.slice (some ⟨b,0,none⟩) 0 0/\w6.heap.size<=b/\iJ w' b 106 [])) rfl rfl (λv w1 w2 h hb=>let ⟨b,h1,h2,h3⟩:=h;⟨b,h1,h2,h3.below hb h3.lt⟩) (λgq w' hb ho hd=>?_)) ?_
      ·unfold iq;go_simp
       exact⟨⟨hb.size,iJ.new _ _ _⟩,(aj _ _).alloc (ay _) _⟩
      refine bT.v (λgq w' hb ho hd=>?_) ?_
      ·have e2:=ho 2 rfl;go_simp
      refine bT.cons (sN.one (d:=81) (p:=(λv w'=>Own mX 4 106 w' w6 v l)) rfl rfl (λv w1 w2 h hb=>h.below hb) (λgq w' hb ho hd=>?_)) ?_
      ·have e79:∃b,(gq 79)=.slice (some ⟨b,0,none⟩) 0 0/\w6.heap.size<=b/\iJ w' b 106 []:=hd.d 2;have e80:_=_:=hd.d 3;obtain⟨bb,e3,juY,Dz⟩:=e79;have hAt:=(hL.O.grow (fD hB6 hb)).at_;obtain⟨u,w3,hr,hb3,h0,h⟩:=wF (P:=prog) w' 79 79 106 _ 4 32 underlying79 OJ rfl (by decide) (by decide) bb Dz l Al cl w' (λ_=>rfl) hAt (by omega)
       unfold iq;simp only[execOp,resolve,invoke,builtin,jF,e80,e3,iP,jc,gY,kC,dJ,lD,hr];exact⟨(h (by omega)).from_ hb.size,hb3⟩
      refine bT.cons (sN.one (d:=82) (p:=(λv w'=>∃u,v=.agg #[zI,u]/\Own mX 4 106 w' w6 u l)) rfl rfl (λv w1 w2 h hb=>let ⟨u,h1,h2⟩:=h;⟨u,h1,h2.below hb⟩) (λgq w' hb ho hd=>?_)) ?_
      ·have e81:Own mX 4 106 w' w6 (gq 81) l:=hd.d 4;obtain⟨E,kc,s30⟩:=e81.isSlice;rw[s30]at e81
       have e':=ah e81;clear e81;unfold iq;go_simp
       exact⟨e'.O,aj _ _⟩
      refine bT.cons (sN.one (d:=83) (p:=(λv w'=>∃bb u,v=.slice (some ⟨bb,0,none⟩) 1 1/\w'.cell? ⟨bb,0,none⟩=some (.int .i64 0)/\w'.cell? ⟨bb,1,none⟩=some u/\bb<w'.heap.size/\Own mX 4 106 w' w6 u l)) rfl rfl (λv w1 w2 h hb=>let ⟨bb,u,h1,h2,h2',h3,h4⟩:=h;⟨bb,u,h1,(hb.cell (p:=⟨bb,0,none⟩) h3).trans h2,(hb.cell (p:=⟨bb,1,none⟩) h3).trans h2',aJ h3 hb.size,h4.below hb⟩) (λgq w' hb ho hd=>?_)) ?_
      ·have e82:∃u,(gq 82)=.agg #[zI,u]/\Own mX 4 106 w' w6 u l:=hd.d 5;obtain⟨u,e82,hu⟩:=e82;obtain⟨E,kc,s30⟩:=hu.isSlice;rw[s30]at e82 hu
       have e':=ah hu;clear hu;unfold iq;go_simp
       exact⟨e'.O.alloc _,(aj _ _).alloc (ay _) _⟩
      exact bT.nil;obtain⟨r77,r78,r79,r80,r81,r82,r83,_⟩:=hR;replace r79:∃b,(f 79)=.slice (some ⟨b,0,none⟩) 0 0/\w6.heap.size<=b/\iJ w2 b 106 []:=r79;replace r81:Own mX 4 106 w2 w6 (f 81) l:=r81;replace r82:∃u,(f 82)=.agg #[zI,u]/\Own mX 4 106 w2 w6 u l:=r82;replace r83:∃bb u,(f 83)=.slice (some ⟨bb,0,none⟩) 1 1/\w2.cell? ⟨bb,0,none⟩=some (.int .i64 0)/\w2.cell? ⟨bb,1,none⟩=some u/\bb<w2.heap.size/\Own mX 4 106 w2 w6 u l:=r83;simp only[kP,qJ,aG,aS,bU,dH,bY,cO,dA,dL,aQ,bG,bH,r77,r78,r80];clear r77 r78 r80;obtain⟨bb,u,r4,d0,d1,l4,o4⟩:=r83;simp only[r4];clear r4 r81 r82;obtain⟨E,kc,rfl⟩:=o4.isSlice;have hx2:=hx6.O.below hb2;have QG:=vg hx2.own.llen;refine jV _ rfl (.tmp 78) (.tmp 83) 36 114 rfl wr.heap.size _ 2 32 underlying36 Qc rfl (by decide) (by decide) V5.ak (AV s.ak V5.aH) (0,.slice E l.length kc) rfl hx2.own.ak bb 1 rfl rfl (λj x hj=>by
       rw[gy,fM];match j,hj with
       |0,hj=>exact d0.trans hj
       |1,hj=>exact d1.trans hj
       |j+2,hj=>simp[Oj]at hj) (jaK _ rfl) (by omega) (by have:=hb2.size;omega) ?_
      intro v7 w7 zk UU Um FY;obtain⟨hk7,I9⟩:=hx6.O.L9 hb2 (x:=⟨0,l⟩) (o4.from_ (by omega)) (λg hg=>(o4.size g hg).1) UU zk
      obtain⟨Av,cv,hv7⟩:=zk.isSlice;simp only[aX,bP,dQ,fM]at hv7
      have h07:=h06.trans ((hb2.mono h06.size).trans (FY.mono (by omega)))
      have hT7:=hx2.ty;rw[hv7]at I9
      rw[hv7];have ja2:=ah I9;have jjA:=ah hk7;clear zk UU Um hv7 d0 d1 l4 o4 hx2 QG hk7 I9;go_wp2_with (refine Qx rfl (.tmp 85) (.tmp 84) rfl rfl Av _ cv jjA.O ja2.O hT7 rfl rfl rfl (λw8 MC BX=>?_);refine bD ?_)
      unfold Hid;have jhb:=h07.size;have BG:=h07.trans (BX.below (B:=W0.heap.size) (λk hk=>by omega) jhb)
      have NJ:=fD hb0 BG;obtain⟨V8,MC⟩:∃V8,Bx w8 wr W5.heap.size 40 [] V8 {s with ak:=s.ak++[⟨0,l⟩]}:=⟨_,MC⟩
      have wJ:=ah MC;clear ja2 jjA MC BX jhb;have fH:=hR.O _ BG;obtain⟨b0,b1,b2,b3,b4,b5,b6⟩:=jB.cells wJ.O.vw;have lT:=dX.one wJ.O.own;go_wp2_with (refine dU (.tmp 6) (.tmp 86) dV V8 rfl fH rfl lT (λw9 dS jg=>?_))
      have wO:=dX.keptBy wJ.O.own jg fH;have eF:=Below.gV NJ jg;clear b0 b1 b2 b3 b4 b5 b6;go_wp2_with fail;exact jl results73 dS rfl rfl (F7 dw.O (wO.from_ hle3) eF)
 ·have hne:(aO p s !=0)=true:=by simpa using hc
  have dw:=ah (Z5 (l:=l) hc);clear hc;have fH:=hR.O _ h1;go_wp2_with (refine dU (.tmp 6) (.tmp 17) dV dV rfl fH rfl rfl (λw9 dS jg=>?_))
  have eF:=Below.gV hB1 jg;go_wp2_with fail;exact jl results73 dS rfl rfl (jJ dw.O eF)
end
section
attribute [local go_sem] aV jF iY jI
def lay(w:World)(os:List Obj):World:={w with heap:=w.heap++os.toArray}
def small(s:aI):Bool:=decide (s.on.length<=1000)&&s.on.all (λr=>decide (r.length<=1000))&&decide (s.ak.length<=1000)&&s.ak.all (λo=>decide (o.aH.length<=1000))&&decide (s.aA.length<=1000)&&decide (s.aF.length<=1000)&&decide (s.jf.length<=1000)&&decide (s.O.length<=1000)&&decide (s.dB.length<=1000)
theorem dX.view0{w:World}{aT:Nat}{V:SV}{s:aI}(h:dX w aT V s)(hs:small s=true):kG w w V.val s:=by
 unfold small at hs
 simp only[dF,dI,bJ]at hs
 obtain⟨⟨⟨⟨⟨⟨⟨⟨s1,s2⟩,s3⟩,s4⟩,s5⟩,s6⟩,s7⟩,s8⟩,s9⟩:=hs;obtain⟨A,c,hv,_,hA⟩:=h.on.sl (by rw[h.rlen];omega)
 obtain⟨A1,c1,hv1,_,hA1⟩:=h.ak.sl (by rw[vg h.llen];omega)
 refine⟨_,_,_,_,_,_,_,rfl,⟨A,c,V.rows,by rw[hv,h.rlen],by omega,h.rlen,?_,λi x hi=>?_⟩,⟨A1,c1,V.aH,by rw[hv1,vg h.llen],by omega,h.llen,?_,λi x hi=>?_⟩,h.aA.sl (by omega),h.aF.sl (by omega),h.jf.sl (by omega),h.O.sl (by omega),h.dB.sl (by omega)⟩
 ·have:V.rows.flatMap (λu=>[u])=V.rows:=by simp
  rw[this]at hA
  exact hA
 ·have hil:i<s.on.length:=(fA.1 hi).1
  have hx:fO s.on i=x:=by rw[AU hil];exact(fA.1 hi).2
  have:=s2 x (qC hi);exact⟨_,h.jij hil,by rw[<- hx];exact(h.row i hil).sl (by rw[hx];omega)⟩
 ·have e:(s.ak.zip V.aH).flatMap (λx=>[Value.int .i64 x.1.eH,x.2])=(AV s.ak V.aH).flatMap Oj:=by
   unfold AV Oj;rw[DK,xG,xG,xE,xE]
  rw[e];exact hA1
 ·have hil:i<s.ak.length:=(fA.1 hi).1
  have hx:s.aC i=x:=by unfold aI.aC;rw[uO hil];exact(fA.1 hi).2
  have:=s4 x (qC hi);exact⟨_,h.jf8 hil,by rw[<- hx];exact(h.aK i hil).sl (by rw[hx];omega)⟩
end
section
attribute [local go_sem] aV
def jdU(l:List eX)(o ln b:Int)(w:World)(e:Ending)(w':World):Prop:=
 ∃v,e=.returned (.tuple #[v,.int .i64 (drop l o ln b).2.1,.int .i64 (drop l o ln b).2.2])/\Own iD 4 116 w' w v (drop l o ln b).1/\Below w w w'
def jmI(l:List eX)(h:eX)(w:World)(e:Ending)(w':World):Prop:=
 ∃v,e=.returned (.tuple #[v,.int .i64 (add l h).2])/\Own iD 4 116 w' w v (add l h).1/\Below w w w'
theorem Uc{l:List eX}(h:iI l=true):l.length<=72:=by
 have hr:=(gI.1 h).2;have hf:=(gI.1 h).1;have hp:∀x∈l,0<=fP x/\fP x<72:=λx hx=>by
  have:=(nH.1 (hf x hx)).1;unfold sJ at this
  unfold fP;omega
 have hn:(l.map λx=>(fP x).toNat).Nodup:=by
  rw[List.Nodup,nZ];refine qO ?_ hr
  intro a b ha hb hab;have h1:=hp a ha;have h2:=hp b hb;omega
 have hs:(l.map λx=>(fP x).toNat) ⊆ List.range 72:=λn hn'=>by
  obtain⟨x,hx,rfl⟩:=kN.1 hn';have:=hp x hx;exact jq.2 (by omega)
 have:=hn.length_le_of_subset hs;simpa using this
theorem jky{l:List eX}{o ln b:Int}(h:iI l=false):drop l o ln b=([],0,1):=by unfold drop;rw[h];rfl
theorem jhs{l:List eX}{o ln b:Int}(h:iI l=true)(hf:Ap l ⟨o,ln,b,0⟩=false):drop l o ln b=([],0,4):=by
 unfold drop;rw[h,au (by simp),aB (QA h hf)]
theorem jkx{l:List eX}{o ln b:Int}(h:iI l=true)(hf:Ap l ⟨o,ln,b,0⟩=true):drop l o ln b=(l.eraseIdx (pos l ⟨o,ln,b,0⟩),(hold l (pos l ⟨o,ln,b,0⟩)).n,0):=by
 have hk:=RF h hf;have hn:=jgP h (zB.1 hf).1;simp only at hk
 unfold drop;rw[h,au (by simp),hk,au (by omega),Za h (jhm h hf) rfl hf]
theorem joT(w:World)(v:Value)(l:List eX)(o ln b:Int)(hv:Sl iD w w v l):
  Calls prog 102 #[v,o,ln,b] w (jdU l o ln b w):=by
 have hV:=hv;obtain⟨A,c,rfl,hl,hA⟩:=hv;go_enter func102,ntmps102
 go_wp2_with fail;refine(VL _ _ _ hV).mono ?_
 rintro e W1 ⟨rfl,hb1⟩;cases hok:iI l
 ·have dw:=ah (jky (o:=o) (ln:=ln) (b:=b) hok);have hc:lV l=1:=by unfold lV;rw[hok];rfl
  rw[hc];clear hc hok;go_wp2_with fail;go_ret3
  exact⟨_,by rw[dw.O];rfl,by rw[dw.O];exact Own.nil,hb1⟩
 ·have hc:lV l=0:=Yd.2 hok;have lZ:=Uc hok;rw[hc];clear hc;have hok':=ah hok;clear hok;go_wp2_with fail;refine(jjL _ _ l ⟨o,ln,b,0⟩ (hV.grow hb1) hok'.O (by omega)).mono ?_
  rintro e W2 ⟨rfl,hb2⟩;have Ul:=fD hb1 hb2;cases hf:Ap l ⟨o,ln,b,0⟩
  ·have dw:=ah (jhs hok'.O hf);clear hf;go_wp2_with fail;go_ret3
   exact⟨_,by rw[dw.O];rfl,by rw[dw.O];exact Own.nil,Ul⟩
  ·have dw:=ah (jkx hok'.O hf);have hlt:=(zB.1 hf).1;clear hf;generalize pos l ⟨o,ln,b,0⟩=k at hlt dw ⊢
   obtain⟨jsT,MW,b0,b1,b2,b3⟩:=(hA.up Ul Ul.size).hold hlt;have hw1:IntKind.i64.wrap ((k:Int)+1)=(k:Int)+1:=by rw[jQ];omega
   have hki:(k:Int)<(l.length:Int):=by omega
   have hVd:Sl iD W2.drew W2.drew.heap.size (.slice A l.length c) l:=(hV.grow Ul).drew;have hd2:Below W2 W2 W2.drew:=(aj _ _).drew;clear b0 b1 b2 hok' hb1 hb2 hA;go_wp2_with fail;go_region_held3 (λw'=>w'.cell? ⟨iH A,l9 A+k*4+3,none⟩=some (.int .i64 (hold l k).n)) (first|exact z1|go_keep)
    (first
    |(go_at_call 143;refine(MP _ _ l hVd (by omega)).mono ?_;rintro e W9 ⟨u9,rfl,hu9,AA⟩;have hd9:=fD hd2 AA;have z1:=(hd9.cell (p:=⟨_,_,none⟩) MW).trans b3)
    |(go_at_call 152;refine(jmo _ _ u9 l k hu9 hlt (by omega)).mono ?_;rintro e W10 ⟨u10,rfl,Xy,IK,hat10⟩;have hd10:=hd9.grown IK hd9.size (λq hq=>(hu9.size q hq).1);have z1:=(hd10.cell (p:=⟨_,_,none⟩) MW).trans b3))
   go_wp2_with fail;go_ret3
   exact⟨_,by rw[dw.O];rfl,by rw[dw.O];exact Xy.from_ Ul.size,fD Ul hd10⟩
theorem add_bad{l:List eX}{h:eX}(hb:iI l=false\/lq h=false):add l h=([],1):=by
 unfold add;rcases hb with hb|hb
 ·rw[hb];rfl
 ·cases iI l
  ·rfl
  ·rw[hb];rfl
theorem jmF{l:List eX}{h:eX}(h1:iI l=true)(h2:lq h=true)(hf:Ap l h=false):add l h=(l.take (pos l h)++h::l.drop (pos l h),0):=by
 have hk:=QA h1 hf;obtain⟨k1,k2,k3⟩:=nH.1 h2;unfold add;rw[h1,h2,au (by simp),au (by simp),hk,au (by omega)]
 have e:({h with n:=0+h.n}:eX)=h:=by cases h;simp
 rw[e,jhT h1 k1 (by omega) hf]
theorem jkR{l:List eX}{h:eX}(h1:iI l=true)(h2:lq h=true)(hf:Ap l h=true)(hn:200<(hold l (pos l h)).n+h.n):add l h=([],3):=by
 have hk:=RF h1 hf;unfold add;rw[h1,h2,au (by simp),au (by simp),hk,aB hn]
theorem jkQ{l:List eX}{h:eX}(h1:iI l=true)(h2:lq h=true)(hf:Ap l h=true)(hn:(hold l (pos l h)).n+h.n<=200):
  add l h=(l.set (pos l h) {hold l (pos l h)with n:=(hold l (pos l h)).n+h.n},0):=by
 have hk:=RF h1 hf;obtain⟨f1,f2⟩:=zB.1 hf;obtain⟨e1,e2,e3⟩:=IC.1 f2;have hn1:=jgP h1 f1;have hn2:=(nH.1 h2).2;unfold add;rw[h1,h2,au (by simp),au (by simp),hk,au (by omega)]
 rw[Y9 h1 (h:={h with n:=(hold l (pos l h)).n+h.n}) (nH.1 h2).1 (by simp only;omega) (by rw[jbh];exact hf),jiF]
 simp only[e1,e2,e3]
theorem jr6(w:World)(v:Value)(l:List eX)(h:eX)(hv:Sl iD w w v l):
  Calls prog 148 #[v,uK h] w (jmI l h w):=by
 have hV:=hv;obtain⟨A,c,rfl,hl,hA⟩:=hv;have hb0:Below w w (w.alloc (nC h)):=(aj _ _).alloc (ay _) _;unfold uK;go_enter func148,ntmps148
 go_wp2_with fail;refine(VL _ _ _ (hV.grow hb0)).mono ?_
 rintro e W1 ⟨rfl,hb1⟩;have XK:=fD hb0 hb1;have hsz:=hb1.size;obtain⟨hc1,hf1⟩:=yt hb1;cases hok:iI l
 ·have dw:=ah (add_bad (h:=h) (.inl hok));have hc:lV l=1:=by unfold lV;rw[hok];rfl
  rw[hc];clear hc hok;go_wp2_with fail;go_ret2
  exact⟨_,by rw[dw.O];rfl,by rw[dw.O];exact Own.nil,XK⟩
 ·have hc:lV l=0:=Yd.2 hok;have lZ:=Uc hok;rw[hc];clear hc;have hok':=ah hok;clear hok;go_wp2_with fail;refine(XF h _).mono ?_
  rintro e W2 ⟨rfl,hb2⟩;have Gu:=fD hb1 hb2;have Ul:=fD hb0 Gu;obtain⟨hc2,hf2⟩:=yt Gu;clear hc1 hf1;cases hfi:lq h
  ·have dw:=ah (add_bad (l:=l) (.inr hfi));go_wp2_with fail;go_ret2
   exact⟨_,by rw[dw.O];rfl,by rw[dw.O];exact Own.nil,Ul⟩
  ·have jl1:=ah hfi;have hlt2:w.heap.size<W2.heap.size:=by have:=Gu.size;simp at this;omega
   go_wp2_with fail;clear hfi;refine(jjL _ _ l h (hV.grow Ul) hok'.O (by omega)).mono ?_
   rintro e W3 ⟨rfl,hb3⟩;have Rx:=fD Gu hb3;have Uk:=fD hb0 Rx;obtain⟨hc3,hf3⟩:=yt Rx;have hlt3:w.heap.size<W3.heap.size:=by have:=hb3.size;omega
   obtain⟨y0,y1,y2,y3⟩:W3.cell? w=some (.int .i64 h.aC)/\W3.cell? ⟨w.heap.size,1,none⟩=some (.int .i64 h.aK)/\W3.cell? ⟨w.heap.size,2,none⟩=some (.int .i64 h.bin)/\W3.cell? ⟨w.heap.size,3,none⟩=some (.int .i64 h.n):=
    ⟨(hc3 _ _ (by simp)).trans (by simp),(hc3 _ _ (by simp)).trans (by simp),(hc3 _ _ (by simp)).trans (by simp),(hc3 _ _ (by simp)).trans (by simp)⟩
   clear hc2 hf2 hc3 hf3 hb1 hb2 Gu hsz;have jjh:=(Sz l h).1;cases hf:Ap l h
   ·have dw:=ah (jmF hok'.O jl1.O hf);clear hf;generalize pos l h=k at dw jjh ⊢
    have hVd:Sl iD W3.drew W3.drew.heap.size (.slice A l.length c) l:=(hV.grow Uk).drew;have hd3:Below W3 W3 W3.drew:=(aj _ _).drew;have he3:Below W3 W3 (W3.drew.alloc (nC h)):=hd3.alloc (ay _) _;have hVe:=(hV.grow Uk).grow he3;have hEb:iJ (W3.drew.alloc (nC h)) W3 116 (iD h):=iJ.new W3.drew 116 (Vh h);go_wp2_with fail;go_region_held3 (λw'=>w'.cell? w=some (.int .i64 h.aC)/\w'.cell? ⟨w.heap.size,1,none⟩=some (.int .i64 h.aK)/\w'.cell? ⟨w.heap.size,2,none⟩=some (.int .i64 h.bin)/\w'.cell? ⟨w.heap.size,3,none⟩=some (.int .i64 h.n)) (first|exact⟨z1,z2,z3,z4⟩|go_keep)
     (first
     |(go_at_call 143;refine(MP _ _ l hVd (by omega)).mono ?_;rintro e W9 ⟨u9,rfl,hu9,AA⟩;have hd9:=fD hd3 AA;have z1:=(hd9.cell (p:=w) hlt3).trans y0;have z2:=(hd9.cell (p:=⟨w.heap.size,1,none⟩) hlt3).trans y1;have z3:=(hd9.cell (p:=⟨w.heap.size,2,none⟩) hlt3).trans y2;have z4:=(hd9.cell (p:=⟨w.heap.size,3,none⟩) hlt3).trans y3)
     |(go_at_call 143;refine(MP _ _ l hVe (by omega)).mono ?_;rintro e W19 ⟨u19,rfl,jrt,jo9⟩;have jjM:=fD he3 jo9;have i13:=hEb.below jo9 (by simp);have z1:=(jjM.cell (p:=w) hlt3).trans y0;have z2:=(jjM.cell (p:=⟨w.heap.size,1,none⟩) hlt3).trans y1;have z3:=(jjM.cell (p:=⟨w.heap.size,2,none⟩) hlt3).trans y2;have z4:=(jjM.cell (p:=⟨w.heap.size,3,none⟩) hlt3).trans y3)
     |(go_at_call 196;have i1:=hu9.alloc (nC h);have i2:W3.drew.heap.size<=(W9.alloc (nC h)).heap.size:=(by have:=hd9.size;simp;omega);have i3:iJ (W9.alloc (nC h)) W9 116 (iD h):=iJ.new W9 116 (Vh h);have i4:u9.ownBlock≠some W9.heap.size:=(λhq=>(Nat.lt_irrefl _ (hu9.size _ hq).2));refine(jgd _ _ u9 l h k W9 i1 jjh (by omega) i2 i3 i4).mono ?_;rintro e W10 ⟨u10,rfl,Xy,jpa⟩;have hd10:=(hd9.alloc hd9.size (nC h)).trans jpa;have z1:=(hd10.cell (p:=w) hlt3).trans y0;have z2:=(hd10.cell (p:=⟨w.heap.size,1,none⟩) hlt3).trans y1;have z3:=(hd10.cell (p:=⟨w.heap.size,2,none⟩) hlt3).trans y2;have z4:=(hd10.cell (p:=⟨w.heap.size,3,none⟩) hlt3).trans y3)
     |(go_at_call 196;have i14:u19.ownBlock≠some W3.heap.size:=(λhq=>(by have:=(jrt.size _ hq).1;simp at this;omega));refine(jgd _ _ u19 l h k W3 jrt jjh (by omega) jo9.size i13 i14).mono ?_;rintro e W10 ⟨u10,rfl,Xy,jpa⟩;have hd10:=jjM.trans (jpa.mono he3.size);have z1:=(hd10.cell (p:=w) hlt3).trans y0;have z2:=(hd10.cell (p:=⟨w.heap.size,1,none⟩) hlt3).trans y1;have z3:=(hd10.cell (p:=⟨w.heap.size,2,none⟩) hlt3).trans y2;have z4:=(hd10.cell (p:=⟨w.heap.size,3,none⟩) hlt3).trans y3))
    ·go_wp2_with fail;go_ret2
     exact⟨_,by rw[dw.O];rfl,by rw[dw.O];exact Xy.from_ Uk.size,fD Uk hd10⟩
    ·go_wp2_with fail;go_ret2
     exact⟨_,by rw[dw.O];rfl,by rw[dw.O];exact Xy.from_ (aU Uk.size he3.size),fD Uk hd10⟩
   ·have hlt:=(zB.1 hf).1;obtain⟨jsT,MW,b0,b1,b2,b3⟩:=(hA.up Uk Uk.size).hold hlt;have hn1:=jgP hok'.O hlt;have hn2:=(nH.1 jl1.O).2;have hw1:IntKind.i64.wrap ((hold l (pos l h)).n+h.n)=(hold l (pos l h)).n+h.n:=by rw[jQ];omega
    by_cases hbig:200<(hold l (pos l h)).n+h.n
    ·have dw:=ah (jkR hok'.O jl1.O hf hbig);clear hf;generalize pos l h=k at hlt dw hw1 hbig hn1 b0 b1 b2 b3 ⊢
     have hki:(k:Int)<(l.length:Int):=by omega
     clear hn1 hn2;go_wp2_with fail;go_quiet (fail)
     clear hw1;go_wp2_with fail;go_ret2
     exact⟨_,by rw[dw.O];rfl,by rw[dw.O];exact Own.nil,below_drewN Uk _⟩
    ·have hle:(hold l (pos l h)).n+h.n<=200:=by omega
     have dw:=ah (jkQ hok'.O jl1.O hf hle);clear hf hbig;generalize pos l h=k at hlt dw hw1 hle hn1 b0 b1 b2 b3 ⊢
     have hki:(k:Int)<(l.length:Int):=by omega
     go_wp2_with fail;go_quiet (fail)
     have hbq:Below W3 W3 (W3.drewN nq):=below_drewN (aj _ _) nq;go_wp2_with fail;refine(MP _ _ l ((hV.grow Uk).grow hbq) (by omega)).mono ?_
     rintro e W9 ⟨u9,rfl,hu9,AA⟩;obtain⟨g,c9,rfl,hgb,hgl⟩:=hu9.some_ (by omega)
     have hd9:=fD hbq AA;have x3:=(hd9.cell (p:=⟨w.heap.size,3,none⟩) hlt3).trans y3;have hc9:W9.cell? ⟨g,k*4+3,none⟩=some (.int .i64 (hold l k).n):=by
      rw[World.ownsRow.cellAt hu9 (k*4+3) (by omega),O8 iD 4 (λ_=>rfl) l k 3 (hold l k) (by rw[iZ hlt];simp) (by omega)]
      rfl
     have hf9:W9.frozen? ⟨g,k*4+3,none⟩=false:=World.ownsRow.frozenAt hu9 _;obtain⟨C9,jg⟩:=Own.store (y:={hold l k with n:=(hold l k).n+h.n}) (u:=.int .i64 ((hold l k).n+h.n)) hu9 (λ_=>rfl) hlt (show 3<4 by omega) (by rw[<- iZ hlt];rfl)
     have hgne:g≠w.heap.size:=by have:=hlt3;have:=hgb;simp at this;omega
     have Gs:=ah C9;have juO:=ah jg;clear C9 jg;go_wp2_with fail;go_region
     go_wp2_with fail;go_ret2
     exact⟨_,by rw[dw.O];rfl,by rw[dw.O];exact(Gs.O.from_ (aU Uk.size hbq.size)).drew,Uk.trans ((hd9.grown juO.O hd9.size (λq hq=>by cases hq;exact hgb)).drew.mono Uk.size)⟩
end
section
attribute [local go_sem] aV
theorem jin(w:World)(v:Value)(l:List eX)(o ln b n:Int)(hv:Sl iD w w v l)(hok:iI l=true)(yg:sJ o ln b):
  Calls prog 121 #[v,o,ln,b,n] w (Gives (λu w'=>Own iD 4 116 w' w u (jE l ⟨o,ln,b,n⟩)) w):=by
 obtain⟨A,c,rfl,_,hA⟩:=hv;obtain⟨x,hx⟩:∃x:eX,x=⟨o,ln,b,n⟩:=⟨_,rfl⟩;have lZ:=Uc hok;have hkx:sJ x.aC x.aK x.bin:=by rw[hx];exact yg
 have hr:=(gI.1 hok).2;have hkl:∀k,k<l.length->sJ (hold l k).aC (hold l k).aK (hold l k).bin:=λk hk=>I5 hok hk
 have ho:o=x.aC:=by rw[hx]
 have hln:ln=x.aK:=by rw[hx]
 have hbb:b=x.bin:=by rw[hx]
 have hnn:n=x.n:=by rw[hx]
 rw[<- hx];subst ho hln hbb hnn;have hb0:Below w w (w.alloc (nC x)):=(aj _ _).alloc (ay _) _;have Vp:=ah hkx;have hkl':=ah hkl;have hr':=ah hr;clear hx yg hkx hkl hr hok;go_enter func121,ntmps121
 go_wp2_with fail;obtain⟨W0,hW0⟩:∃W0,W0=w.alloc (nC x):=⟨_,rfl⟩;have hWr:w.alloc (nC x)=W0:=hW0.symm;simp only[hWr]at hb0 ⊢
 have hF:∀W,Below W0 W0 W->∀k,k<l.length->(okA A/\iH A<W.heap.size/\W.cell? ⟨iH A,l9 A+k*4,none⟩=some (.int .i64 (hold l k).aC)/\W.cell? ⟨iH A,l9 A+k*4+1,none⟩=some (.int .i64 (hold l k).aK)/\
   W.cell? ⟨iH A,l9 A+k*4+2,none⟩=some (.int .i64 (hold l k).bin)/\W.cell? ⟨iH A,l9 A+k*4+3,none⟩=some (.int .i64 (hold l k).n)):=λW hW k hk=>by
  have hB:=fD hb0 hW;exact(hA.up hB hB.size).hold hk
 have hX:∀W,Below W0 W0 W->(w.heap.size<W.heap.size/\W.cell? w=some (.int .i64 x.aC)/\W.cell? ⟨w.heap.size,1,none⟩=some (.int .i64 x.aK)/\W.cell? ⟨w.heap.size,2,none⟩=some (.int .i64 x.bin)/\W.cell? ⟨w.heap.size,3,none⟩=some (.int .i64 x.n)):=λW hW=>by
  have hsz:w.heap.size<W0.heap.size:=by rw[hW0];simp
  exact⟨aJ hsz hW.size,(hW.cell (p:=w) hsz).trans (by rw[hW0];simp),(hW.cell (p:=⟨w.heap.size,1,none⟩) hsz).trans (by rw[hW0];simp),(hW.cell (p:=⟨w.heap.size,2,none⟩) hsz).trans (by rw[hW0];simp),(hW.cell (p:=⟨w.heap.size,3,none⟩) hsz).trans (by rw[hW0];simp)⟩
 have hF':=ah hF;have hX':=ah hX;have wu:w.heap.size<=W0.heap.size:=hb0.size;clear hF hX hW0 hWr hA;have hd0:(x.n==0)=xU l x 0:=by rw[(UC l x).2,uH];simp
 rw[hd0];clear hd0;go_loopw[12,13,14] (λu d i wr=>∃k:Nat,k<=l.length/\i=.int .i64 k/\d=.bool (xU l x k)/\Own iD 4 116 wr W0.heap.size u (rC l x k)/\Below W0.heap.size W0 wr) (λ_ _ i _=>l.length - (RowKit.intOf i).toNat)
 case atStart=>exact⟨0,aN _,rfl,rfl,by rw[(UC l x).1];exact Own.nil,aj _ _⟩
 case round=>
  obtain⟨k,hk,rfl,rfl,mQ,hbw⟩:=hrel;have hwl:=Qy l x k;by_cases hlt:k<l.length
  ·have hwl1:=Qy l x (k+1);obtain⟨jsT,MW,b0,b1,b2,b3⟩:=hF'.O wr hbw k hlt;obtain⟨hBz,y0,y1,y2,y3⟩:=hX'.O wr hbw;have q0:=λo d os=>cZ (w:=wr) (b:=w.heap.size) hBz o d os
   have qA:=λo d os=>cZ (w:=wr) (b:=iH A) MW o d os
   cases hd:xU l x k
   ·rcases wR (fP (hold l k)) (fP x)with hp|hp|hp
    ·obtain⟨hw1,hd1⟩:=Oo hr'.O hlt hp;rw[hd]at hd1
     have SX:=ah hw1;have OU:=ah hd1;have hp1:¬(fP x<=fP (hold l k)):=by omega
     have hnb:(fP (hold l k)!=fP x)=true:=by simp;omega
     clear hw1 hd1 hd hp;go_wp2_with fail;refine dO (by kernel_rfl) (by kernel_rfl) ?_
     repeat(go_big_quiet_step ((go_at_call 170;refine fV (Gh _ _ (by first|exact Vp.O|exact hkl'.O k hlt)))))
     refine wpQuiet_nil ?_
     intro W2 hw';have hb2:=dN hw';clear hw';have hbw2:=fD hbw hb2;have AZ:=mQ.below hb2;clear q0 qA b0 b1 b2 b3 y0 y1 y2 y3;obtain⟨jde,Un,b0,b1,b2,b3⟩:=hF'.O W2 hbw2 k hlt;obtain⟨XL,y0,y1,y2,y3⟩:=hX'.O W2 hbw2;have q0:=λo d os=>cZ (w:=W2) (b:=w.heap.size) XL o d os
     have qA:=λo d os=>cZ (w:=W2) (b:=iH A) Un o d os
     go_wp2_with fail;refine dO (by kernel_rfl) (by kernel_rfl) ?_
     repeat(go_big_quiet_step ((go_at_call 170;refine fV (Gh _ _ (by first|exact Vp.O|exact hkl'.O k hlt)))))
     refine wpQuiet_nil ?_
     intro W5 hw';have hb5:=dN hw';clear hw';have J8:=fD hbw2 hb5;have hown5:=AZ.below hb5;clear q0 qA b0 b1 b2 b3 y0 y1 y2 y3;obtain⟨jkj,jpm,b0,b1,b2,b3⟩:=hF'.O W5 J8 k hlt;go_wp2_with (at_builtin;refine bD ?_)
     unfold Hid;refine jV _ rfl (.tmp 52) (.tmp 57) 37 116 rfl W0.heap.size _ 4 32 underlying37 yJ rfl (by decide) (by decide) _ (rC l x k) (hold l k) rfl (hown5.alloc _) W5 1 rfl rfl (Dc _ _ _) (zQ _) (by omega) (by have:=J8.size;simp;omega) ?_
     intro v7 w7 zk UU Um FY;have Ru:=(J8.alloc J8.size (nC (hold l k))).trans FY;go_wp2_with fail;go_roundw
     case rel=>exact⟨k+1,by omega,by go_num,by rw[OU.O],by rw[SX.O];exact zk,Ru⟩
     case measure=>simp[dY];omega
    ·have hw1:=jbL hlt hp hd;have hd1:=Tn hlt (show fP x<=fP (hold l k)by omega)
     have SX:=ah hw1;have OU:=ah hd1;have hnb:(fP (hold l k)!=fP x)=false:=by simp;omega
     have hp1:fP x<=fP (hold l k):=by omega
     clear hw1 hd1 hd hp;go_wp2_with fail;refine dO (by kernel_rfl) (by kernel_rfl) ?_
     repeat(go_big_quiet_step ((go_at_call 170;refine fV (Gh _ _ (by first|exact Vp.O|exact hkl'.O k hlt)))))
     refine wpQuiet_nil ?_
     intro W2 hw';have hb2:=dN hw';clear hw';have hbw2:=fD hbw hb2;have AZ:=mQ.below hb2;clear q0 qA b0 b1 b2 b3 y0 y1 y2 y3;obtain⟨jvi,y0,y1,y2,y3⟩:=hX'.O W2 hbw2;go_wp2_with (at_builtin;refine bD ?_)
     unfold Hid;refine jV _ rfl (.tmp 40) (.tmp 42) 37 116 rfl W0.heap.size _ 4 32 underlying37 yJ rfl (by decide) (by decide) _ (rC l x k) x rfl (AZ.alloc _) W2 1 rfl rfl (Dc _ _ _) (zQ x) (by omega) (by have:=hbw2.size;simp;omega) ?_
     intro v3 w3 hown3 hg3 ju0 jjZ;have hbw3:=(hbw2.alloc hbw2.size (nC x)).trans jjZ;clear y0 y1 y2 y3;obtain⟨jde,Un,b0,b1,b2,b3⟩:=hF'.O w3 hbw3 k hlt;obtain⟨XL,y0,y1,y2,y3⟩:=hX'.O w3 hbw3;have q0:=λo d os=>cZ (w:=w3) (b:=w.heap.size) XL o d os
     have qA:=λo d os=>cZ (w:=w3) (b:=iH A) Un o d os
     go_wp2_with fail;refine dO (by kernel_rfl) (by kernel_rfl) ?_
     repeat(go_big_quiet_step ((go_at_call 170;refine fV (Gh _ _ (by first|exact Vp.O|exact hkl'.O k hlt)))))
     refine wpQuiet_nil ?_
     intro W5 hw';have hb5:=dN hw';clear hw';have J8:=fD hbw3 hb5;have hown5:=hown3.below hb5;clear q0 qA b0 b1 b2 b3 y0 y1 y2 y3;go_wp2_with fail;go_roundw
     case rel=>exact⟨k+1,by omega,by go_num,by rw[OU.O],by rw[SX.O];exact hown5,J8⟩
     case measure=>simp[dY];omega
    ·have hw1:=Yz hlt hp hd;have hd1:=Tn hlt (show fP x<=fP (hold l k)by omega)
     have hwl2:(rC l x k++[x]).length<=146:=by rw[aX];simp;omega
     have SX:=ah hw1;have OU:=ah hd1;have hp1:fP x<=fP (hold l k):=by omega
     have hnb:(fP (hold l k)!=fP x)=true:=by simp;omega
     clear hw1 hd1 hd hp;go_wp2_with fail;refine dO (by kernel_rfl) (by kernel_rfl) ?_
     repeat(go_big_quiet_step ((go_at_call 170;refine fV (Gh _ _ (by first|exact Vp.O|exact hkl'.O k hlt)))))
     refine wpQuiet_nil ?_
     intro W2 hw';have hb2:=dN hw';clear hw';have hbw2:=fD hbw hb2;have AZ:=mQ.below hb2;clear q0 qA b0 b1 b2 b3 y0 y1 y2 y3;obtain⟨jvi,y0,y1,y2,y3⟩:=hX'.O W2 hbw2;go_wp2_with (at_builtin;refine bD ?_)
     unfold Hid;refine jV _ rfl (.tmp 40) (.tmp 42) 37 116 rfl W0.heap.size _ 4 32 underlying37 yJ rfl (by decide) (by decide) _ (rC l x k) x rfl (AZ.alloc _) W2 1 rfl rfl (Dc _ _ _) (zQ x) (by omega) (by have:=hbw2.size;simp;omega) ?_
     intro v3 w3 hown3 hg3 ju0 jjZ;have hbw3:=(hbw2.alloc hbw2.size (nC x)).trans jjZ;clear y0 y1 y2 y3;obtain⟨jde,Un,b0,b1,b2,b3⟩:=hF'.O w3 hbw3 k hlt;obtain⟨XL,y0,y1,y2,y3⟩:=hX'.O w3 hbw3;have q0:=λo d os=>cZ (w:=w3) (b:=w.heap.size) XL o d os
     have qA:=λo d os=>cZ (w:=w3) (b:=iH A) Un o d os
     go_wp2_with fail;refine dO (by kernel_rfl) (by kernel_rfl) ?_
     repeat(go_big_quiet_step ((go_at_call 170;refine fV (Gh _ _ (by first|exact Vp.O|exact hkl'.O k hlt)))))
     refine wpQuiet_nil ?_
     intro W5 hw';have hb5:=dN hw';clear hw';have J8:=fD hbw3 hb5;have hown5:=hown3.below hb5;clear q0 qA b0 b1 b2 b3 y0 y1 y2 y3;obtain⟨jkj,jpm,b0,b1,b2,b3⟩:=hF'.O W5 J8 k hlt;go_wp2_with (at_builtin;refine bD ?_)
     unfold Hid;refine jV _ rfl (.tmp 52) (.tmp 57) 37 116 rfl W0.heap.size _ 4 32 underlying37 yJ rfl (by decide) (by decide) _ (rC l x k++[x]) (hold l k) rfl (hown5.alloc _) W5 1 rfl rfl (Dc _ _ _) (zQ _) (by omega) (by have:=J8.size;simp;omega) ?_
     intro v7 w7 zk UU Um FY;have Ru:=(J8.alloc J8.size (nC (hold l k))).trans FY;go_wp2_with fail;go_roundw
     case rel=>exact⟨k+1,by omega,by go_num,by rw[OU.O],by rw[SX.O];exact zk,Ru⟩
     case measure=>simp[dY];omega
   ·rcases wR (fP (hold l k)) (fP x)with hp|hp|hp
    ·obtain⟨hw1,hd1⟩:=Oo hr'.O hlt hp;rw[hd]at hd1
     have SX:=ah hw1;have OU:=ah hd1;have hp1:¬(fP x<=fP (hold l k)):=by omega
     have hnb:(fP (hold l k)!=fP x)=true:=by simp;omega
     clear hw1 hd1 hd hp;go_wp2_with fail;refine dO (by kernel_rfl) (by kernel_rfl) ?_
     repeat(go_big_quiet_step ((go_at_call 170;refine fV (Gh _ _ (by first|exact Vp.O|exact hkl'.O k hlt)))))
     refine wpQuiet_nil ?_
     intro W2 hw';have hb2:=dN hw';clear hw';have hbw2:=fD hbw hb2;have AZ:=mQ.below hb2;clear q0 qA b0 b1 b2 b3 y0 y1 y2 y3;obtain⟨jde,Un,b0,b1,b2,b3⟩:=hF'.O W2 hbw2 k hlt;obtain⟨XL,y0,y1,y2,y3⟩:=hX'.O W2 hbw2;have q0:=λo d os=>cZ (w:=W2) (b:=w.heap.size) XL o d os
     have qA:=λo d os=>cZ (w:=W2) (b:=iH A) Un o d os
     go_wp2_with fail;refine dO (by kernel_rfl) (by kernel_rfl) ?_
     repeat(go_big_quiet_step ((go_at_call 170;refine fV (Gh _ _ (by first|exact Vp.O|exact hkl'.O k hlt)))))
     refine wpQuiet_nil ?_
     intro W5 hw';have hb5:=dN hw';clear hw';have J8:=fD hbw2 hb5;have hown5:=AZ.below hb5;clear q0 qA b0 b1 b2 b3 y0 y1 y2 y3;obtain⟨jkj,jpm,b0,b1,b2,b3⟩:=hF'.O W5 J8 k hlt;go_wp2_with (at_builtin;refine bD ?_)
     unfold Hid;refine jV _ rfl (.tmp 52) (.tmp 57) 37 116 rfl W0.heap.size _ 4 32 underlying37 yJ rfl (by decide) (by decide) _ (rC l x k) (hold l k) rfl (hown5.alloc _) W5 1 rfl rfl (Dc _ _ _) (zQ _) (by omega) (by have:=J8.size;simp;omega) ?_
     intro v7 w7 zk UU Um FY;have Ru:=(J8.alloc J8.size (nC (hold l k))).trans FY;go_wp2_with fail;go_roundw
     case rel=>exact⟨k+1,by omega,by go_num,by rw[OU.O],by rw[SX.O];exact zk,Ru⟩
     case measure=>simp[dY];omega
    ·have hw1:=jbK hr'.O hlt hp hd;have hd1:=Tn hlt (show fP x<=fP (hold l k)by omega)
     have SX:=ah hw1;have OU:=ah hd1;have hnb:(fP (hold l k)!=fP x)=false:=by simp;omega
     have hp1:fP x<=fP (hold l k):=by omega
     clear hw1 hd1 hd hp;go_wp2_with fail;refine dO (by kernel_rfl) (by kernel_rfl) ?_
     repeat(go_big_quiet_step ((go_at_call 170;refine fV (Gh _ _ (by first|exact Vp.O|exact hkl'.O k hlt)))))
     refine wpQuiet_nil ?_
     intro W2 hw';have hb2:=dN hw';clear hw';have hbw2:=fD hbw hb2;have AZ:=mQ.below hb2;clear q0 qA b0 b1 b2 b3 y0 y1 y2 y3;obtain⟨jde,Un,b0,b1,b2,b3⟩:=hF'.O W2 hbw2 k hlt;obtain⟨XL,y0,y1,y2,y3⟩:=hX'.O W2 hbw2;have q0:=λo d os=>cZ (w:=W2) (b:=w.heap.size) XL o d os
     have qA:=λo d os=>cZ (w:=W2) (b:=iH A) Un o d os
     go_wp2_with fail;refine dO (by kernel_rfl) (by kernel_rfl) ?_
     repeat(go_big_quiet_step ((go_at_call 170;refine fV (Gh _ _ (by first|exact Vp.O|exact hkl'.O k hlt)))))
     refine wpQuiet_nil ?_
     intro W5 hw';have hb5:=dN hw';clear hw';have J8:=fD hbw2 hb5;have hown5:=AZ.below hb5;clear q0 qA b0 b1 b2 b3 y0 y1 y2 y3;go_wp2_with fail;go_roundw
     case rel=>exact⟨k+1,by omega,by go_num,by rw[OU.O],by rw[SX.O];exact hown5,J8⟩
     case measure=>simp[dY];omega
    ·have hw1:=Yy hlt hp hd;have hd1:=Tn hlt (show fP x<=fP (hold l k)by omega)
     have SX:=ah hw1;have OU:=ah hd1;have hp1:fP x<=fP (hold l k):=by omega
     have hnb:(fP (hold l k)!=fP x)=true:=by simp;omega
     clear hw1 hd1 hd hp;go_wp2_with fail;refine dO (by kernel_rfl) (by kernel_rfl) ?_
     repeat(go_big_quiet_step ((go_at_call 170;refine fV (Gh _ _ (by first|exact Vp.O|exact hkl'.O k hlt)))))
     refine wpQuiet_nil ?_
     intro W2 hw';have hb2:=dN hw';clear hw';have hbw2:=fD hbw hb2;have AZ:=mQ.below hb2;clear q0 qA b0 b1 b2 b3 y0 y1 y2 y3;obtain⟨jde,Un,b0,b1,b2,b3⟩:=hF'.O W2 hbw2 k hlt;obtain⟨XL,y0,y1,y2,y3⟩:=hX'.O W2 hbw2;have q0:=λo d os=>cZ (w:=W2) (b:=w.heap.size) XL o d os
     have qA:=λo d os=>cZ (w:=W2) (b:=iH A) Un o d os
     go_wp2_with fail;refine dO (by kernel_rfl) (by kernel_rfl) ?_
     repeat(go_big_quiet_step ((go_at_call 170;refine fV (Gh _ _ (by first|exact Vp.O|exact hkl'.O k hlt)))))
     refine wpQuiet_nil ?_
     intro W5 hw';have hb5:=dN hw';clear hw';have J8:=fD hbw2 hb5;have hown5:=AZ.below hb5;clear q0 qA b0 b1 b2 b3 y0 y1 y2 y3;obtain⟨jkj,jpm,b0,b1,b2,b3⟩:=hF'.O W5 J8 k hlt;go_wp2_with (at_builtin;refine bD ?_)
     unfold Hid;refine jV _ rfl (.tmp 52) (.tmp 57) 37 116 rfl W0.heap.size _ 4 32 underlying37 yJ rfl (by decide) (by decide) _ (rC l x k) (hold l k) rfl (hown5.alloc _) W5 1 rfl rfl (Dc _ _ _) (zQ _) (by omega) (by have:=J8.size;simp;omega) ?_
     intro v7 w7 zk UU Um FY;have Ru:=(J8.alloc J8.size (nC (hold l k))).trans FY;go_wp2_with fail;go_roundw
     case rel=>exact⟨k+1,by omega,by go_num,by rw[OU.O],by rw[SX.O];exact zk,Ru⟩
     case measure=>simp[dY];omega
  ·obtain rfl:k=l.length:=by omega
   obtain⟨hBz,y0,y1,y2,y3⟩:=hX'.O wr hbw;cases hd:xU l x l.length
   ·have dw:=ah (jan hd);clear hd;go_wp2_with (at_builtin;refine bD ?_)
    unfold Hid;refine jV _ rfl (.tmp 61) (.tmp 63) 37 116 rfl W0.heap.size _ 4 32 underlying37 yJ rfl (by decide) (by decide) _ (rC l x l.length) x rfl (mQ.alloc _) wr 1 rfl rfl (Dc _ _ _) (zQ x) (by omega) (by have:=hbw.size;simp;omega) ?_
    intro v9 w9 jcR jg hat9 jsk;go_wp2_with fail;go_ret
    refine⟨_,rfl,?_,hb0.trans (((hbw.alloc hbw.size (nC x)).trans jsk).mono wu)⟩
    rw[dw.O];exact jcR.from_ wu
   ·have dw:=ah (jam hd);clear hd;go_wp2_with fail;go_ret
    refine⟨_,rfl,?_,hb0.trans (hbw.mono wu)⟩
    rw[dw.O];exact mQ.from_ wu
end
end Wh
