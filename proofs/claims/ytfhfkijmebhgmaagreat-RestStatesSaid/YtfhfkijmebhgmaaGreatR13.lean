/- Texts of the claim, joined. -/
import Derived.Test.YtfhfkijmebhgmaaGreatR12
set_option maxHeartbeats 20000000
set_option maxRecDepth 100000
namespace Wh
open Go Go.RowKit Go.Shelf Go.Proofs Tryz
attribute [local go_sem] aT jW jm kC
def yH(p:dA)(x:Line):Bool:=!(iK p x.dh&&cZ x.iw 1 200)
def Ku(x:Line):Bool:=!(decide (x.oh=0)&&decide (x.dP=0))
theorem Yg(p:dA)(x:Line):(iK p x.dh=false/\yH p x=true)\/(iK p x.dh=true/\x.iw<1/\yH p x=true)\/(iK p x.dh=true/\1<=x.iw/\200<x.iw/\yH p x=true)\/
  (iK p x.dh=true/\1<=x.iw/\x.iw<=200/\yH p x=false):=by
 unfold yH;have h1:=@dV x.iw 1 200;cases hw:cZ x.iw 1 200<;>cases hg:iK p x.dh<;>simp only[hw,iE,vg,uG]at h1<;>simp<;>omega
theorem Ri(x:Line):((x.oh !=0)=true/\Ku x=true)\/((x.oh !=0)=false/\(x.dP !=0)=true/\Ku x=true)\/((x.oh !=0)=false/\(x.dP !=0)=false/\Ku x=false):=by
 unfold Ku;by_cases h1:x.oh=0<;>by_cases h2:x.dP=0<;>simp[h1,h2]
section
variable {p:dA} {s:aJ} {l:List Line}
theorem Y6(h:aQ p s≠0):enter p s l=(jD,aQ p s):=by unfold enter;rw[aB h]
theorem Jq(h:aQ p s=0)(h2:4<=s.ak.length\/l.length<1\/3<l.length):enter p s l=(jD,2):=by
 unfold enter;have hw:=@dV l.length 1 3;have h3:4<=s.ak.length\/(!cZ l.length 1 3)=true:=by
  cases hh:cZ l.length 1 3
  ·exact .inr rfl
  ·have:=hw.1 hh;omega
 rw[ay (λhn=>hn h),aB h3]
theorem Ov(h:aQ p s=0)(h2:s.ak.length<4)(h3:1<=l.length/\l.length<=3)(h4:l.any (yH p)=true):enter p s l=(jD,3):=by
 unfold enter;have e:(!(l.all λx=>iK p x.dh&&cZ x.iw 1 200))=true:=by rw[<- FP];exact h4
 have hw:cZ l.length 1 3=true:=dV.2 (by omega)
 rw[ay (λhn=>hn h),hw,ay (by simp;omega),aB e]
theorem QM(h:aQ p s=0)(h2:s.ak.length<4)(h3:1<=l.length/\l.length<=3)(h4:l.any (yH p)=false)(h5:l.any Ku=true):enter p s l=(jD,1):=by
 unfold enter;have e:(!(l.all λx=>iK p x.dh&&cZ x.iw 1 200))=false:=by rw[<- FP];exact h4
 have e2:(!(l.all λx=>decide (x.oh=0)&&decide (x.dP=0)))=true:=by rw[<- FP];exact h5
 have hw:cZ l.length 1 3=true:=dV.2 (by omega)
 rw[ay (λhn=>hn h),hw,ay (by simp;omega),e,e2]
 rfl
theorem jcs(h:aQ p s=0)(h2:s.ak.length<4)(h3:1<=l.length/\l.length<=3)(h4:l.any (yH p)=false)(h5:l.any Ku=false):enter p s l=({s with ak:=s.ak++[⟨0,l⟩]},0):=by
 unfold enter;have e:(!(l.all λx=>iK p x.dh&&cZ x.iw 1 200))=false:=by rw[<- FP];exact h4
 have e2:(!(l.all λx=>decide (x.oh=0)&&decide (x.dP=0)))=false:=by rw[<- FP];exact h5
 have hw:cZ l.length 1 3=true:=dV.2 (by omega)
 rw[ay (λhn=>hn h),hw,ay (by simp;omega),e,e2]
 rfl
end
theorem jju(p:dA)(x:Line)(W:World)(B:Nat)(hz:gQ p=0)(Ab As:Option Addr)(cb cs:Nat)(h0:W.cell? ⟨B,0,none⟩=some (.slice Ab p.bQ.length cb))(h1:W.cell? ⟨B,1,none⟩=some (.slice As p.aP.length cs))(hB:B<W.heap.size)
  (hP:mW W W.heap.size (.agg #[.slice Ab p.bQ.length cb,.slice As p.aP.length cs]) p):
  Calls prog 96 #[I5 x,.pointer (some ⟨B,0,none⟩)] W λe W'=>e=.returned (.bool (yH p x))/\Below W.heap.size W W':=by
 have hb1:lV p 0=true:=yT.2 (by have:=pJ hz;omega)
 have hb0:Below W.heap.size W (W.alloc (.cells #[.int .i64 (x).dh,.int .i64 (x).iw,.int .i64 (x).oh,.int .i64 (x).dP] 44)):=(aj _ _).alloc (au _) _;unfold I5;rcases Yg p x with⟨g1,hf⟩|⟨g1,g2,hf⟩|⟨g1,g2,g3,hf⟩|⟨g1,g2,g3,hf⟩
 all_goals
  have hth:(lV p 0&&iK p x.dh)=(iK p x.dh):=by rw[hb1];rfl
  have ZY:=ah hth;clear hth;have hf':=ah hf;clear hf;go_enter func96,ntmps96
  go_wp2_with fail;refine(JI _ _ p 0 x.dh (hP.grow hb0)).mono ?_
  rintro e W1 ⟨rfl,hc1⟩;have hB:=hb0.trans (hc1.mono hb0.size);obtain⟨ha1,hf1⟩:=xH hc1;rw[ZY.O,g1];go_wp2_with fail;go_ret
  exact⟨fK (by rw[hf'.O]<;>first|rfl|(simp<;>omega)),hB⟩
theorem jer:Enters prog 96:=enters_of func96 (by kernel_rfl) rfl
theorem jlq(x:Line)(W:World):Calls prog 97 #[I5 x] W λe W'=>e=.returned (.bool (Ku x))/\Below W.heap.size W W':=by
 have hb0:Below W.heap.size W (W.alloc (.cells #[.int .i64 (x).dh,.int .i64 (x).iw,.int .i64 (x).oh,.int .i64 (x).dP] 44)):=(aj _ _).alloc (au _) _;unfold I5;rcases Ri x with⟨g1,hf⟩|⟨g1,g2,hf⟩|⟨g1,g2,hf⟩
 all_goals
  have hf':=ah hf;clear hf;go_enter func97,ntmps97
  go_wp2_with fail;go_ret
  exact⟨fK (by rw[hf'.O]),hb0⟩
theorem jeq:Enters prog 97:=enters_of func97 (by kernel_rfl) rfl
theorem jfM(w:World)(v vs vl:Value)(p:dA)(s:aJ)(l:List Line)(hp:mW w w.heap.size v p)(hv:lK w w.heap.size vs s)(hl:Sl kP w w.heap.size vl l):
  Calls prog 45 #[v,vs,vl] w (nN (enter p s l) w):=by
 have hL:=ah hl;obtain⟨Al,cl,rfl,hll,hAl⟩:=hl;clear hAl;obtain⟨Ab,cb,As,cs,rfl,hP',hBn,hSz,hlb,hls⟩:=sN hp;obtain⟨A0,c0,A1,c1,A2,c2,A3,c3,A4,c4,A5,c5,A6,c6,rfl,hV,hN,hO,hH,hM,hI,hU,hX,hl0,hl1,hl2,hl3,hl4,hl5,JA⟩:=oW hv;go_enter func45,ntmps45
 go_wp2_with fail;obtain⟨W0,hW0,hb0,lg,uZ,hsE,hK,hR⟩:=yD w p s Ab cb As cs A0 c0 A1 c1 A2 c2 A3 c3 A4 c4 A5 c5 A6 c6;rw[hW0];clear hW0;obtain⟨⟨y0,y1⟩,x0,x1,x2,x3,x4,x5,x6,eP,eU⟩:=hK.O W0 (aj W0.heap.size W0);go_wp2_with fail;clear y0 y1 x0 x1 x2 x3 x4 x5 x6 eP eU;refine(Nz _ _ _ p s (hP'.O _ hb0) (hV.O _ hb0)).mono ?_
 rintro e W1 ⟨rfl,h1⟩;have hB1:=hb0.trans (h1.mono hb0.size);obtain⟨⟨y0,y1⟩,x0,x1,x2,x3,x4,x5,x6,eP,eU⟩:=hK.O W1 (h1);by_cases hc:aQ p s=0
 ·have hc':=ah hc;have hsn:=ah (kM.1 hc).1;rw[hc];clear hc;have h4:=hsn.O.qH;by_cases Uw:s.ak.length=4
  ·have bK:=ah (Jq (l:=l) hc'.O (.inl (by omega)))
   have jiq:(s.ak.length:Int)=4:=by omega
   clear Uw h4;have fH:=hR.O _ h1;go_wp2_with (refine dB (.tmp 6) (.tmp 28) dH dH rfl fH rfl rfl (λw9 dM je=>?_))
   have dN:=Below.gB hB1 je;go_wp2_with fail;exact jo results45 dM rfl rfl (jQ bK.O dN)
  have jto:((s.ak.length:Int)==4)=false:=by simp;omega
  by_cases hl1:l.length<1
  ·have bK:=ah (Jq (p:=p) (s:=s) hc'.O (.inr (.inl hl1)));clear Uw;have fH:=hR.O _ h1;go_wp2_with (refine dB (.tmp 6) (.tmp 28) dH dH rfl fH rfl rfl (λw9 dM je=>?_))
   have dN:=Below.gB hB1 je;go_wp2_with fail;exact jo results45 dM rfl rfl (jQ bK.O dN)
  by_cases hl3:3<l.length
  ·have bK:=ah (Jq (p:=p) (s:=s) hc'.O (.inr (.inr hl3)));clear Uw;have fH:=hR.O _ h1;go_wp2_with (refine dB (.tmp 6) (.tmp 28) dH dH rfl fH rfl rfl (λw9 dM je=>?_))
   have dN:=Below.gB hB1 je;go_wp2_with fail;exact jo results45 dM rfl rfl (jQ bK.O dN)
  have ho:s.ak.length<4:=by omega
  have Z8:1<=l.length/\l.length<=3:=by omega
  clear Uw;go_wp2_with fail;clear y0 y1 x0 x1 x2 x3 x4 x5 x6 eP eU;refine(xO _ _ l 96 #[.pointer (some ⟨w.heap.size,0,none⟩)] (yH p) jer (hL.O.grow hB1) (λj _ W hW=>by
   have hW2:=h1.trans (hW.mono h1.size);obtain⟨⟨a0,a1⟩,_,_,_,_,_,_,_,_,a2⟩:=hK.O W hW2;exact jju p _ W w.heap.size hsn.O.plan Ab As cb cs a0 a1 a2 (hP'.O W (hb0.trans (hW2.mono hb0.size))))).mono ?_
  rintro e W2 ⟨rfl,h2⟩;have h02:=h1.trans (h2.mono h1.size);have hB2:=hb0.trans (h02.mono hb0.size);obtain⟨⟨y0,y1⟩,x0,x1,x2,x3,x4,x5,x6,eP,eU⟩:=hK.O W2 (h02);cases ha:l.any (yH p)
  ·have ha':=ah ha;clear ha;go_wp2_with fail;clear y0 y1 x0 x1 x2 x3 x4 x5 x6 eP eU;refine(xO _ _ l 97 #[] Ku jeq (hL.O.grow hB2) (λj _ W hW=>jlq _ W)).mono ?_
   rintro e W3 ⟨rfl,h3⟩;have h03:=h02.trans (h3.mono h02.size);have hB3:=hb0.trans (h03.mono hb0.size);obtain⟨⟨y0,y1⟩,x0,x1,x2,x3,x4,x5,x6,eP,eU⟩:=hK.O W3 (h03);cases hn:l.any Ku
   ·have bK:=ah (jcs hc'.O ho Z8 ha'.O hn);clear hn;go_wp2_with fail;clear y0 y1 x0 x1 x2 x3 x4 x5 x6 eP eU;refine(ja1 _ _ p s (hV.O _ hB3) hsn.O).mono ?_
    rintro e W5 ⟨_,rfl,⟨V5,rfl,AY⟩,h5⟩;have pq:=(AY).one;have xw:=vG (W5);go_wp2_with (refine dB (.tmp 9) (.tmp 39) dH V5 rfl xw rfl pq (λw6 lM Ib=>?_);refine aW ?_)
    unfold Hid;have sG:=qX Ib;have vT:=lM.lt;clear pq xw Ib;have hx6:=ah (Bx.of lM (AY.below sG));have h06:=h03.trans ((h5.trans (sG.mono h5.size)).mono h03.size);have Sm:=hb0.trans (h06.mono hb0.size);have hle3:w.heap.size<=W3.heap.size:=hB3.size;have jq5:W0.heap.size<=W3.heap.size:=h03.size;have zZ:W3.heap.size<=W5.heap.size:=h5.size;have jtz:W5.heap.size<w6.heap.size:=vT;clear lM AY sG h5 vT;go_wp2_with fail;refine qZ 6 [λgq _=>gq 40=.pointer (some ⟨W5.heap.size,1,none⟩),λgq _=>gq 41=V5.ak,λgq _=>gq 42=.slice Al l.length cl,λgq w'=>(λv w'=>Own kP 4 44 w' w6.heap.size v l) (gq 43) w',λgq w'=>(λv w'=>∃u,v=.agg #[.int .i64 0,u]/\Own kP 4 44 w' w6.heap.size u l) (gq 44) w',λgq w'=>(λv w'=>∃bb u,v=.slice (some ⟨bb,0,none⟩) 1 1/\w'.cell? ⟨bb,0,none⟩=some (.int .i64 0)/\w'.cell? ⟨bb,1,none⟩=some u/\bb<w'.heap.size/\Own kP 4 44 w' w6.heap.size u l) (gq 45) w'] (by kernel_rfl) (by kernel_rfl) rfl (by kernel_rfl) ?_ (λf w2 hb2 hR=>?_)
    simp only[bC,bV];refine dX.cons (iR.val rfl rfl (λgq w' hb ho hd=>?_)) ?_
    ·have e9:=ho 9 rfl;go_simp
    refine dX.cons (iR.val rfl rfl (λgq w' hb ho hd=>?_)) ?_
    ·have e40:gq 40=.pointer (some ⟨W5.heap.size,1,none⟩):=hd ⟨0,.data⟩ (by simp) rfl (by decide)
     have x1:=(hx6.O.below hb).cells.2.1;go_simp
    refine dX.cons (iR.val rfl rfl (λgq w' hb ho hd=>?_)) ?_
    ·have e2:=ho 2 rfl;go_simp
    refine dX.cons (iR.one (d:=43) (p:=(λv w'=>Own kP 4 44 w' w6.heap.size v l)) rfl rfl (λv w1 w2 h hb=>h.below hb) (λgq w' hb ho hd=>?_)) ?_
    ·have e42:gq 42=.slice Al l.length cl:=hd ⟨2,.data⟩ (by simp) rfl (by decide)
     have hl':=hL.O.grow (Sm.trans (hb.mono Sm.size));unfold iT;go_simp
     refine(Zb w' _ l hl' (by omega)).mono ?_
     rintro e w2 ⟨u,rfl,hu,hb2⟩;exact⟨u,rfl,hu.from_ hb.size,hb2⟩
    refine dX.cons (iR.one (d:=44) (p:=(λv w'=>∃u,v=.agg #[.int .i64 0,u]/\Own kP 4 44 w' w6.heap.size u l)) rfl rfl (λv w1 w2 h hb=>let ⟨u,h1,h2⟩:=h;⟨u,h1,h2.below hb⟩) (λgq w' hb ho hd=>?_)) ?_
    ·have e43:Own kP 4 44 w' w6.heap.size (gq 43) l:=hd ⟨3,.data⟩ (by simp) rfl (by decide)
     obtain⟨E,kc,s30⟩:=e43.isSlice;rw[s30]at e43
     have e':=ah e43;clear e43;unfold iT;go_simp
     exact⟨e'.O,aj _ _⟩
    refine dX.cons (iR.one (d:=45) (p:=(λv w'=>∃bb u,v=.slice (some ⟨bb,0,none⟩) 1 1/\w'.cell? ⟨bb,0,none⟩=some (.int .i64 0)/\w'.cell? ⟨bb,1,none⟩=some u/\bb<w'.heap.size/\Own kP 4 44 w' w6.heap.size u l)) rfl rfl (λv w1 w2 h hb=>let ⟨bb,u,h1,h2,h2',h3,h4⟩:=h;⟨bb,u,h1,(hb.cell (p:=⟨bb,0,none⟩) h3).trans h2,(hb.cell (p:=⟨bb,1,none⟩) h3).trans h2',aI h3 hb.size,h4.below hb⟩) (λgq w' hb ho hd=>?_)) ?_
    ·have e44:∃u,(gq 44)=.agg #[.int .i64 0,u]/\Own kP 4 44 w' w6.heap.size u l:=hd ⟨4,.data⟩ (by simp) rfl (by decide)
     obtain⟨u,e44,hu⟩:=e44;obtain⟨E,kc,s30⟩:=hu.isSlice;rw[s30]at e44 hu
     have e':=ah hu;clear hu;unfold iT;go_simp
     exact⟨e'.O.alloc _,(aj _ _).alloc (au _) _⟩
    exact dX.nil;obtain⟨r40,r41,r42,r43,r44,r45,_⟩:=hR;replace r43:Own kP 4 44 w2 w6.heap.size (f 43) l:=r43;replace r44:∃u,(f 44)=.agg #[.int .i64 0,u]/\Own kP 4 44 w2 w6.heap.size u l:=r44;replace r45:∃bb u,(f 45)=.slice (some ⟨bb,0,none⟩) 1 1/\w2.cell? ⟨bb,0,none⟩=some (.int .i64 0)/\w2.cell? ⟨bb,1,none⟩=some u/\bb<w2.heap.size/\Own kP 4 44 w2 w6.heap.size u l:=r45;simp only[kG,zB,bC,bV,eG,gW,eX,fF,fB,gV,bM,dF,dL,r40,r41,r42];clear r40 r41 r42;obtain⟨bb,u,r4,d0,d1,l4,o4⟩:=r45;simp only[r4];clear r4 r43 r44;obtain⟨E,kc,rfl⟩:=o4.isSlice;have hx2:=hx6.O.below hb2;have Uw:=uJ hx2.own.llen;refine lS _ rfl (.tmp 41) (.tmp 45) 27 42 rfl W3.heap.size _ 2 32 underlying27 O9 rfl (by decide) (by decide) V5.ak (zI s.ak V5.aH) (0,.slice E l.length kc) rfl hx2.own.ak ⟨bb,0,none⟩ 1 rfl rfl (λj x hj=>by
     rw[gU,eY];match j,hj with
     |0,hj=>exact d0.trans hj
     |1,hj=>exact d1.trans hj
     |j+2,hj=>simp[Nl]at hj) (ZJ _ rfl) (by omega) (by have:=hb2.size;omega) ?_
    intro v7 w7 yM LC Tc ET;obtain⟨hk7,Ia⟩:=hx6.O.KJ hb2 (x:=⟨0,l⟩) (o4.from_ (by omega)) (λg hg=>(o4.size g hg).1) LC yM
    obtain⟨Av,cv,hv7⟩:=yM.isSlice;simp only[aZ,dw,dY,eY]at hv7
    have h07:=h06.trans ((hb2.mono h06.size).trans (ET.mono (by omega)))
    have hT7:=hx2.ty;rw[hv7]at Ia
    rw[hv7];have Z7:=ah Ia;have jiE:=ah hk7;clear yM LC Tc hv7 d0 d1 l4 o4 hx2 Uw hk7 Ia;go_wp2_with (refine PI rfl (.tmp 47) (.tmp 46) rfl rfl Av _ cv jiE.O Z7.O hT7 rfl rfl rfl (λw8 KQ AX=>?_);refine aW ?_)
    unfold Hid;have jf9:=h07.size;have DY:=h07.trans (AX.below (B:=W0.heap.size) (λk hk=>by omega) jf9)
    have Uz:=hb0.trans (DY.mono hb0.size);obtain⟨V8,KQ⟩:∃V8,Bx w8 W3.heap.size W5.heap.size 31 [] V8 {s with ak:=s.ak++[⟨0,l⟩]}:=⟨_,KQ⟩
    have vP:=ah KQ;clear Z7 jiE KQ AX jf9;have fH:=hR.O _ DY;obtain⟨b0,b1,b2,b3,b4,b5,b6⟩:=jk.cells vP.O.uK;have lG:=dK.one vP.O.own;go_wp2_with (refine dB (.tmp 6) (.tmp 48) dH V8 rfl fH rfl lG (λw9 dM je=>?_))
    have wC:=dK.keptBy vP.O.own je fH (by decide) (by decide) (by decide) (by decide) (by decide) (by decide)
    have dN:=Below.gB Uz je;clear b0 b1 b2 b3 b4 b5 b6;go_wp2_with fail;exact jo results45 dM rfl rfl (EZ bK.O (wC.from_ hle3) dN)
   ·have bK:=ah (QM hc'.O ho Z8 ha'.O hn);clear hn;have fH:=hR.O _ h03;go_wp2_with (refine dB (.tmp 6) (.tmp 37) dH dH rfl fH rfl rfl (λw9 dM je=>?_))
    have dN:=Below.gB hB3 je;go_wp2_with fail;exact jo results45 dM rfl rfl (jQ bK.O dN)
  ·have bK:=ah (Ov hc'.O ho Z8 ha);clear ha;have fH:=hR.O _ h02;go_wp2_with (refine dB (.tmp 6) (.tmp 33) dH dH rfl fH rfl rfl (λw9 dM je=>?_))
   have dN:=Below.gB hB2 je;go_wp2_with fail;exact jo results45 dM rfl rfl (jQ bK.O dN)
 ·have hne:(aQ p s !=0)=true:=by simpa using hc
  have bK:=ah (Y6 (l:=l) hc);clear hc;have fH:=hR.O _ h1;go_wp2_with (refine dB (.tmp 6) (.tmp 15) dH dH rfl fH rfl rfl (λw9 dM je=>?_))
  have dN:=Below.gB hB1 je;go_wp2_with fail;exact jo results45 dM rfl rfl (jQ bK.O dN)
end Wh
namespace Wh
open Go Go.RowKit Go.Shelf Go.Proofs Tryz
attribute [local go_sem] aT
theorem jks{l:List dZ}{h:dZ}{k:Nat}(hk:k<=l.length)(h1:∀i,i<k->ord (hold l i) h<0)(h2:∀i,k<=i->i<l.length->0<=ord (hold l i) h):pos l h=k:=
 pos_eq hk h1 (λhk'=>h2 k (au _) hk')
theorem jg0(w:World)(v:Value)(l:List dZ)(x:dZ)(hv:Sl ig w w.heap.size v l)(hok:iD l=true)(hn:l.length<=1000000):
  Calls prog 169 #[v,um x,.func (.func 167) #[] #[]] w λe w'=>e=.returned (.tuple #[.int .i64 (pos l x),.bool (zN l x)])/\Below w.heap.size w w':=by
 obtain⟨A,c,rfl,_,hA⟩:=hv;have hless:=ah (λ(i j:Nat) (hij:i<=j) (hj:j<l.length) (h:ord (hold l j) x<0)=>jeX hok hij hj h)
 have hok':=ah hok;clear hok;have hb0:Below w.heap.size w (w.alloc (.cells #[.int .i64 (x).aC,.int .i64 (x).aG,.int .i64 (x).bin,.int .i64 (x).n] 46)):=(aj _ _).alloc (au _) _;unfold um;go_enter func169,ntmps169
 go_wp2_with fail;obtain⟨W0,hW0⟩:∃W0,W0=w.alloc (.cells #[.int .i64 (x).aC,.int .i64 (x).aG,.int .i64 (x).bin,.int .i64 (x).n] 46):=⟨_,rfl⟩;rw[<- hW0]at hb0 ⊢
 have z0:W0.cell? ⟨w.heap.size,0,none⟩=some (.int .i64 x.aC)/\W0.cell? ⟨w.heap.size,1,none⟩=some (.int .i64 x.aG)/\W0.cell? ⟨w.heap.size,2,none⟩=some (.int .i64 x.bin)/\W0.cell? ⟨w.heap.size,3,none⟩=some (.int .i64 x.n):=by rw[hW0];simp
 have hsz:w.heap.size<W0.heap.size:=by rw[hW0];simp
 clear hW0;obtain⟨z0,z1,z2,z3⟩:=z0;go_loopw[9,10,11] (λi j _ wr=>∃a b:Nat,a<=b/\b<=l.length/\i=.int .i64 a/\j=.int .i64 b/\(∀m,m<a->ord (hold l m) x<0)/\(∀m,b<=m->m<l.length->0<=ord (hold l m) x)/\Below W0.heap.size W0 wr) (λi j _ _=>(RowKit.intOf j - RowKit.intOf i).toNat)
 case atStart=>exact⟨0,l.length,aK _,au _,rfl,rfl,λm hm=>by omega,λm h1 h2=>by omega,aj _ _⟩
 case round=>
  obtain⟨a,b,hab,hbl,rfl,rfl,h1,h2,hbw⟩:=hrel;have h1':=ah h1;have h2':=ah h2;clear h1 h2;by_cases hlt:a<b
  ·have hm:(a+b) / 2<l.length:=by omega
   have hma:a<=(a+b) / 2:=by omega
   have hmb:(a+b) / 2<b:=by omega
   have hB:=hb0.trans (hbw.mono hb0.size);have hBz:w.heap.size<wr.heap.size:=aI hsz hbw.size;obtain⟨y0,y1,y2,y3⟩:wr.cell? ⟨w.heap.size,0,none⟩=some (.int .i64 x.aC)/\wr.cell? ⟨w.heap.size,1,none⟩=some (.int .i64 x.aG)/\wr.cell? ⟨w.heap.size,2,none⟩=some (.int .i64 x.bin)/\wr.cell? ⟨w.heap.size,3,none⟩=some (.int .i64 x.n):=
    ⟨(hbw.cell (p:=⟨_,_,none⟩) hsz).trans z0,(hbw.cell (p:=⟨_,_,none⟩) hsz).trans z1,(hbw.cell (p:=⟨_,_,none⟩) hsz).trans z2,(hbw.cell (p:=⟨_,_,none⟩) hsz).trans z3⟩
   obtain⟨hok,LG,b0,b1,b2,b3⟩:=(hA.up hB hB.size).hold hm;have q0:=λo d os=>bY (w:=wr) (b:=w.heap.size) hBz o d os
   have qA:=λo d os=>bY (w:=wr) (b:=jd A) LG o d os
   by_cases ho:ord (hold l ((a+b) / 2)) x<0
   ·go_wp2_with fail;refine dG (by kernel_rfl) (by kernel_rfl) ?_
    repeat(go_big_quiet_step ((go_at_call 167;refine gI (Pg (hold l ((a+b) / 2)) x _))))
    refine wpQuiet_nil ?_
    intro W2 hw';have hb2:=dD hw';clear hw';go_wp2_with fail;go_roundw
    case rel=>
     refine⟨(a+b) / 2+1,b,by omega,hbl,by go_num,rfl,λm hm=>?_,h2'.O,hbw.trans (hb2.mono hbw.size)⟩
     exact hless.O m _ (by omega) (by omega) ho
    case measure=>simp[RowKit.intOf];omega
   ·have ho':0<=ord (hold l ((a+b) / 2)) x:=by omega
    go_wp2_with fail;refine dG (by kernel_rfl) (by kernel_rfl) ?_
    repeat(go_big_quiet_step ((go_at_call 167;refine gI (Pg (hold l ((a+b) / 2)) x _))))
    refine wpQuiet_nil ?_
    intro W2 hw';have hb2:=dD hw';clear hw';go_wp2_with fail;go_roundw
    case rel=>
     refine⟨a,(a+b) / 2,by omega,by omega,rfl,by go_num,h1'.O,λm hm hml=>?_,hbw.trans (hb2.mono hbw.size)⟩
     exact Int.not_lt.1 λhn=>by have:=hless.O _ m hm hml hn;omega
    case measure=>simp[RowKit.intOf];omega
  ·obtain rfl:a=b:=by omega
   have wK:pos l x=a:=jks hbl h1'.O h2'.O;have hpos':=ah wK;have hB:=hb0.trans (hbw.mono hb0.size);by_cases hal:a<l.length
   ·have hBz:w.heap.size<wr.heap.size:=aI hsz hbw.size;obtain⟨y0,y1,y2,y3⟩:wr.cell? ⟨w.heap.size,0,none⟩=some (.int .i64 x.aC)/\wr.cell? ⟨w.heap.size,1,none⟩=some (.int .i64 x.aG)/\wr.cell? ⟨w.heap.size,2,none⟩=some (.int .i64 x.bin)/\wr.cell? ⟨w.heap.size,3,none⟩=some (.int .i64 x.n):=
     ⟨(hbw.cell (p:=⟨_,_,none⟩) hsz).trans z0,(hbw.cell (p:=⟨_,_,none⟩) hsz).trans z1,(hbw.cell (p:=⟨_,_,none⟩) hsz).trans z2,(hbw.cell (p:=⟨_,_,none⟩) hsz).trans z3⟩
    obtain⟨hok,LG,b0,b1,b2,b3⟩:=(hA.up hB hB.size).hold hal;have q0:=λo d os=>bY (w:=wr) (b:=w.heap.size) hBz o d os
    have qA:=λo d os=>bY (w:=wr) (b:=jd A) LG o d os
    have hf:=ah (show zN l x=(ord (hold l a) x==0)by
     unfold zN;rw[wK,iG hal,lQ];rw[uj];simp)
    clear wK;go_wp2_with fail;refine dG (by kernel_rfl) (by kernel_rfl) ?_
    repeat(go_big_quiet_step ((go_at_call 167;refine gI (Pg (hold l a) x _))))
    refine wpQuiet_nil ?_
    intro W2 hw';have hb2:=dD hw';clear hw';go_wp2_with fail;go_ret2
    exact⟨jdj (by rw[hpos'.O];rfl) (by rw[hf.O];rfl),hB.trans (hb2.mono hB.size)⟩
   ·have hf:=ah (show zN l x=false by
     unfold zN;rw[wK,fA hal,uY])
    obtain rfl:a=l.length:=by omega
    clear wK hal;go_wp2_with fail;refine dG (by kernel_rfl) (by kernel_rfl) ?_
    repeat(go_big_quiet_step ((go_at_call 167;refine gI (Pg (hold l a) x _))))
    refine wpQuiet_nil ?_
    intro W2 hw';have hb2:=dD hw';clear hw';go_wp2_with fail;go_ret2
    exact⟨jdj (by rw[hpos'.O];rfl) (by rw[hf.O];rfl),hB.trans (hb2.mono hB.size)⟩
theorem jiM(w:World)(v:Value)(l:List dZ)(x:dZ)(hv:Sl ig w w.heap.size v l)(hok:iD l=true)(hn:l.length<=1000000):
  Calls prog 154 #[v,um x] w λe w'=>e=.returned (.tuple #[.int .i64 (pos l x),.bool (zN l x)])/\Below w.heap.size w w':=by
 have hV:=hv;obtain⟨A,c,rfl,hl,hA⟩:=hv;have hok':=ah hok;clear hok;have hb0:Below w.heap.size w (w.alloc (.cells #[.int .i64 (x).aC,.int .i64 (x).aG,.int .i64 (x).bin,.int .i64 (x).n] 46)):=(aj _ _).alloc (au _) _;unfold um;go_enter func154,ntmps154
 go_wp2_with fail;refine(jg0 _ _ l x (hV.grow hb0) hok'.O hn).mono ?_
 rintro e W1 ⟨rfl,hb1⟩;go_wp2_with fail;go_ret2
 exact⟨jdj rfl rfl,hb0.trans (hb1.mono hb0.size)⟩
end Wh
namespace Wh
open Go Go.RowKit Go.Shelf Go.Proofs Tryz
attribute [local go_sem] aT
theorem jbJ{α:Type}(enc:α->List Value)(l:List α)(k:Nat)(x:α):(l.take k++x::l.drop k).flatMap enc=(l.take k).flatMap enc++enc x++(l.drop k).flatMap enc:=by
 simp
theorem Gm{α:Type}(l:List α)(k:Nat)(x:α)(h:k<=l.length):(l.take k++x::l.drop k).length=l.length+1:=by
 simp;omega
def Pv(aO:Nat)(w:World)(l:List dZ)(e:Ending)(w':World):Prop:=∃v',e=.returned v'/\Own ig 4 46 w' aO v' l/\Below aO w w'
theorem jm6(w:World)(aO:Nat)(v:Value)(l:List dZ)(x:dZ)(vb:Nat)(lC:Own ig 4 46 w aO v l)(hn:l.length<=100000)(rV:aO<=w.heap.size)(hx:iV w vb 46 (ig x)):
  Calls prog 165 #[v,.int .i64 l.length,.slice (some ⟨vb,0,none⟩) 1 1] w (Pv aO w (l++[x])):=by
 have hcx:∀j u,(ig x)[j]?=some u->w.cell? ((⟨vb,0,none⟩:Addr).add j)=some u:=λj u hj=>by rw[gU,eY];exact hx.cell hj
 obtain⟨A,c,rfl⟩:=lC.isSlice;by_cases h0:l.length=0
 ·obtain rfl:l=[]:=mP h0;have hA:A=none\/∃g cap,A=some ⟨g,0,none⟩/\c=cap:=by
   rcases lC.2 with⟨h1,_⟩|⟨g,cap,cur,h1,_⟩
   ·left;simp at h1;exact h1.1
   ·right;simp at h1;exact⟨g,cap,h1.1,h1.2⟩
  have hcap:c<=9223372036854775807:=by
   rcases lC.2 with⟨h1,_⟩|⟨g,cap,cur,h1,_,_,_,h5,_⟩
   ·simp at h1;omega
   ·simp at h1;unfold maxLen at h5;omega
  rcases hA with rfl|⟨g,cap,rfl,rfl⟩
  all_goals
   go_enter func165,ntmps165
   go_wp2_with (at_builtin;refine aW ?_)
   all_goals
    unfold Hid;refine lS _ rfl (.tmp 23) (.tmp 24) 28 46 rfl aO _ 4 32 underlying28 yc rfl (by decide) (by decide) _ [] x rfl lC ⟨vb,0,none⟩ 1 rfl rfl hcx (zu x) (by simp) rV ?_
    intro v1 w1 yj hg1 jb7 FC;go_wp2_with fail;go_ret
    exact⟨_,rfl,yj,FC⟩
 ·obtain⟨g,cap,cur,hv,hbg,hg,hlc,hcm,hcs,htake⟩:=lC.row (by omega)
  injection hv with h1 h2 h3
  subst h1 h3;have hcm':c<=9223372036854775807:=by unfold maxLen at hcm;omega
  have hg':=ah hg;clear hcm hcs htake hg;have hce:c=l.length\/l.length<c:=by omega
  rcases hce with rfl|hce
  all_goals
   go_enter func165,ntmps165
   go_wp2_with (at_builtin;refine aW ?_)
   unfold Hid;refine lS _ rfl (.tmp 23) (.tmp 24) 28 46 rfl aO _ 4 32 underlying28 yc rfl (by decide) (by decide) _ l x rfl lC ⟨vb,0,none⟩ 1 rfl rfl hcx (zu x) (by omega) rV ?_
   intro v1 w1 yj hg1 jb7 FC;go_wp2_with fail;go_ret
   exact⟨_,rfl,yj,FC⟩
theorem jkH(w:World)(aO:Nat)(l:List dZ)(x:dZ)(k g vb:Nat)(cur:List Value)(hk:k<l.length)(hn:l.length<=100000)(rV:aO<=w.heap.size)
  (hg:iV w g 46 cur) (htake:cur=l.flatMap ig) (hx:iV w vb 46 (ig x)):
  Calls prog 165 #[.slice (some ⟨g,0,none⟩) l.length l.length,.int .i64 k,.slice (some ⟨vb,0,none⟩) 1 1] w (Pv aO w (l.take k++x::l.drop k)):=by
 have hk4:∀x,(ig x).length=4:=λ_=>rfl
 obtain⟨i0,hi0,hz0,lg,jiQ⟩:=yc;have hcx:∀j u,(ig x)[j]?=some u->w.cell? ((⟨vb,0,none⟩:Addr).add j)=some u:=λj u hj=>by rw[gU,eY];exact hx.cell hj
 obtain⟨G,hG⟩:∃G,G=grownCap w (l.length+1) l.length 46:=⟨_,rfl⟩;have hGn:l.length+1<=G:=by rw[hG];exact grownCap_ge w _ _ _
 have hGm:G<=maxLen:=by rw[hG];exact grownCap_le_maxLen w _ _ _ (by unfold maxLen;omega)
 have hG63:G<=9223372036854775807:=by unfold maxLen at hGm;omega
 have hzl:∀n,(Builtin.zeroCells #[.int .i64 0,.int .i64 0,.int .i64 0,.int .i64 0] n).toList.length=n*4:=λn=>by rw[nG];exact xK _ n
 obtain⟨R,hR⟩:∃R:List Value,R=(l.take k).flatMap ig++(Builtin.zeroCells #[.int .i64 0,.int .i64 0,.int .i64 0,.int .i64 0] (l.length+1 - k)).toList++(Builtin.zeroCells #[.int .i64 0,.int .i64 0,.int .i64 0,.int .i64 0] (G - (l.length+1))).toList:=⟨_,rfl⟩;have hRl:R.length=G*4:=by
  rw[hR,aZ,aZ,kL ig 4 hk4,bT,hzl,hzl];omega
 have hold:(Builtin.firstCells i0.size k (.slice (some ⟨g,0,none⟩) k l.length)).run prog w.drew=.ok ((l.take k).flatMap ig).toArray w.drew:=by
  rw[lg];exact qP w.drew 4 k ⟨g,0,none⟩ k l.length ((l.take k).flatMap ig) (by rw[kL ig 4 hk4,bT];omega) (λj v hj=>by
   rw[gU,eY];refine hg.drew.cell ?_
   rw[<- Gv ig 4 hk4,gJ]at hj
   split at hj
   ·rw[htake];exact hj
   ·cases hj)
 have hrz:∀ty,(Builtin.append_ #[28,3] ty #[.slice (some ⟨g,0,none⟩) k l.length,.int .i64 ((l.length:Int)+1 - (k:Int))]).run prog w=
   .ok (.slice (some ⟨w.heap.size,0,none⟩) (l.length+1) G) (w.drew.alloc (.cells R.toArray 46)):=λty=>by
  have h:=Lib.run_append_grow_zeros w 28 3 ty 46 i0 _ .i64 .i64 underlying28 underlying3 hi0 hz0 (some ⟨g,0,none⟩) k l.length ((l.take k).flatMap ig) hold (l.length+1 - k) (by omega) (by omega) (by omega) (by omega) (by rw[jiQ];omega)
   (by rw[jiQ,show k+(l.length+1 - k)=l.length+1 by omega];exact growslice_fits (by omega) (by omega))
  rw[show k+(l.length+1 - k)=l.length+1 by omega,<- hG,show((l.length+1 - k:Nat):Int)=(l.length:Int)+1 - (k:Int)by omega]at h
  rw[h,hR];congr 3
  apply Array.ext';simp[Value.cells]
 obtain⟨W1,hW1⟩:∃W1,W1=w.drew.alloc (.cells R.toArray 46):=⟨_,rfl⟩;rw[<- hW1]at hrz
 have hN:iV W1 w.heap.size 46 R:=by rw[hW1];exact iV.new w.drew _ R.toArray
 have hgW:iV W1 g 46 cur:=by
  rw[hW1];exact hg.drew.alloc _
 have hxW:iV W1 vb 46 (ig x):=by
  rw[hW1];exact hx.drew.alloc _
 have hs4:(prog.info? 46).map (·.size)=some 4:=by rw[hi0];simp[lg]
 have hR1:(spl R (k*4) (ig x)).length=R.length:=zG (by rw[hk4,hRl];omega)
 have hcp1:∀ty,(Builtin.copy_ #[28,28] ty #[.slice (some ⟨w.heap.size,k*4,none⟩) (l.length+1 - k) (G - k),.slice (some ⟨vb,0,none⟩) 1 1]).run prog W1=.ok (goInt 1) (W1.setRow w.heap.size (spl R (k*4) (ig x)).toArray):=λty=>
  Il (P:=prog) W1 _ _ ty 46 4 w.heap.size (k*4) _ _ ⟨vb,0,none⟩ 1 1 R 46 (ig x) underlying28 hs4 hN 1 (by simp only[Az];split<;>omega) (hk4 x) (λj u hj=>by rw[gU,eY];exact hxW.cell hj) (by rw[hk4,hRl];omega) (zu x)
 obtain⟨W2,hW2⟩:∃W2,W2=W1.setRow w.heap.size (spl R (k*4) (ig x)).toArray:=⟨_,rfl⟩;rw[<- hW2]at hcp1
 have hN2:iV W2 w.heap.size 46 (spl R (k*4) (ig x)):=by rw[hW2];exact hN.row _
 have jrf:iV W2 g 46 cur:=by rw[hW2];exact hgW.other (by have:=hg.lt;omega) _
 have hds:(l.drop k).flatMap ig=cur.drop (k*4):=by rw[htake,IL ig 4 hk4]
 have hdl:((l.drop k).flatMap ig).length=(l.length - k)*4:=by rw[kL ig 4 hk4,fQ]
 have hcp2:∀(W:World),W.heap=W2.heap->∀ty,(Builtin.copy_ #[28,28] ty #[.slice (some ⟨w.heap.size,(k+1)*4,none⟩) (l.length+1 - (k+1)) (G - (k+1)),.slice (some ⟨g,k*4,none⟩) (l.length - k) (l.length - k)]).run prog W=
   .ok (goInt (l.length - k:Nat)) (W.setRow w.heap.size (spl (spl R (k*4) (ig x)) ((k+1)*4) ((l.drop k).flatMap ig)).toArray):=λW hW ty=>
  Il (P:=prog) W _ _ ty 46 4 w.heap.size ((k+1)*4) _ _ ⟨g,k*4,none⟩ _ _ (spl R (k*4) (ig x)) 46 ((l.drop k).flatMap ig) underlying28 hs4 (by unfold iV;rw[hW];exact hN2) (l.length - k) (by simp only[Az];split<;>omega) hdl
   (λj u hj=>by
    rw[gU];have jtQ:iV W g 46 cur:=by unfold iV;rw[hW];exact jrf
    refine jtQ.cell ?_
    rw[hds,mO]at hj
    exact hj)
   (by rw[hdl,hR1,hRl];omega) (λu hu=>by
    obtain⟨y,_,hy⟩:=oL.1 hu;exact zu y u hy)
 have bK:∀(W:World),W.heap=W2.heap->W.os=W2.os->W.tape=W2.tape->W.output=W2.output->Pv aO w (l.take k++x::l.drop k) (.returned (.slice (some ⟨w.heap.size,0,none⟩) (l.length+1) G)) (W.setRow w.heap.size (spl (spl R (k*4) (ig x)) ((k+1)*4) ((l.drop k).flatMap ig)).toArray):=by
  intro W hW e1 e2 e3;have hNW:iV W w.heap.size 46 (spl R (k*4) (ig x)):=by unfold iV;rw[hW];exact hN2
  refine⟨_,rfl,?_,?_⟩
  ·rw[show l.length+1=(l.take k++x::l.drop k).length from(Gm l k x (by omega)).symm]
   refine Own.NH hk4 rV (hNW.row _) (by rw[Gm l k x (by omega)];omega) hGm (by rw[zG (by rw[hdl,hR1,hRl];omega),hR1,hRl]) ?_
   rw[Gm l k x (by omega),jbJ,show(l.length+1)*4=(k+1)*4+((l.drop k).flatMap ig).length by rw[hdl];omega,Zr (by rw[hR1,hRl];omega)]
   rw[show(k+1)*4=k*4+(ig x).length by rw[hk4];omega,Zr (by rw[hRl];omega),hR,eH,eH,oG (by rw[kL ig 4 hk4,bT];omega),kN (by rw[kL ig 4 hk4,bT];omega),eH]
  ·have b1:Below aO w W2:=by
    rw[hW2,hW1];exact DL ((((aj aO w).drew).alloc rV _)) rV _
   have b2:Below aO w W:=⟨e1.trans b1.os,e2.trans b1.tape,e3.trans b1.output,by rw[hW];exact b1.size,λq hq=>by rw[hW];exact b1.block q hq⟩
   exact DL b2 rV _
 have Hg:=ah bK;have jri:∀(W:World),W=W1->∀ty,(Builtin.copy_ #[28,28] ty #[.slice (some ⟨w.heap.size,k*4,none⟩) (l.length+1 - k) (G - k),.slice (some ⟨vb,0,none⟩) 1 1]).run prog W=.ok (goInt 1) W2:=λW hW ty=>by rw[hW];exact hcp1 ty
 have hW1':w.drew.alloc (.cells R.toArray 46)=W1:=hW1.symm;have hw1:IntKind.i64.wrap ((k:Int)+1)=(k:Int)+1:=by rw[jY];omega
 have hb1:(0:Int)<=(k:Int)+1:=by omega
 have hb2:(k:Int)+1<=(l.length:Int)+1:=by omega
 have hb3:(k:Int)<=(l.length:Int):=by omega
 have htn:((k:Int)+1).toNat=k+1:=by omega
 have hGk:¬(G=k):=by omega
 have juj:¬(G=k+1):=by omega
 have hlk:¬(l.length=k):=by omega
 have hkl:¬((k:Int)=(l.length:Int)):=by omega
 clear bK hcp1 hW1 hW2 hN hgW hxW hN2 jrf hds hdl hR1 hRl hR hold hG hGm hi0 htake hcx hg hx hs4;go_enter func165,ntmps165
 go_wp2_with (first
  |(at_builtin;refine Lib.wpList_append_run _ rfl _ _ _ _ rfl _ _ rfl rfl _ _ (hrz _) ?_)
  |(refine Ns _ rfl _ _ 28 28 rfl _ _ rfl rfl (jri _ rfl _) ?_))
 go_region_law (refine QY _ rfl (.tmp 50) (.tmp 53) 28 28 rfl (.slice (some ⟨w.heap.size,(k+1)*4,none⟩) (l.length+1 - (k+1)) (G - (k+1))) (.slice (some ⟨g,k*4,none⟩) (l.length - k) (l.length - k)) (by simp[Act.eval,Act.put]) (by simp[Act.eval,Act.put]) (hcp2 W2.drew rfl _) ?_)
 go_wp2_with fail;go_ret
 exact Hg.O W2.drew rfl rfl rfl rfl
theorem jgY{L:List Value}{o:Nat}{cs:List Value}(h:o<=L.length):(spl L o cs).drop o=cs++L.drop (o+cs.length):=by
 unfold spl;rw[eH,List.drop_append_of_le_length (by rw[bT];omega),Ae (by rw[bT];omega),iy]
theorem jhX(w:World)(aO:Nat)(l:List dZ)(x:dZ)(k g vb cap:Nat)(cur:List Value)(hk:k<l.length)(hn:l.length<=100000)(hbg:aO<=g)(hroom:l.length+1<=cap)(hcm:cap<=maxLen)(hvb:vb≠g)
  (hg:iV w g 46 cur) (hcs:cur.length=cap*4) (htake:cur.take (l.length*4)=l.flatMap ig) (hx:iV w vb 46 (ig x)):
  Calls prog 165 #[.slice (some ⟨g,0,none⟩) l.length cap,.int .i64 k,.slice (some ⟨vb,0,none⟩) 1 1] w (Pv aO w (l.take k++x::l.drop k)):=by
 have hk4:∀x,(ig x).length=4:=λ_=>rfl
 obtain⟨i0,hi0,hz0,lg,jiQ⟩:=yc;have hs4:(prog.info? 46).map (·.size)=some 4:=by rw[hi0];simp[lg]
 have hcap63:cap<=9223372036854775807:=by unfold maxLen at hcm;omega
 obtain⟨D,hD⟩:∃D,D=(l.drop k).flatMap ig:=⟨_,rfl⟩;have hDl:D.length=(l.length - k)*4:=by rw[hD,kL ig 4 hk4,fQ]
 have hD1:∀u∈D,u.oneCell'=true:=λu hu=>by
  rw[hD]at hu
  obtain⟨y,_,hy⟩:=oL.1 hu;exact zu y u hy
 have hov:∀lb cb,(callFunc 181 #[.slice (some ⟨vb,0,none⟩) 1 1,.slice (some ⟨g,(k+1)*4,none⟩) lb cb]).run prog w=.ok (.value (.bool false)) w:=λlb cb=>by
  rw[run_callFunc_extern (fn:=f181) (by kernel_rfl) (by kernel_rfl) (by kernel_rfl) (by kernel_rfl) (e:=Extern.SlicesOverlaps.overlaps #[28,28] #[4]) (by kernel_rfl),Lib.run_overlaps_apart w 28 4 46 underlying28 4 sizeOf46 ⟨vb,0,none⟩ ⟨g,(k+1)*4,none⟩ 1 1 lb cb hvb _ _ _ _ hx.shape hg.shape (by rw[hcs];omega) (hx.frozen _) (hx.frozen _)]
  rfl
 have hsrc:∀j v,D[j]?=some v->w.drew.cell? ((⟨g,k*4,none⟩:Addr).add j)=some v:=λj v hj=>by
  rw[gU];refine hg.drew.cell ?_
  rw[hD,<- IL ig 4 hk4,<- htake,mO,gJ]at hj
  split at hj
  ·exact hj
  ·cases hj
 have hcp1:∀ty,(Builtin.copy_ #[28,28] ty #[.slice (some ⟨g,(k+1)*4,none⟩) (l.length+1 - (k+1)) (cap - (k+1)),.slice (some ⟨g,k*4,none⟩) (l.length+1 - k) (cap - k)]).run prog w.drew=
   .ok (goInt (l.length - k:Nat)) (w.drew.setRow g (spl cur ((k+1)*4) D).toArray):=λty=>
  Il (P:=prog) w.drew _ _ ty 46 4 g ((k+1)*4) _ _ ⟨g,k*4,none⟩ _ _ cur 46 D underlying28 hs4 hg.drew (l.length - k) (by simp only[Az];split<;>omega) hDl hsrc (by rw[hDl,hcs];omega) hD1
 obtain⟨W1,hW1⟩:∃W1,W1=w.drew.setRow g (spl cur ((k+1)*4) D).toArray:=⟨_,rfl⟩;rw[<- hW1]at hcp1
 have hM:(spl cur ((k+1)*4) D).length=cap*4:=by rw[zG (by rw[hDl,hcs];omega),hcs]
 have hg1:iV W1 g 46 (spl cur ((k+1)*4) D):=by rw[hW1];exact hg.drew.row _
 have hx1:iV W1 vb 46 (ig x):=by rw[hW1];exact hx.drew.other hvb _
 have hcp2:∀ty,(Builtin.copy_ #[28,28] ty #[.slice (some ⟨g,k*4,none⟩) (l.length+1 - k) (cap - k),.slice (some ⟨vb,0,none⟩) 1 1]).run prog W1=.ok (goInt 1) (W1.setRow g (spl (spl cur ((k+1)*4) D) (k*4) (ig x)).toArray):=λty=>
  Il (P:=prog) W1 _ _ ty 46 4 g (k*4) _ _ ⟨vb,0,none⟩ 1 1 _ 46 (ig x) underlying28 hs4 hg1 1 (by simp only[Az];split<;>omega) (hk4 x) (λj u hj=>by rw[gU,eY];exact hx1.cell hj) (by rw[hk4,hM];omega) (zu x)
 have bK:Pv aO w (l.take k++x::l.drop k) (.returned (.slice (some ⟨g,0,none⟩) (l.length+1) cap)) (W1.setRow g (spl (spl cur ((k+1)*4) D) (k*4) (ig x)).toArray):=by
  refine⟨_,rfl,?_,?_⟩
  ·rw[show l.length+1=(l.take k++x::l.drop k).length from(Gm l k x (by omega)).symm]
   refine Own.NH hk4 hbg (hg1.row _) (by rw[Gm l k x (by omega)];omega) hcm (by rw[zG (by rw[hk4,hM];omega),hM]) ?_
   rw[Gm l k x (by omega),jbJ]
   have e1:spl (spl cur ((k+1)*4) D) (k*4) (ig x)=(cur.take (k*4)++ig x)++(D++cur.drop ((k+1)*4+D.length)):=by
    have a1:spl (spl cur ((k+1)*4) D) (k*4) (ig x)=(spl cur ((k+1)*4) D).take (k*4)++ig x++(spl cur ((k+1)*4) D).drop (k*4+(ig x).length):=rfl;have a2:(spl cur ((k+1)*4) D).take (k*4)=cur.take (k*4):=by
     have:(spl cur ((k+1)*4) D).take (k*4)=((spl cur ((k+1)*4) D).take ((k+1)*4)).take (k*4):=by rw[oC,jS (by omega)]
     rw[this,Zq (by rw[hcs];omega),oC,jS (by omega)]
    rw[a1,a2,hk4,show k*4+4=(k+1)*4 by omega,jgY (by rw[hcs];omega)]
   have e2:cur.take (k*4)=(l.take k).flatMap ig:=by
    have:cur.take (k*4)=(cur.take (l.length*4)).take (k*4):=by rw[oC,jS (by omega)]
    rw[this,htake,Gv ig 4 hk4]
   rw[e1,e2,<- eH,oG (by simp only[aZ,hDl,kL ig 4 hk4,bT,hk4];omega),kN (by simp only[aZ,hDl,kL ig 4 hk4,bT,hk4];omega),hD]
  ·rw[hW1];exact DL (DL (aj aO w).drew hbg _) hbg _
 have Hg:=ah bK;have hw1:IntKind.i64.wrap ((k:Int)+1)=(k:Int)+1:=by rw[jY];omega
 have hb1:(0:Int)<=(k:Int)+1:=by omega
 have hb2:(k:Int)+1<=(l.length:Int)+1:=by omega
 have hb3:(k:Int)<=(l.length:Int):=by omega
 have hb4:(k:Int)<=(l.length:Int)+1:=by omega
 have htn:((k:Int)+1).toNat=k+1:=by omega
 have hGk:¬(cap=k):=by omega
 have juj:¬(cap=k+1):=by omega
 have hkl:¬((k:Int)=(l.length:Int)):=by omega
 clear bK hW1 hg1 hx1 hD hDl hD1 hsrc hM hi0 htake hcs hg hx hs4 hcm;go_enter func165,ntmps165
 go_wp2_with (simp only[hov]);go_region_law (refine QY _ rfl (.tmp 73) (.tmp 76) 28 28 rfl (.slice (some ⟨g,(k+1)*4,none⟩) (l.length+1 - (k+1)) (cap - (k+1))) (.slice (some ⟨g,k*4,none⟩) (l.length+1 - k) (cap - k)) (by simp[Act.eval,Act.put]) (by simp[Act.eval,Act.put]) (hcp1 _) ?_)
 go_wp2_with (refine Ns _ rfl _ _ 28 28 rfl _ _ rfl rfl (hcp2 _) ?_)
 go_ret
 exact Hg.O
theorem jfb(w:World)(aO:Nat)(v:Value)(l:List dZ)(x:dZ)(k vb:Nat)(lC:Own ig 4 46 w aO v l)(hk:k<=l.length)(hn:l.length<=100000)(rV:aO<=w.heap.size)(hx:iV w vb 46 (ig x))(hvb:v.ownBlock≠some vb):
  Calls prog 165 #[v,.int .i64 k,.slice (some ⟨vb,0,none⟩) 1 1] w (Pv aO w (l.take k++x::l.drop k)):=by
 rcases pF hk with hlt|rfl
 ·obtain⟨g,cap,cur,rfl,hbg,hg,hlc,hcm,hcs,htake⟩:=lC.row (by omega)
  rcases pF hlc with h1|rfl
  ·exact jhX w aO l x k g vb cap cur hlt hn hbg h1 hcm (λe=>hvb (by rw[e];rfl)) hg hcs htake hx
  ·exact jkH w aO l x k g vb cur hlt hn rV hg (by rw[<- htake,kN (by omega)]) hx
 ·have h:=jm6 w aO v l x vb lC hn rV hx;rw[fG,wS];exact h
end Wh
namespace Wh
open Go Go.RowKit Go.Shelf Go.Proofs Tryz
attribute [local go_sem] aT
def jcP(l:List dZ)(o ln b:Int)(w:World)(e:Ending)(w':World):Prop:=
 ∃v,e=.returned (.tuple #[v,.int .i64 (drop l o ln b).2.1,.int .i64 (drop l o ln b).2.2])/\Own ig 4 46 w' w.heap.size v (drop l o ln b).1/\Below w.heap.size w w'
def jlK(l:List dZ)(h:dZ)(w:World)(e:Ending)(w':World):Prop:=
 ∃v,e=.returned (.tuple #[v,.int .i64 (add l h).2])/\Own ig 4 46 w' w.heap.size v (add l h).1/\Below w.heap.size w w'
theorem SG{l:List dZ}(h:iD l=true):l.length<=72:=by
 have hr:=(gG.1 h).2;have hf:=(gG.1 h).1;have hp:∀x∈l,0<=fP x/\fP x<72:=λx hx=>by
  have:=(nI.1 (hf x hx)).1;unfold sD at this
  unfold fP;omega
 have hn:(l.map λx=>(fP x).toNat).Nodup:=by
  rw[List.Nodup,nY];refine qN ?_ hr
  intro a b ha hb hab;have h1:=hp a ha;have h2:=hp b hb;omega
 have hs:(l.map λx=>(fP x).toNat) ⊆ List.range 72:=λn hn'=>by
  obtain⟨x,hx,rfl⟩:=kV.1 hn';have:=hp x hx;exact gZ.2 (by omega)
 have:=hn.length_le_of_subset hs;simpa using this
theorem jjx{l:List dZ}{o ln b:Int}(h:iD l=false):drop l o ln b=([],0,1):=by unfold drop;rw[h];rfl
theorem jgv{l:List dZ}{o ln b:Int}(h:iD l=true)(hf:zN l ⟨o,ln,b,0⟩=false):drop l o ln b=([],0,4):=by
 unfold drop;rw[h,ay (by simp),aB (PO h hf)]
theorem jjw{l:List dZ}{o ln b:Int}(h:iD l=true)(hf:zN l ⟨o,ln,b,0⟩=true):drop l o ln b=(l.eraseIdx (pos l ⟨o,ln,b,0⟩),(hold l (pos l ⟨o,ln,b,0⟩)).n,0):=by
 have hk:=QI h hf;have hn:=jfS h (yV.1 hf).1;simp only at hk
 unfold drop;rw[h,ay (by simp),hk,ay (by omega),Yk h (jgo h hf) rfl hf]
theorem jnO(w:World)(v:Value)(l:List dZ)(o ln b:Int)(hv:Sl ig w w.heap.size v l):
  Calls prog 101 #[v,.int .i64 o,.int .i64 ln,.int .i64 b] w (jcP l o ln b w):=by
 have hV:=hv;obtain⟨A,c,rfl,hl,hA⟩:=hv;go_enter func101,ntmps101
 go_wp2_with fail;refine(UW _ _ _ hV).mono ?_
 rintro e W1 ⟨rfl,hb1⟩;cases hok:iD l
 ·have bK:=ah (jjx (o:=o) (ln:=ln) (b:=b) hok);have hc:lT l=1:=by unfold lT;rw[hok];rfl
  rw[hc];clear hc hok;go_wp2_with fail;go_ret3
  exact⟨_,by rw[bK.O];rfl,by rw[bK.O];exact Own.nil,hb1⟩
 ·have hc:lT l=0:=Xh.2 hok;have kD:=SG hok;rw[hc];clear hc;have hok':=ah hok;clear hok;go_wp2_with fail;refine(jiM _ _ l ⟨o,ln,b,0⟩ (hV.grow hb1) hok'.O (by omega)).mono ?_
  rintro e W2 ⟨rfl,hb2⟩;have KA:=hb1.trans (hb2.mono hb1.size);cases hf:zN l ⟨o,ln,b,0⟩
  ·have bK:=ah (jgv hok'.O hf);clear hf;go_wp2_with fail;go_ret3
   exact⟨_,by rw[bK.O];rfl,by rw[bK.O];exact Own.nil,KA⟩
  ·have bK:=ah (jjw hok'.O hf);have hlt:=(yV.1 hf).1;clear hf;generalize pos l ⟨o,ln,b,0⟩=k at hlt bK ⊢
   obtain⟨jr6,LG,b0,b1,b2,b3⟩:=(hA.up KA KA.size).hold hlt;have hw1:IntKind.i64.wrap ((k:Int)+1)=(k:Int)+1:=by rw[jY];omega
   have hki:(k:Int)<(l.length:Int):=by omega
   have hVd:Sl ig W2.drew W2.drew.heap.size (.slice A l.length c) l:=(hV.grow KA).drew;have hd2:Below W2.heap.size W2 W2.drew:=(aj _ _).drew;clear b0 b1 b2 hok' hb1 hb2 hA;go_wp2_with fail;go_region_held3 (λw'=>w'.cell? ⟨jd A,ou A+k*4+3,none⟩=some (.int .i64 (hold l k).n)) (first|exact z1|go_keep)
    (first
    |(go_at_call 111;refine(Lj _ _ l hVd (by omega)).mono ?_;rintro e W9 ⟨u9,rfl,hu9,Hq⟩;have hd9:=hd2.trans (Hq.mono hd2.size);have z1:=(hd9.cell (p:=⟨_,_,none⟩) LG).trans b3)
    |(go_at_call 155;refine(jls _ _ u9 l k hu9 hlt (by omega)).mono ?_;rintro e W10 ⟨u10,rfl,SL,Cb,hat10⟩;have hd10:=hd9.grown Cb hd9.size (λq hq=>(hu9.size q hq).1);have z1:=(hd10.cell (p:=⟨_,_,none⟩) LG).trans b3))
   go_wp2_with fail;go_ret3
   exact⟨_,by rw[bK.O];rfl,by rw[bK.O];exact SL.from_ KA.size,KA.trans (hd10.mono KA.size)⟩
theorem add_bad{l:List dZ}{h:dZ}(hb:iD l=false\/lH h=false):add l h=([],1):=by
 unfold add;rcases hb with hb|hb
 ·rw[hb];rfl
 ·cases iD l
  ·rfl
  ·rw[hb];rfl
theorem jlH{l:List dZ}{h:dZ}(h1:iD l=true)(h2:lH h=true)(hf:zN l h=false):add l h=(l.take (pos l h)++h::l.drop (pos l h),0):=by
 have hk:=PO h1 hf;obtain⟨k1,k2,k3⟩:=nI.1 h2;unfold add;rw[h1,h2,ay (by simp),ay (by simp),hk,ay (by omega)]
 have e:({h with n:=0+h.n}:dZ)=h:=by cases h;simp
 rw[e,jgQ h1 k1 (by omega) hf]
theorem jjT{l:List dZ}{h:dZ}(h1:iD l=true)(h2:lH h=true)(hf:zN l h=true)(hn:200<(hold l (pos l h)).n+h.n):add l h=([],3):=by
 have hk:=QI h1 hf;unfold add;rw[h1,h2,ay (by simp),ay (by simp),hk,aB hn]
theorem jjS{l:List dZ}{h:dZ}(h1:iD l=true)(h2:lH h=true)(hf:zN l h=true)(hn:(hold l (pos l h)).n+h.n<=200):
  add l h=(l.set (pos l h) {hold l (pos l h)with n:=(hold l (pos l h)).n+h.n},0):=by
 have hk:=QI h1 hf;obtain⟨f1,f2⟩:=yV.1 hf;obtain⟨e1,e2,e3⟩:=G6.1 f2;have hn1:=jfS h1 f1;have hn2:=(nI.1 h2).2;unfold add;rw[h1,h2,ay (by simp),ay (by simp),hk,ay (by omega)]
 rw[Yj h1 (h:={h with n:=(hold l (pos l h)).n+h.n}) (nI.1 h2).1 (by simp only;omega) (by rw[jan];exact hf),jhB]
 simp only[e1,e2,e3]
theorem jrh(w:World)(v:Value)(l:List dZ)(h:dZ)(hv:Sl ig w w.heap.size v l):
  Calls prog 124 #[v,um h] w (jlK l h w):=by
 have hV:=hv;obtain⟨A,c,rfl,hl,hA⟩:=hv;have hb0:Below w.heap.size w (w.alloc (.cells #[.int .i64 (h).aC,.int .i64 (h).aG,.int .i64 (h).bin,.int .i64 (h).n] 46)):=(aj _ _).alloc (au _) _;unfold um;go_enter func124,ntmps124
 go_wp2_with fail;refine(UW _ _ _ (hV.grow hb0)).mono ?_
 rintro e W1 ⟨rfl,hb1⟩;have X3:=hb0.trans (hb1.mono hb0.size);have hsz:=hb1.size;obtain⟨hc1,hf1⟩:=xH hb1;cases hok:iD l
 ·have bK:=ah (add_bad (h:=h) (.inl hok));have hc:lT l=1:=by unfold lT;rw[hok];rfl
  rw[hc];clear hc hok;go_wp2_with fail;go_ret2
  exact⟨_,by rw[bK.O];rfl,by rw[bK.O];exact Own.nil,X3⟩
 ·have hc:lT l=0:=Xh.2 hok;have kD:=SG hok;rw[hc];clear hc;have hok':=ah hok;clear hok;go_wp2_with fail;refine(WB h _).mono ?_
  rintro e W2 ⟨rfl,hb2⟩;have BG:=hb1.trans (hb2.mono hb1.size);have KA:=hb0.trans (BG.mono hb0.size);obtain⟨hc2,hf2⟩:=xH BG;clear hc1 hf1;cases hfi:lH h
  ·have bK:=ah (add_bad (l:=l) (.inr hfi));go_wp2_with fail;go_ret2
   exact⟨_,by rw[bK.O];rfl,by rw[bK.O];exact Own.nil,KA⟩
  ·have jk2:=ah hfi;have hlt2:w.heap.size<W2.heap.size:=by have:=BG.size;simp at this;omega
   go_wp2_with fail;clear hfi;refine(jiM _ _ l h (hV.grow KA) hok'.O (by omega)).mono ?_
   rintro e W3 ⟨rfl,hb3⟩;have Oe:=BG.trans (hb3.mono BG.size);have QE:=hb0.trans (Oe.mono hb0.size);obtain⟨hc3,hf3⟩:=xH Oe;have hlt3:w.heap.size<W3.heap.size:=by have:=hb3.size;omega
   obtain⟨y0,y1,y2,y3⟩:W3.cell? ⟨w.heap.size,0,none⟩=some (.int .i64 h.aC)/\W3.cell? ⟨w.heap.size,1,none⟩=some (.int .i64 h.aG)/\W3.cell? ⟨w.heap.size,2,none⟩=some (.int .i64 h.bin)/\W3.cell? ⟨w.heap.size,3,none⟩=some (.int .i64 h.n):=
    ⟨(hc3 _ _ (by simp)).trans (by simp),(hc3 _ _ (by simp)).trans (by simp),(hc3 _ _ (by simp)).trans (by simp),(hc3 _ _ (by simp)).trans (by simp)⟩
   clear hc2 hf2 hc3 hf3 hb1 hb2 BG hsz;have jij:=(Q8 l h).1;cases hf:zN l h
   ·have bK:=ah (jlH hok'.O jk2.O hf);clear hf;generalize pos l h=k at bK jij ⊢
    have hVd:Sl ig W3.drew W3.drew.heap.size (.slice A l.length c) l:=(hV.grow QE).drew;have hd3:Below W3.heap.size W3 W3.drew:=(aj _ _).drew;have he3:Below W3.heap.size W3 (W3.drew.alloc (.cells #[.int .i64 (h).aC,.int .i64 (h).aG,.int .i64 (h).bin,.int .i64 (h).n] 46)):=hd3.alloc (au _) _;have hVe:=(hV.grow QE).grow he3;have hEb:iV (W3.drew.alloc (.cells #[.int .i64 (h).aC,.int .i64 (h).aG,.int .i64 (h).bin,.int .i64 (h).n] 46)) W3.heap.size 46 (ig h):=iV.new W3.drew 46 #[.int .i64 (h).aC,.int .i64 (h).aG,.int .i64 (h).bin,.int .i64 (h).n];go_wp2_with fail;go_region_held3 (λw'=>w'.cell? ⟨w.heap.size,0,none⟩=some (.int .i64 h.aC)/\w'.cell? ⟨w.heap.size,1,none⟩=some (.int .i64 h.aG)/\w'.cell? ⟨w.heap.size,2,none⟩=some (.int .i64 h.bin)/\w'.cell? ⟨w.heap.size,3,none⟩=some (.int .i64 h.n)) (first|exact⟨z1,z2,z3,z4⟩|go_keep)
     (first
     |(go_at_call 111;refine(Lj _ _ l hVd (by omega)).mono ?_;rintro e W9 ⟨u9,rfl,hu9,Hq⟩;have hd9:=hd3.trans (Hq.mono hd3.size);have z1:=(hd9.cell (p:=⟨w.heap.size,0,none⟩) hlt3).trans y0;have z2:=(hd9.cell (p:=⟨w.heap.size,1,none⟩) hlt3).trans y1;have z3:=(hd9.cell (p:=⟨w.heap.size,2,none⟩) hlt3).trans y2;have z4:=(hd9.cell (p:=⟨w.heap.size,3,none⟩) hlt3).trans y3)
     |(go_at_call 111;refine(Lj _ _ l hVe (by omega)).mono ?_;rintro e W19 ⟨u19,rfl,jqI,jn3⟩;have jiN:=he3.trans (jn3.mono he3.size);have i13:=hEb.below jn3 (by simp);have z1:=(jiN.cell (p:=⟨w.heap.size,0,none⟩) hlt3).trans y0;have z2:=(jiN.cell (p:=⟨w.heap.size,1,none⟩) hlt3).trans y1;have z3:=(jiN.cell (p:=⟨w.heap.size,2,none⟩) hlt3).trans y2;have z4:=(jiN.cell (p:=⟨w.heap.size,3,none⟩) hlt3).trans y3)
     |(go_at_call 165;have i1:=hu9.alloc (.cells #[.int .i64 (h).aC,.int .i64 (h).aG,.int .i64 (h).bin,.int .i64 (h).n] 46);have i2:W3.drew.heap.size<=(W9.alloc (.cells #[.int .i64 (h).aC,.int .i64 (h).aG,.int .i64 (h).bin,.int .i64 (h).n] 46)).heap.size:=(by have:=hd9.size;simp;omega);have i3:iV (W9.alloc (.cells #[.int .i64 (h).aC,.int .i64 (h).aG,.int .i64 (h).bin,.int .i64 (h).n] 46)) W9.heap.size 46 (ig h):=iV.new W9 46 #[.int .i64 (h).aC,.int .i64 (h).aG,.int .i64 (h).bin,.int .i64 (h).n];have i4:u9.ownBlock≠some W9.heap.size:=(λhq=>(Nat.lt_irrefl _ (hu9.size _ hq).2));refine(jfb _ _ u9 l h k W9.heap.size i1 jij (by omega) i2 i3 i4).mono ?_;rintro e W10 ⟨u10,rfl,SL,jn4⟩;have hd10:=(hd9.alloc hd9.size (.cells #[.int .i64 (h).aC,.int .i64 (h).aG,.int .i64 (h).bin,.int .i64 (h).n] 46)).trans jn4;have z1:=(hd10.cell (p:=⟨w.heap.size,0,none⟩) hlt3).trans y0;have z2:=(hd10.cell (p:=⟨w.heap.size,1,none⟩) hlt3).trans y1;have z3:=(hd10.cell (p:=⟨w.heap.size,2,none⟩) hlt3).trans y2;have z4:=(hd10.cell (p:=⟨w.heap.size,3,none⟩) hlt3).trans y3)
     |(go_at_call 165;have i14:u19.ownBlock≠some W3.heap.size:=(λhq=>(by have:=(jqI.size _ hq).1;simp at this;omega));refine(jfb _ _ u19 l h k W3.heap.size jqI jij (by omega) jn3.size i13 i14).mono ?_;rintro e W10 ⟨u10,rfl,SL,jn4⟩;have hd10:=jiN.trans (jn4.mono he3.size);have z1:=(hd10.cell (p:=⟨w.heap.size,0,none⟩) hlt3).trans y0;have z2:=(hd10.cell (p:=⟨w.heap.size,1,none⟩) hlt3).trans y1;have z3:=(hd10.cell (p:=⟨w.heap.size,2,none⟩) hlt3).trans y2;have z4:=(hd10.cell (p:=⟨w.heap.size,3,none⟩) hlt3).trans y3))
    ·go_wp2_with fail;go_ret2
     exact⟨_,by rw[bK.O];rfl,by rw[bK.O];exact SL.from_ QE.size,QE.trans (hd10.mono QE.size)⟩
    ·go_wp2_with fail;go_ret2
     exact⟨_,by rw[bK.O];rfl,by rw[bK.O];exact SL.from_ (aY QE.size he3.size),QE.trans (hd10.mono QE.size)⟩
   ·have hlt:=(yV.1 hf).1;obtain⟨jr6,LG,b0,b1,b2,b3⟩:=(hA.up QE QE.size).hold hlt;have hn1:=jfS hok'.O hlt;have hn2:=(nI.1 jk2.O).2;have hw1:IntKind.i64.wrap ((hold l (pos l h)).n+h.n)=(hold l (pos l h)).n+h.n:=by rw[jY];omega
    by_cases hbig:200<(hold l (pos l h)).n+h.n
    ·have bK:=ah (jjT hok'.O jk2.O hf hbig);clear hf;generalize pos l h=k at hlt bK hw1 hbig hn1 b0 b1 b2 b3 ⊢
     have hki:(k:Int)<(l.length:Int):=by omega
     clear hn1 hn2;go_wp2_with fail;go_quiet (fail)
     clear hw1;go_wp2_with fail;go_ret2
     exact⟨_,by rw[bK.O];rfl,by rw[bK.O];exact Own.nil,below_drewN QE _⟩
    ·have hle:(hold l (pos l h)).n+h.n<=200:=by omega
     have bK:=ah (jjS hok'.O jk2.O hf hle);clear hf hbig;generalize pos l h=k at hlt bK hw1 hle hn1 b0 b1 b2 b3 ⊢
     have hki:(k:Int)<(l.length:Int):=by omega
     go_wp2_with fail;go_quiet (fail)
     have hbq:Below W3.heap.size W3 (W3.drewN nq):=below_drewN (aj _ _) nq;go_wp2_with fail;refine(Lj _ _ l ((hV.grow QE).grow hbq) (by omega)).mono ?_
     rintro e W9 ⟨u9,rfl,hu9,Hq⟩;obtain⟨g,c9,rfl,hgb,hgl⟩:=hu9.some_ (by omega)
     have hd9:=hbq.trans (Hq.mono hbq.size);have x3:=(hd9.cell (p:=⟨w.heap.size,3,none⟩) hlt3).trans y3;have hc9:W9.cell? ⟨g,k*4+3,none⟩=some (.int .i64 (hold l k).n):=by
      rw[World.ownsRow.cellAt hu9 (k*4+3) (by omega),KZ ig 4 (λ_=>rfl) l k 3 (hold l k) (by rw[iL hlt];simp) (by omega)]
      rfl
     have hf9:W9.frozen? ⟨g,k*4+3,none⟩=false:=World.ownsRow.frozenAt hu9 _;obtain⟨E8,je⟩:=Own.store (y:={hold l k with n:=(hold l k).n+h.n}) (u:=.int .i64 ((hold l k).n+h.n)) hu9 (λ_=>rfl) hlt (show 3<4 by omega) (by rw[<- iL hlt];rfl)
     have hgne:g≠w.heap.size:=by have:=hlt3;have:=hgb;simp at this;omega
     have MB:=ah E8;have NZ:=ah je;clear E8 je;go_wp2_with fail;go_region
     go_wp2_with fail;go_ret2
     exact⟨_,by rw[bK.O];rfl,by rw[bK.O];exact(MB.O.from_ (aY QE.size hbq.size)).drew,QE.trans ((hd9.grown NZ.O hd9.size (λq hq=>by cases hq;exact hgb)).drew.mono QE.size)⟩
end Wh
