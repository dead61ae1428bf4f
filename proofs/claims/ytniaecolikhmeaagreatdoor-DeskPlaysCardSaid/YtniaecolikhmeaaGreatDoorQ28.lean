/- Texts of the claim, joined. -/
import Derived.Test.YtniaecolikhmeaaGreatDoorQ26
import Derived.Test.YtniaecolikhmeaaGreatDoorQ20
set_option maxHeartbeats 20000000
set_option maxRecDepth 100000
set_option linter.all false
namespace Wh
open Go Go.RowKit Go.Shelf Go.Proofs Tryz
section
attribute [local go_sem] aV jF iY jI
theorem jb8(w:World)(v vs vl:Value)(p:dG)(s:aI)(op:List Nat)(l:List Int)(e1:op=sF)(hp:kK w w v p)(hv:kG w w vs s)(hl:Sl iW w w vl l)(h1:l.length=1)(hsz:aO p s=0):
  Calls prog 50 #[v,vs,.string (eY op),vl] w (Bg (nD p s op l) w):=by
 have d1:(eY op).toList=[111,114,100,101,114]:=by rw[e1];exact tN _
 have hop':=ah e1;obtain⟨A,c,rfl⟩:=hl.isSlice;have hA:=ah hl.at_;have h1i:(l.length:Int)=1:=by omega
 have h4:=(gB.1 hsz).1.nX;have hsn:=ah (gB.1 hsz).1;obtain⟨ok0,lA,z0⟩:=hA.O.int (i:=0) (by omega)
 rw[fZ]at z0
 clear e1 hl hsz;cases hib:dM (aZ l 0) 0 (s.ak.length - 1)
 ·have hres:=ah (show nD p s op l=some ([],4)by
   rw[hop'.O];unfold nD;rw[au (by simp[sF,sD]),aB ⟨rfl,h1⟩,au]
   intro hc;have:dM (aZ l 0) 0 (s.ak.length - 1)=true:=dZ.2 (by unfold aZ;omega)
   rw[hib]at this
   cases this)
  have hw:=ah (λW=>PO hib W)
  clear hib;obtain⟨Ab,cb,As,cs,rfl,hP',hBn,hSz,hlb,hls⟩:=o9 hp;obtain⟨A0,c0,A1,c1,A2,c2,A3,c3,A4,c4,A5,c5,A6,c6,rfl,hV,hN,hO,hH,hM,hI,hU,hX,hl0,hl1,hl2,hl3,hl4,hl5,Jb⟩:=lY hv;go_enter func50,ntmps50
  go_wp2_with fail;obtain⟨W0,hW0,hb0,kX,um,hsE,hK⟩:=uT w p s Ab cb As cs A0 c0 A1 c1 A2 c2 A3 c3 A4 c4 A5 c5 A6 c6;rw[hW0];clear hW0;obtain⟨⟨y0,y1⟩,x0,x1,x2,x3,x4,x5,x6,fB,fC⟩:=hK.O W0 (aj W0 W0);have z1:=(hb0.cell (p:=⟨iH A,l9 A,none⟩) lA).trans z0;have lA':iH A<W0.heap.size:=aJ lA hb0.size;have q2:=λo d os=>cZ (w:=W0) (b:=w.heap.size+1) fB o d os
  have q3:=λo d os=>cZ (w:=W0) (b:=iH A) lA' o d os
  clear z0;refine dO (by kernel_rfl) (by kernel_rfl) ?_
  repeat(go_big_quiet_step ((go_at_call 43;refine yR (hw.O _))))
  refine wpQuiet_nil ?_
  intro W1 hw';have hb1:=dN hw';clear hw';have hB1:=fD hb0 hb1;clear q2 q3 z1 lA';clear y0 y1 x0 x1 x2 x3 x4 x5 x6 fB fC;go_wp2_with fail;exact bV (v:=.tuple #[nS,.int .i64 4,.bool true]) (by simp[results,results50,go_sem]) rfl ⟨hB1,.inr ⟨_,_,_,hres.O,rfl,λh=>by cases h⟩⟩
 ·obtain⟨i1,i2⟩:=dZ.1 hib;obtain⟨o,hoo⟩:∃o:Nat,aZ l 0=(o:Int):=⟨(aZ l 0).toNat,by omega⟩
  have ho:o<s.ak.length:=by omega
  have hoi:(o:Int)<(s.ak.length:Int):=by omega
  have hl3:=(hsn.O.rE ho).2;have hres:=ah (show nD p s op l=some ((s.aC o).eH::(s.aC o).aH.flatMap (λx=>[x.jk,x.qI,x.eU]),0)by
   rw[hop'.O];unfold nD;have e:l.getD 0 0=(o:Int):=hoo;rw[au (by simp[sF,sD]),aB ⟨rfl,h1⟩,aB (by rw[e];omega),e]
   rfl)
  have hw:=ah (show ∀W:World,Calls prog 43 #[(o:Int),zI,.int .i64 (s.ak.length - 1)] W λe w'=>e=.returned (.bool true)/\W=w' from λW=>PO (by rw[<- hoo];exact hib) W)
  rw[hoo]at z0
  clear hib hoo i1 i2;obtain⟨r,hr⟩:∃r,s.aC o=r:=⟨_,rfl⟩;have hr':bK s.ak o=r:=hr;rw[hr]at hres hl3
  clear hr;obtain⟨Ab,cb,As,cs,rfl,hP',hBn,hSz,hlb,hls⟩:=o9 hp;obtain⟨A0,c0,A1,c1,A2,c2,A3,c3,A4,c4,A5,c5,A6,c6,rfl,hV,hN,hO,hH,hM,hI,hU,hX,hl0,hl1,hl2,hl3,hl4,hl5,Jb⟩:=lY hv;go_enter func50,ntmps50
  go_wp2_with fail;obtain⟨W0,hW0,hb0,kX,um,hsE,hK⟩:=uT w p s Ab cb As cs A0 c0 A1 c1 A2 c2 A3 c3 A4 c4 A5 c5 A6 c6;rw[hW0];clear hW0;obtain⟨⟨y0,y1⟩,x0,x1,x2,x3,x4,x5,x6,fB,fC⟩:=hK.O W0 (aj W0 W0);have z1:=(hb0.cell (p:=⟨iH A,l9 A,none⟩) lA).trans z0;have lA':iH A<W0.heap.size:=aJ lA hb0.size;have q2:=λo d os=>cZ (w:=W0) (b:=w.heap.size+1) fB o d os
  have q3:=λo d os=>cZ (w:=W0) (b:=iH A) lA' o d os
  clear z0;refine dO (by kernel_rfl) (by kernel_rfl) ?_
  repeat(go_big_quiet_step ((go_at_call 43;refine yR (hw.O _))))
  refine wpQuiet_nil ?_
  intro W1 hw';have hb1:=dN hw';clear hw';have hB1:=fD hb0 hb1;have z2:=ah (λW (hW:Below W0 W0 W)=>(hW.cell (p:=⟨iH A,l9 A,none⟩) lA').trans z1)
  clear q2 q3 z1;clear y0 y1 x0 x1 x2 x3 x4 x5 x6 fB fC;obtain⟨⟨y0,y1⟩,x0,x1,x2,x3,x4,x5,x6,fB,fC⟩:=hK.O W1 (hb1);have z3:=z2.O _ hb1;have lA1:=aJ lA' hb1.size;obtain⟨Al,cl,ol,ll,d0,d2,hsl⟩:=(hO.O W1 hB1).aC ho;rw[hr']at d0 d2
  go_wp2_with fail;refine IX 10 [rV 57 (nS),rV 58 (.pointer (some ⟨w.heap.size+1,1,none⟩)),rV 59 (.slice A1 s.ak.length c1),rV 60 (.slice A l.length c),rV 61 (.pointer (some ⟨iH A,l9 A,none⟩)),rV 62 ((o:Int)),rV 63 (.pointer (some ⟨iH A1,l9 A1+o*2,none⟩)),rV 64 (.pointer (some ⟨iH A1,l9 A1+o*2,none⟩)),rV 65 (r.eH),λgq w'=>(λv w'=>∃bb,v=.slice (some ⟨bb,0,none⟩) 1 1/\iJ w' bb 3 [r.eH]) (gq 66) w'] ?_ (λf W2 hb2 hR=>?_)
  simp only[aG,aS];refine bT.v (λgq w' hb ho hd=>?_) ?_
  ·have e11:=ho 11 rfl;go_simp
  refine bT.v (λgq w' hb ho hd=>?_) ?_
  ·have e5:=ho 5 rfl;go_simp
  refine bT.v (λgq w' hb ho hd=>?_) ?_
  ·have e58:_=_:=hd.d 1;have y1:=(hb.cell (p:=⟨w.heap.size+1,1,none⟩) fB).trans x1;go_simp
  refine bT.v (λgq w' hb ho hd=>?_) ?_
  ·have e3:=ho 3 rfl;go_simp
  refine bT.v (λgq w' hb ho hd=>?_) ?_
  ·have e60:_=_:=hd.d 3;go_simp
  refine bT.v (λgq w' hb ho hd=>?_) ?_
  ·have e61:_=_:=hd.d 4;have y1:=(hb.cell (p:=⟨iH A,l9 A,none⟩) lA1).trans z3;go_simp
  refine bT.v (λgq w' hb ho hd=>?_) ?_
  ·have e59:_=_:=hd.d 2;have e62:_=_:=hd.d 5;go_simp
  refine bT.v (λgq w' hb ho hd=>?_) ?_
  ·have e63:_=_:=hd.d 6;go_simp
  refine bT.v (λgq w' hb ho hd=>?_) ?_
  ·have e64:_=_:=hd.d 7;have y1:=(hb.cell (p:=⟨iH A1,l9 A1+o*2,none⟩) ll).trans d0;go_simp
  refine bT.cons (sN.one (d:=66) (p:=(λv w'=>∃bb,v=.slice (some ⟨bb,0,none⟩) 1 1/\iJ w' bb 3 [r.eH])) rfl rfl (λv w1 w2 h hb=>let ⟨bb,h1,h2⟩:=h;⟨bb,h1,h2.below hb h2.lt⟩) (λgq w' hb ho hd=>?_)) ?_
  ·have e65:_=_:=hd.d 8;unfold iq;go_simp
   exact⟨iJ.new _ _ _,(aj _ _).alloc (ay _) _⟩
  exact bT.nil;obtain⟨r57,r58,r59,r60,r61,r62,r63,r64,r65,r66,_⟩:=hR;replace r66:∃bb,(f 66)=.slice (some ⟨bb,0,none⟩) 1 1/\iJ W2 bb 3 [r.eH]:=r66;simp only[kP,qJ,aG,aS,bU,dH,bY,cO,dA,dL,aQ,bG,bH,r57,r58,r59,r60,r61,r62,r63,r64,r65];clear r57 r58 r59 r60 r61 r62 r63 r64 r65;obtain⟨bb,r66,hbb⟩:=r66;simp only[r66];clear r66;clear y0 y1 x0 x1 x2 x3 x4 x5 x6 fB fC;clear z3 d0 d2 hsl;have h02:=fD hb1 hb2;have hs2:=h02.size;refine jV _ rfl (.tmp 57) (.tmp 66) 23 3 rfl W0.heap.size _ 1 8 underlying23 zS rfl (by decide) (by decide) (nS) ([]:List Int) r.eH rfl Own.nil bb 1 rfl rfl (λj u hj=>by rw[gy,fM];exact hbb.cell hj) (Dv _) (by simp) (by omega) ?_
  intro v9 w9 C9 jg Oe AA;have h09:=ah (h02.trans AA);have Gs:=ah C9;obtain⟨A9,c9,jaY⟩:=C9.isSlice;subst jaY;clear C9 jg Oe AA hbb hb1 hb2 hB1 h02 hs2 lA1;go_wp2_with fail;go_loopw[11,13] (λv i wr=>∃k:Nat,k<=r.aH.length/\i=.int .i64 (k:Nat)/\Own iW 1 3 wr W0.heap.size v (r.eH::(r.aH.take k).flatMap (λx=>[x.jk,x.qI,x.eU]))/\Below W0.heap.size W0 wr) (λ_ i _=>r.aH.length - (RowKit.intOf i).toNat)
  case atStart=>exact⟨0,aN _,rfl,Gs.O,h09.O⟩
  case round=>
   clear Gs h09;obtain⟨k,hk,rfl,C9,h0r⟩:=hrel;have hBr:=fD hb0 h0r;have hlk:(r.eH::(r.aH.take k).flatMap (λx=>[x.jk,x.qI,x.eU])).length=k*3+1:=by rw[bP,A8 (n:=3) _ (λ_=>rfl),bC];congr 2;omega
   obtain⟨Ao,co,TM⟩:=C9.isSlice;subst TM;rw[hlk]at C9 ⊢
   have ho':=ah C9;clear C9;obtain⟨⟨y0,y1⟩,x0,x1,x2,x3,x4,x5,x6,fB,fC⟩:=hK.O wr (h0r);have z3:=z2.O _ h0r;have lAr:=aJ lA' h0r.size;obtain⟨Al,cl,ol,ll,d0,d2,hsl⟩:=(hO.O wr hBr).aC ho;rw[hr']at d0 d2 hsl
   by_cases hlt:k<r.aH.length
   ·have hki:(k:Int)<(r.aH.length:Int):=by omega
    obtain⟨okl,lll,e0,e1,e2,e3⟩:=hsl.at_.aK hlt;have hlt':=ah (JG (λx:Line=>[x.jk,x.qI,x.eU]) r.aH IU hlt)
    clear hsl;go_wp2_with fail;go_quiet (fail)
    go_wp2_with fail;have h05:=h0r.trans ((below_drewN (aj wr wr) nq).mono h0r.size);have DC:=ah (show Own iW 1 3 (wr.drewN nq) W0 (.slice Ao (k*3+1) co) (r.eH::(r.aH.take k).flatMap (λx=>[x.jk,x.qI,x.eU]))from ho'.O.below (below_drewN (aj wr wr) nq))
    clear y0 y1 x0 x1 x2 x3 x4 x5 x6 fB fC;clear z3 lAr d0 d2 ol ll e0 e1 e2 e3 okl lll hBr ho' h0r;generalize wr.drewN nq=W5 at h05 DC ⊢
    have YV:=fD hb0 h05;obtain⟨⟨y0,y1⟩,x0,x1,x2,x3,x4,x5,x6,fB,fC⟩:=hK.O W5 (h05);have z3:=z2.O _ h05;have lAr:=aJ lA' h05.size;obtain⟨Al,cl,ol,ll,d0,d2,hsl⟩:=(hO.O W5 YV).aC ho;rw[hr']at d0 d2 hsl
    obtain⟨okl,lll,e0,e1,e2,e3⟩:=hsl.at_.aK hlt;clear hsl;refine IX 12 [rV 81 (.pointer (some ⟨w.heap.size+1,1,none⟩)),rV 82 (.slice A1 s.ak.length c1),rV 83 (.slice A l.length c),rV 84 (.pointer (some ⟨iH A,l9 A,none⟩)),rV 85 ((o:Int)),rV 86 (.pointer (some ⟨iH A1,l9 A1+o*2,none⟩)),rV 87 (.pointer (some ⟨iH A1,l9 A1+o*2+1,none⟩)),rV 88 (.slice Al r.aH.length cl),rV 89 (k),rV 90 (.pointer (some ⟨iH Al,l9 Al+k*4,none⟩)),rV 91 (.agg (Vg (fG r.aH k))),λgq w'=>(λv w'=>∃bb,W5.heap.size<=bb/\v=.pointer (some ⟨bb,0,none⟩)/\iJ w' bb 106 [zI,zI,zI,zI]) (gq 14) w'] ?_ (λf W6 hb6 hR=>?_)
    simp only[aG,aS];refine bT.v (λgq w' hb ho hd=>?_) ?_
    ·have e5:=ho 5 rfl;go_simp
    refine bT.v (λgq w' hb ho hd=>?_) ?_
    ·have e81:_=_:=hd.d 0;have y1:=(hb.cell (p:=⟨w.heap.size+1,1,none⟩) fB).trans x1;go_simp
    refine bT.v (λgq w' hb ho hd=>?_) ?_
    ·have e3:=ho 3 rfl;go_simp
    refine bT.v (λgq w' hb ho hd=>?_) ?_
    ·have e83:_=_:=hd.d 2;go_simp
    refine bT.v (λgq w' hb ho hd=>?_) ?_
    ·have e84:_=_:=hd.d 3;have y1:=(hb.cell (p:=⟨iH A,l9 A,none⟩) lAr).trans z3;go_simp
    refine bT.v (λgq w' hb ho hd=>?_) ?_
    ·have e82:_=_:=hd.d 1;have e85:_=_:=hd.d 4;go_simp
    refine bT.v (λgq w' hb ho hd=>?_) ?_
    ·have e86:_=_:=hd.d 5;go_simp
    refine bT.v (λgq w' hb ho hd=>?_) ?_
    ·have e87:_=_:=hd.d 6;have y1:=(hb.cell (p:=⟨iH A1,l9 A1+o*2+1,none⟩) ll).trans d2;go_simp
    refine bT.v (λgq w' hb ho hd=>?_) ?_
    ·have e13:=ho 13 rfl;go_simp
    refine bT.v (λgq w' hb ho hd=>?_) ?_
    ·have e88:_=_:=hd.d 7;have e89:_=_:=hd.d 8;go_simp
    refine bT.v (λgq w' hb ho hd=>?_) ?_
    ·have e90:_=_:=hd.d 9;have u0:=(hb.cell (p:=⟨iH Al,l9 Al+k*4,none⟩) lll).trans e0;have u1:=(hb.cell (p:=⟨iH Al,l9 Al+k*4+1,none⟩) lll).trans e1;have u2:=(hb.cell (p:=⟨iH Al,l9 Al+k*4+2,none⟩) lll).trans e2;have u3:=(hb.cell (p:=⟨iH Al,l9 Al+k*4+3,none⟩) lll).trans e3;go_simp
    refine bT.cons (sN.one (d:=14) (p:=(λv w'=>∃bb,W5.heap.size<=bb/\v=.pointer (some ⟨bb,0,none⟩)/\iJ w' bb 106 [zI,zI,zI,zI])) rfl rfl (λv w1 w2 h hb=>let ⟨bb,h0,h1,h2⟩:=h;⟨bb,h0,h1,h2.below hb h2.lt⟩) (λgq w' hb ho hd=>?_)) ?_
    ·unfold iq;go_simp
     exact⟨⟨_,hb.size,rfl,iJ.new _ _ _⟩,(aj _ _).alloc (ay _) _⟩
    exact bT.nil;obtain⟨r81,r82,r83,r84,r85,r86,r87,r88,r89,r90,r91,TK,_⟩:=hR;replace TK:∃bb,W5.heap.size<=bb/\(f 14)=.pointer (some ⟨bb,0,none⟩)/\iJ W6 bb 106 [zI,zI,zI,zI]:=TK;simp only[kP,qJ,aG,aS,bU,dH,bY,cO,dA,dL,aQ,bG,bH,r81,r82,r83,r84,r85,r86,r87,r88,r89,r90,r91];clear r81 r82 r83 r84 r85 r86 r87 r88 r89 r90 r91;obtain⟨bb,hbl,TK,hbb⟩:=TK;simp only[TK];clear TK;clear y0 y1 x0 x1 x2 x3 x4 x5 x6 fB fC;clear z3 lAr d0 d2 ol ll e0 e1 e2 e3 okl lll YV;refine jP rfl 106 (.tmp 14) (.tmp 91) rfl bb (Vg (fG r.aH k)) rfl rfl 106 _ hbb (by kernel_rfl) rfl (by simp[Value.oneCell']) ?_
    have h06:=fD h05 hb6;have jj1:=ah (show iJ (W6.setRow bb (Vg (fG r.aH k))) bb 106 [.int .i64 (fG r.aH k).dW,.int .i64 (fG r.aH k).jk,.int .i64 (fG r.aH k).qI,.int .i64 (fG r.aH k).eU]from iJ.row hbb [.int .i64 (fG r.aH k).dW,.int .i64 (fG r.aH k).jk,.int .i64 (fG r.aH k).qI,.int .i64 (fG r.aH k).eU])
    have h07:=tV h06 (aU h05.size hbl) (Vg (fG r.aH k));have I9:=ah ((DC.O.below hb6).kept (wL W6 bb (Vg (fG r.aH k))) (Own.qy (DC.O.below hb6) hbb (by decide)))
    clear DC hbb h06 h05 hb6 hbl;generalize W6.setRow bb (Vg (fG r.aH k))=W7 at jj1 h07 I9 ⊢
    refine eP ?_
    have g1:=jj1.O.cell (j:=1) rfl;have g2:=jj1.O.cell (j:=2) rfl;have g3:=jj1.O.cell (j:=3) rfl;have hs7:=h07.size;go_wp2_with (at_builtin;refine bD ?_)
    unfold Hid;have Yt:=((Own.lit (enc:=iW) (size:=1) (aT:=W7.heap.size) W7 3 #[.int .i64 (fG r.aH k).jk,.int .i64 (fG r.aH k).qI,.int .i64 (fG r.aH k).eU] [(fG r.aH k).jk,(fG r.aH k).qI,(fG r.aH k).eU] (by simp) (by simp) (λ_=>rfl) rfl).sl (by simp)).at_
    have O4:=ah Yt;clear Yt;refine(yH _ rfl (.tmp 92) (.tmp 99) 23 3 rfl W0.heap.size _ 1 8 underlying23 zS rfl (by decide) (by decide) _ _ [(fG r.aH k).jk,(fG r.aH k).qI,(fG r.aH k).eU] rfl (I9.O.alloc _) (some ⟨W7.heap.size,0,none⟩) 3 _ rfl (λ_=>rfl) O4.O (λy=>Dv y) (by rw[hlk];simp;omega) (by simp only[dK];omega) (λv9 w9 C9 jg Oe AA=>?_))
    have Bj:=ah ((h07.alloc h07.size _).trans AA);have Gs:=ah C9;clear C9 jg Oe AA I9 O4 g1 g2 g3 jj1 h07;go_wp2_with fail;go_roundw
    case rel=>exact⟨k+1,by omega,by go_num,by rw[hlt'.O];exact Gs.O,Bj.O⟩
    case measure=>simp[dY];omega
   ·obtain rfl:k=r.aH.length:=by omega
    rw[dR]at ho' hlk
    go_wp2_with fail;go_quiet (fail)
    go_wp2_with fail;have hdn:=below_drewN (aj wr wr) nq;exact bV (v:=.tuple #[.slice Ao (r.aH.length*3+1) co,zI,.bool true]) (by simp[results,results50,go_sem]) rfl ⟨below_drewN hBr _,.inr ⟨_,_,_,hres.O,rfl,λ_=>((ho'.O.sl (by rw[hlk];omega)).up hdn hdn.size)⟩⟩
theorem jed(w:World)(v vs vl:Value)(p:dG)(s:aI)(op:List Nat)(l:List Int)(e1:op=CO)(hp:kK w w v p)(hv:kG w w vs s)(hl:Sl iW w w vl l)(h0:l.length=0)(h4:s.ak.length<=4):
  Calls prog 50 #[v,vs,.string (eY op),vl] w (Bg (nD p s op l) w):=by
 have d1:(eY op).toList=[111,112,101,110]:=by rw[e1];exact tN _
 have h0i:(l.length:Int)=0:=by omega
 have hres:=ah (show nD p s op l=some ([G8 s],0)by
  rw[e1];unfold nD;simp[h0,sD,sF,uJ,uI,CO])
 obtain⟨A,c,rfl⟩:=hl.isSlice;clear e1 hl h0;obtain⟨Ab,cb,As,cs,rfl,hP',hBn,hSz,hlb,hls⟩:=o9 hp;obtain⟨A0,c0,A1,c1,A2,c2,A3,c3,A4,c4,A5,c5,A6,c6,rfl,hV,hN,hO,hH,hM,hI,hU,hX,hl0,hl1,hl2,hl3,hl4,hl5,Jb⟩:=lY hv;go_enter func50,ntmps50
 go_wp2_with fail;obtain⟨W0,hW0,hb0,kX,um,hsE,hK⟩:=uT w p s Ab cb As cs A0 c0 A1 c1 A2 c2 A3 c3 A4 c4 A5 c5 A6 c6;rw[hW0];clear hW0;obtain⟨⟨y0,y1⟩,x0,x1,x2,x3,x4,x5,x6,fB,fC⟩:=hK.O W0 (aj W0 W0);go_wp2_with (go_at_call 81;refine(jlf _ _ s (hV.O W0 hb0) h4).mono ?_;rintro e W1 ⟨rfl,hb1⟩)
 have hB1:=fD hb0 hb1;exact bV (v:=.tuple #[.slice (some W1) 1 1,zI,.bool true]) (by simp[results,results50,go_sem]) rfl ⟨hB1.alloc hB1.size _,.inr ⟨_,_,_,hres.O,rfl,λ_=>(Own.lit (enc:=iW) (size:=1) (aT:=W1.heap.size) W1 3 #[(G8 s)] [G8 s] (ay _) (by simp) (λ_=>rfl) rfl).sl (by simp)⟩⟩
theorem jir(w:World)(v vs vl:Value)(p:dG)(s:aI)(op:List Nat)(l:List Int)(hp:kK w w v p)(hv:kG w w vs s)(hop:∀x∈op,x<256)(hl:Sl iW w w vl l)(hsz:aO p s=0):
  Calls prog 50 #[v,vs,.string (eY op),vl] w (Bg (nD p s op l) w):=by
 have no:=λh=>jee w v vs vl p s op l hp hv hop hl h
 have none_:∀(h:nD p s op l=none),Calls prog 50 #[v,vs,.string (eY op),vl] w (Bg none w)->Calls prog 50 #[v,vs,.string (eY op),vl] w (Bg (nD p s op l) w):=λh c=>by rw[h];exact c
 by_cases e1:op=sD
 ·by_cases h:l.length=1
  ·exact jb7 w v vs vl p s op l e1 hp hv hl h (gB.1 hsz).1.plan hsz
  ·exact none_ (by rw[e1];unfold nD;simp[h,sD,sF,uJ,uI,CO]) (no (.inl ⟨e1,h⟩))
 by_cases e2:op=sF
 ·by_cases h:l.length=1
  ·exact jb8 w v vs vl p s op l e2 hp hv hl h hsz
  ·exact none_ (by rw[e2];unfold nD;simp[h,sD,sF,uJ,uI,CO]) (no (.inr (.inl ⟨e2,h⟩)))
 by_cases e3:op=uJ
 ·by_cases h:l.length=0
  ·exact jca w v vs vl p s op l e3 hp hv hl h hsz
  ·exact none_ (by rw[e3];unfold nD;simp[h,sD,sF,uJ,uI,CO]) (no (.inr (.inr (.inl ⟨e3,h⟩))))
 by_cases e4:op=uI
 ·by_cases h:l.length=0
  ·exact jb9 w v vs vl p s op l e4 hp hv hl h hsz
  ·exact none_ (by rw[e4];unfold nD;simp[h,sD,sF,uJ,uI,CO]) (no (.inr (.inr (.inr (.inl ⟨e4,h⟩)))))
 by_cases e5:op=CO
 ·by_cases h:l.length=0
  ·exact jed w v vs vl p s op l e5 hp hv hl h (gB.1 hsz).1.nX
  ·exact none_ (by rw[e5];unfold nD;simp[h,sD,sF,uJ,uI,CO]) (no (.inr (.inr (.inr (.inr (.inl ⟨e5,h⟩))))))
 exact none_ (by unfold nD;simp[e1,e2,e3,e4,e5]) (no (.inr (.inr (.inr (.inr (.inr ⟨e1,e2,e3,e4,e5⟩))))))
end
end Wh
